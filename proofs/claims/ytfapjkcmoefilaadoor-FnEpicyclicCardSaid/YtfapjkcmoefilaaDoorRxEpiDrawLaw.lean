/- Ratios in lowest terms, drawn planetary gears and ratios: in plain terms. No program in sight. -/
import Derived.Test.YtfapjkcmoefilaaDoorRxSrcLaw
import Derived.Test.YtfapjkcmoefilaaDoorRxEpiLaw
import Derived.Test.YtfapjkcmoefilaaDoorRxRatAddLaw
import Derived.Test.YtfapjkcmoefilaaDoorRxDrawEpi
namespace Go.Proofs.YtfapjkcmoefilaaDoor
namespace Rx
open Go
/-! ### Ratios in lowest terms -/
theorem mkR_parts {n d : Int} {p : Int × Int} (hd : 0 < d) (h : mkR n d = some p) : ∃ g : Int, 1 ≤ g ∧ n = g * p.1 ∧ d = g * p.2 := by
  have g1 := gcd_pos (n := n) (show d ≠ 0 by omega)
  refine ⟨Int.gcd n d, g1, ?_⟩
  have d1 : (Int.gcd n d : Int) ∣ n := Int.gcd_dvd_left ..
  have d2 : (Int.gcd n d : Int) ∣ d := Int.gcd_dvd_right ..
  unfold mkR at h
  dsimp only at h
  generalize (Int.gcd n d : Int) = g at *
  split at h
  · cases h
  · cases h
    obtain ⟨n', rfl⟩ := d1
    obtain ⟨d', rfl⟩ := d2
    dsimp only
    have e1 : decide (g * d' < 0) = false := decide_eq_false (by omega)
    have e2 : mag (g * d') = g * d' := mag_of_nn (by omega)
    rw [e1, e2, Int.mul_ediv_cancel_left _ (show g ≠ 0 by omega)]
    by_cases hn : g * n' < 0
    · have e3 : mag (g * n') = g * (-n') := by rw [mag_of_neg hn, Int.mul_neg]
      rw [decide_eq_true hn]
      show g * n' = g * (-(mag (g * n') / g)) ∧ _
      rw [e3, Int.mul_ediv_cancel_left _ (show g ≠ 0 by omega), Int.neg_neg]
      exact ⟨rfl, rfl⟩
    · have e3 : mag (g * n') = g * n' := mag_of_nn (by omega)
      rw [decide_eq_false hn]
      show g * n' = g * (mag (g * n') / g) ∧ _
      rw [e3, Int.mul_ediv_cancel_left _ (show g ≠ 0 by omega)]
      exact ⟨rfl, rfl⟩
theorem mkR_cross {n d : Int} {p : Int × Int} (hd : 0 < d) (h : mkR n d = some p) : n * p.2 = p.1 * d := by
  obtain ⟨g, _, h1, h2⟩ := mkR_parts hd h
  generalize p.1 = x at *
  generalize p.2 = y at *
  subst h1; subst h2
  rw [Int.mul_comm g x, Int.mul_assoc]
theorem cop_dvd {p : Int × Int} {x y : Int} (hp : vR p = true) (h : p.1 * x = y * p.2) : p.2.natAbs ∣ x.natAbs := by
  have hg : Nat.gcd p.1.natAbs p.2.natAbs = 1 := vRat_gcd hp
  have h1 : p.2.natAbs ∣ p.1.natAbs * x.natAbs := by
    rw [← Int.natAbs_mul, h, Int.natAbs_mul]
    exact Nat.dvd_mul_left ..
  exact Nat.Coprime.dvd_of_dvd_mul_left (show Nat.Coprime p.2.natAbs p.1.natAbs by rw [Nat.Coprime, Nat.gcd_comm]; exact hg) h1
theorem rat_unique {p q : Int × Int} (hp : vR p = true) (hq : vR q = true) (h : p.1 * q.2 = q.1 * p.2) : p = q := by
  have b1 := vR_bd hp
  have b2 := vR_bd hq
  have e := Nat.dvd_antisymm (cop_dvd hp h) (cop_dvd hq h.symm)
  have e2 : p.2 = q.2 := by omega
  have e1 : p.1 = q.1 := by
    rw [e2] at h
    exact Int.eq_of_mul_eq_mul_right (by omega) h
  exact Prod.ext e1 e2
theorem mkR_some {n d : Int} (hn : -1000000000 ≤ n ∧ n ≤ 1000000000) (hd : 1 ≤ d ∧ d ≤ 1000000000) : ∃ p, mkR n d = some p := by
  have hg := gcd_pos (n := n) (d := d) (by omega)
  have qn := div_bd (x := mag n) (B := 1000000000) hg (mag_nn n) (by unfold mag; omega)
  have qd := div_bd (x := mag d) (B := 1000000000) hg (mag_nn d) (by unfold mag; omega)
  unfold mkR
  dsimp only
  rw [if_neg (by omega)]
  exact ⟨_, rfl⟩
theorem mkR_self {p : Int × Int} (hp : vR p = true) : mkR p.1 p.2 = some p := by
  obtain ⟨b1, b2, b3, b4⟩ := vR_bd hp
  obtain ⟨q, hq⟩ := mkR_some (n := p.1) (d := p.2) ⟨b3, b4⟩ ⟨b1, b2⟩
  have vq : vR q = true := mkR_valid (by omega) hq
  rw [hq, rat_unique vq hp (mkR_cross (by omega) hq).symm]
theorem ratF_self {p : Int × Int} (hp : vR p = true) : ratF p.1 p.2 = (p, 0) := by
  unfold ratF
  rw [mkR_self hp]
theorem ratF_zero {d : Int} (hd : 1 ≤ d ∧ d ≤ 1000000000) : ratF 0 d = ((0, 1), 0) := by
  obtain ⟨q, hq⟩ := mkR_some (n := 0) (d := d) (by omega) hd
  have vq : vR q = true := mkR_valid (by omega) hq
  have h := mkR_cross (by omega) hq
  have v0 : vR (0, 1) = true := by decide
  unfold ratF
  have h0 : q.1 = 0 := by
    rw [Int.zero_mul] at h
    rcases Int.mul_eq_zero.1 h.symm with h | h
    · exact h
    · omega
  rw [hq, rat_unique vq v0 (by show q.1 * 1 = 0 * q.2; rw [h0, Int.zero_mul, Int.zero_mul])]
theorem ratF_code (n d : Int) : (ratF n d).2 = 0 ∨ (ratF n d).2 = 2 := by
  by_cases h : (ratF n d).2 = 0
  · exact .inl h
  · exact .inr (ratF_two h)

abbrev EpiD := Int × Int × Int × Int
theorem fallback_ok : validEpiI (24, 48, 12, 4) = some true := by kernel_rfl
theorem drawEpiSL_tot (s : List Int × Int × Int) {S P k : Int} (hk : 1 ≤ k ∧ k ≤ 8) :
    ∃ b t, drawEpiSL (s, (0, 0, 0, 0), S, S + 2 * P, P, k) = some (b, t) ∧ t.1 = s ∧ (b = true → ∃ k', t.2.2 = (S, S + 2 * P, P, k') ∧ validEpiI (S, S + 2 * P, P, k') = some true) ∧ (b = false → t.2.1 = (24, 48, 12, 4)) := by
  obtain ⟨b, t, h, h1, h2⟩ := iter_end (step := drawEpiSL_step)
    (fun t => ∃ k' : Int, t = (s, (0, 0, 0, 0), S, S + 2 * P, P, k') ∧ 1 ≤ k' ∧ k' ≤ 8)
    (fun t => t.1 = s ∧ ∃ k', t.2.2 = (S, S + 2 * P, P, k') ∧ validEpiI (S, S + 2 * P, P, k') = some true) (fun t => t.1 = s ∧ t.2.1 = (24, 48, 12, 4)) (fun t => t.2.2.2.2.2.toNat) (by
    rintro t ⟨k', rfl, h1, h2⟩
    obtain ⟨v, hv, _⟩ := validEpiI_out (S, S + 2 * P, P, k')
    have e5 : IntKind.i64.wrap (k' - 1) = k' - 1 := w64 (by omega) (by omega)
    unfold drawEpiSL_step
    dsimp only
    rw [okEpiS_same, hv, ob_s, e5]
    cases v with
    | true => exact ⟨.out, _, rfl, fun h => (by cases h), fun _ => ⟨rfl, k', rfl, hv⟩, fun h => by cases h⟩
    | false =>
      rw [br_t (c := !false) rfl]
      by_cases hk : k' - 1 < 1
      · rw [br_t (by simpa using hk)]
        exact ⟨.ret, _, rfl, fun h => (by cases h), fun h => (by cases h), fun _ => ⟨rfl, rfl⟩⟩
      · rw [br_f (by simpa using hk)]
        exact ⟨.next, _, rfl, fun _ => ⟨⟨k' - 1, rfl, by omega, by omega⟩, by dsimp only; omega⟩, fun h => (by cases h), fun h => (by cases h)⟩)
    (k.toNat + 2) (s, (0, 0, 0, 0), S, S + 2 * P, P, k) ⟨k, rfl, hk⟩ (by dsimp only; omega)
  refine ⟨b, t, h, ?_, fun hb => (h1 hb).2, fun hb => (h2 hb).2⟩
  cases b with
  | true => exact (h1 rfl).1
  | false => exact (h2 rfl).1
theorem drawEpi_tot {c : List Int} (hc : bytesOk c) (g : Int) : ∃ (e : EpiD) (a' g' : Int), drawEpiS (c, 0, g) = some (e, c, a', g') ∧ (0 ≤ a' ∧ a' ≤ 6) ∧ validEpiI e = some true ∧ e.2.1 = e.1 + 2 * e.2.2.1 := by
  obtain ⟨y1, a1, g1, e1, b1, c1⟩ := among_tot hc (a := 0) (g := g) (K := 0) [(24 : Int), (30 : Int), (18 : Int), (36 : Int), (60 : Int), (100 : Int)] (by simp) (by simp) (by omega) (by omega)
  obtain ⟨y2, a2, g2, e2, b2, c2⟩ := among_tot hc (g := g1) [(12 : Int), (15 : Int), (18 : Int), (20 : Int), (24 : Int), (60 : Int)] (by simp) (by simp) c1 (by omega)
  obtain ⟨y3, a3, g3, e3, b3, c3⟩ := pick_tot hc (g := g2) 6 c2 (by omega)
  have h1 : 18 ≤ y1 ∧ y1 ≤ 100 := by simp at b1; omega
  have h2 : 12 ≤ y2 ∧ y2 ≤ 60 := by simp at b2; omega
  have w1 : IntKind.i64.wrap (y1 + IntKind.i64.wrap (2 * y2)) = y1 + 2 * y2 := by rw [w64 (x := 2 * y2) (by omega) (by omega), w64 (by omega) (by omega)]
  have w2 : IntKind.i64.wrap (1 + y3) = 1 + y3 := w64 (by omega) (by omega)
  obtain ⟨b, t, e4, t1, t2, t3⟩ := drawEpiSL_tot (c, a3, g3) (S := y1) (P := y2) (k := 1 + y3) ⟨by omega, by omega⟩
  unfold drawEpiS
  simp only [e1, e2, e3, ob_s, w1, w2, e4]
  cases b with
  | true =>
    obtain ⟨k', h5, h6⟩ := t2 rfl
    refine ⟨(y1, y1 + 2 * y2, y2, k'), a3, g3, ?_, by omega, h6, rfl⟩
    show some (t.2.2, t.1) = _
    rw [h5, t1]
  | false =>
    refine ⟨(24, 48, 12, 4), a3, g3, ?_, by omega, fallback_ok, rfl⟩
    show some (t.2.1, t.1) = _
    rw [t3 rfl, t1]
theorem mkS_rat {n d : Int} (hn : -1000000000 ≤ n ∧ n ≤ 1000000000) (hd : 1 ≤ d ∧ d ≤ 1000000000) : ∃ p, mkS (n, d) = some (p, true) ∧ vR p = true := by
  obtain ⟨p, hp⟩ := mkR_some hn hd
  refine ⟨p, ?_, mkR_valid (by omega) hp⟩
  rw [mkS_eq ⟨by omega, by omega⟩ ⟨by omega, by omega⟩ (by omega)]
  unfold redF
  rw [hp]
theorem drawRat_tot {c : List Int} (hc : bytesOk c) {a g K : Int} (ha : 0 ≤ a ∧ a ≤ K) (hK : K ≤ 100000) : ∃ (r : Int × Int) (a' g' : Int), drawRatS (c, a, g) = some (r, c, a', g') ∧ (0 ≤ a' ∧ a' ≤ K + 8) ∧ vR r = true := by
  obtain ⟨y1, a1, g1, e1, b1, c1⟩ := pick_tot hc (g := g) 100 ha (by omega)
  obtain ⟨y2, a2, g2, e2, b2, c2⟩ := pick_tot hc (g := g1) 30 c1 (by omega)
  obtain ⟨y3, a3, g3, e3, b3, c3⟩ := pick_tot hc (g := g2) 8 c2 (by omega)
  have w1 : IntKind.i64.wrap (y1 - 40) = y1 - 40 := w64 (by omega) (by omega)
  have w2 : IntKind.i64.wrap (1 + y2) = 1 + y2 := w64 (by omega) (by omega)
  unfold drawRatS
  simp only [e1, e2, e3, ob_s, w1, w2]
  cases y3 == (0 : Int) with
  | true =>
    obtain ⟨y4, a4, g4, e4, b4, c4⟩ := among_tot hc (g := g3) [(1000000000 : Int), (-1000000000 : Int), (999999937 : Int), (0 : Int), (1461 : Int), (29530589 : Int)] (by simp) (by simp) c3 (by omega)
    have h4 : -1000000000 ≤ y4 ∧ y4 ≤ 1000000000 := by simp at b4; omega
    obtain ⟨p, hp, vp⟩ := mkS_rat (n := y4) (d := 1 + y2) h4 ⟨by omega, by omega⟩
    simp only [br, e4, ob_s, hp]
    exact ⟨_, _, _, rfl, by omega, vp⟩
  | false =>
  cases y3 == (1 : Int) with
  | true =>
    obtain ⟨y4, a4, g4, e4, b4, c4⟩ := among_tot hc (g := g3) [(1000000000 : Int), (999999937 : Int), (4 : Int), (1000000 : Int)] (by simp) (by simp) c3 (by omega)
    have h4 : 1 ≤ y4 ∧ y4 ≤ 1000000000 := by simp at b4; omega
    obtain ⟨p, hp, vp⟩ := mkS_rat (n := y1 - 40) (d := y4) ⟨by omega, by omega⟩ h4
    simp only [br, e4, ob_s, hp]
    exact ⟨_, _, _, rfl, by omega, vp⟩
  | false =>
    obtain ⟨p, hp, vp⟩ := mkS_rat (n := y1 - 40) (d := 1 + y2) ⟨by omega, by omega⟩ ⟨by omega, by omega⟩
    simp only [br, ob_s, hp]
    exact ⟨_, _, _, rfl, by omega, vp⟩
theorem a2Epi_tot {c : List Int} (hc : bytesOk c) : ∃ (e : EpiD) (a b : Int × Int), a2EpiS c = some (e, a, b) ∧ validEpiI e = some true ∧ e.2.1 = e.1 + 2 * e.2.2.1 ∧ vR a = true ∧ vR b = true := by
  obtain ⟨e, a1, g1, e1, c1, h1, h2⟩ := drawEpi_tot hc 0
  obtain ⟨a, a2, g2, e2, c2, h3⟩ := drawRat_tot hc (g := g1) c1 (by omega)
  obtain ⟨b, a3, g3, e3, c3, h4⟩ := drawRat_tot hc (g := g2) c2 (by omega)
  refine ⟨e, a, b, ?_, h1, h2, h3, h4⟩
  unfold a2EpiS fromS
  simp only [ob_s, e1, e2, e3]
end Rx
end Go.Proofs.YtfapjkcmoefilaaDoor
