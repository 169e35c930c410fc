/- Planetary gears for a ratio have it, and the given ones are among them; cages and sides fit each other. No program in sight. -/
import Derived.Test.YtaaieejhbpdmoaaRxSrcLaw
import Derived.Test.YtaaieejhbpdmoaaRxEpiRatLaw
import Derived.Test.YtaaieejhbpdmoaaRxRatAddLaw
import Derived.Test.YtaaieejhbpdmoaaRxEpisLaw
import Derived.Test.YtaaieejhbpdmoaaRxFnEpis
namespace Go.Proofs.Ytaaieejhbpdmoaa
namespace Rx
open Go

/-! ### Ratios in lowest terms -/
theorem mkR_parts {n d : Int} {p : Int × Int} (hd : 0 < d) (h : mkR n d = some p) : ∃ g : Int, 1 ≤ g ∧ n = g * p.1 ∧ d = g * p.2 := by
  have g1 := gcd_pos (n := n) (show d ≠ 0 by omega)
  refine ⟨Int.gcd n d, g1, ?_⟩
  have d1 : (Int.gcd n d : Int) ∣ n := Int.gcd_dvd_left ..
  have d2 : (Int.gcd n d : Int) ∣ d := Int.gcd_dvd_right ..
  unfold mkR at h
  dsimp only at h
  generalize (Int.gcd n d : Int) = g at *
  split at h
  · cases h
  · cases h
    obtain ⟨n', rfl⟩ := d1
    obtain ⟨d', rfl⟩ := d2
    dsimp only
    have e1 : decide (g * d' < 0) = false := decide_eq_false (by omega)
    have e2 : mag (g * d') = g * d' := mag_of_nn (by omega)
    rw [e1, e2, Int.mul_ediv_cancel_left _ (show g ≠ 0 by omega)]
    by_cases hn : g * n' < 0
    · have e3 : mag (g * n') = g * (-n') := by rw [mag_of_neg hn, Int.mul_neg]
      rw [decide_eq_true hn]
      show g * n' = g * (-(mag (g * n') / g)) ∧ _
      rw [e3, Int.mul_ediv_cancel_left _ (show g ≠ 0 by omega), Int.neg_neg]
      exact ⟨rfl, rfl⟩
    · have e3 : mag (g * n') = g * n' := mag_of_nn (by omega)
      rw [decide_eq_false hn]
      show g * n' = g * (mag (g * n') / g) ∧ _
      rw [e3, Int.mul_ediv_cancel_left _ (show g ≠ 0 by omega)]
      exact ⟨rfl, rfl⟩
theorem mkR_cross {n d : Int} {p : Int × Int} (hd : 0 < d) (h : mkR n d = some p) : n * p.2 = p.1 * d := by
  obtain ⟨g, _, h1, h2⟩ := mkR_parts hd h
  generalize p.1 = x at *
  generalize p.2 = y at *
  subst h1; subst h2
  rw [Int.mul_comm g x, Int.mul_assoc]
theorem cop_dvd {p : Int × Int} {x y : Int} (hp : vR p = true) (h : p.1 * x = y * p.2) : p.2.natAbs ∣ x.natAbs := by
  have hg : Nat.gcd p.1.natAbs p.2.natAbs = 1 := vRat_gcd hp
  have h1 : p.2.natAbs ∣ p.1.natAbs * x.natAbs := by
    rw [← Int.natAbs_mul, h, Int.natAbs_mul]
    exact Nat.dvd_mul_left ..
  exact Nat.Coprime.dvd_of_dvd_mul_left (show Nat.Coprime p.2.natAbs p.1.natAbs by rw [Nat.Coprime, Nat.gcd_comm]; exact hg) h1
theorem rat_unique {p q : Int × Int} (hp : vR p = true) (hq : vR q = true) (h : p.1 * q.2 = q.1 * p.2) : p = q := by
  have b1 := vR_bd hp
  have b2 := vR_bd hq
  have e := Nat.dvd_antisymm (cop_dvd hp h) (cop_dvd hq h.symm)
  have e2 : p.2 = q.2 := by omega
  have e1 : p.1 = q.1 := by
    rw [e2] at h
    exact Int.eq_of_mul_eq_mul_right (by omega) h
  exact Prod.ext e1 e2
theorem mkR_some {n d : Int} (hn : -1000000000 ≤ n ∧ n ≤ 1000000000) (hd : 1 ≤ d ∧ d ≤ 1000000000) : ∃ p, mkR n d = some p := by
  have hg := gcd_pos (n := n) (d := d) (by omega)
  have qn := div_bd (x := mag n) (B := 1000000000) hg (mag_nn n) (by unfold mag; omega)
  have qd := div_bd (x := mag d) (B := 1000000000) hg (mag_nn d) (by unfold mag; omega)
  unfold mkR
  dsimp only
  rw [if_neg (by omega)]
  exact ⟨_, rfl⟩
theorem mkR_self {p : Int × Int} (hp : vR p = true) : mkR p.1 p.2 = some p := by
  obtain ⟨b1, b2, b3, b4⟩ := vR_bd hp
  obtain ⟨q, hq⟩ := mkR_some (n := p.1) (d := p.2) ⟨b3, b4⟩ ⟨b1, b2⟩
  have vq : vR q = true := mkR_valid (by omega) hq
  rw [hq, rat_unique vq hp (mkR_cross (by omega) hq).symm]
theorem ratF_self {p : Int × Int} (hp : vR p = true) : ratF p.1 p.2 = (p, 0) := by
  unfold ratF
  rw [mkR_self hp]
theorem ratF_zero {d : Int} (hd : 1 ≤ d ∧ d ≤ 1000000000) : ratF 0 d = ((0, 1), 0) := by
  obtain ⟨q, hq⟩ := mkR_some (n := 0) (d := d) (by omega) hd
  have vq : vR q = true := mkR_valid (by omega) hq
  have h := mkR_cross (by omega) hq
  have v0 : vR (0, 1) = true := by decide
  unfold ratF
  have h0 : q.1 = 0 := by
    rw [Int.zero_mul] at h
    rcases Int.mul_eq_zero.1 h.symm with h | h
    · exact h
    · omega
  rw [hq, rat_unique vq v0 (by show q.1 * 1 = 0 * q.2; rw [h0, Int.zero_mul, Int.zero_mul])]
theorem ratF_code (n d : Int) : (ratF n d).2 = 0 ∨ (ratF n d).2 = 2 := by
  by_cases h : (ratF n d).2 = 0
  · exact .inl h
  · exact .inr (ratF_two h)

/-! ### The ratio of planetary gears -/
abbrev EpiD := Int × Int × Int × Int
theorem epiRat_val {e : EpiD} (he : validEpiI e = some true) : ∃ k, epiRatS (e, 0, 2) = some (k, 0) ∧ vR k = true ∧ e.1 * k.2 = k.1 * (e.1 + e.2.1) := by
  obtain ⟨v, hv, hb⟩ := validEpiI_out e
  rw [he] at hv; cases hv
  obtain ⟨b1, b2, b3, b4⟩ := hb rfl
  have hd : 1 ≤ e.1 + e.2.1 ∧ e.1 + e.2.1 ≤ 480 := by omega
  have hp : 1 ≤ e.1 ∧ e.1 ≤ 480 := by omega
  have hq : 1 ≤ e.2.1 ∧ e.2.1 ≤ 480 := by omega
  obtain ⟨k, hk⟩ := mkR_small hp hd
  obtain ⟨l, hl⟩ := mkR_small hq hd
  have vk : vR k = true := mkR_valid (by omega) hk
  have vl : vR l = true := mkR_valid (by omega) hl
  have bl := vR_bd vl
  have v1 : vR (1, 1) = true := by decide
  have v0 : vR (0, 1) = true := by decide
  have ek : ratF e.1 (e.1 + e.2.1) = (k, 0) := by unfold ratF; rw [hk]
  have el : ratF e.2.1 (e.1 + e.2.1) = (l, 0) := by unfold ratF; rw [hl]
  have m1 : mulRatI ((1, 1), k.1, k.2) = some (k, 0) := by
    have := mulRatI_eq (1, 1) k
    rw [if_pos ⟨v1, vk⟩] at this
    dsimp only at this
    rw [Int.one_mul, Int.one_mul, ratF_self vk] at this
    exact this
  have m2 : mulRatI ((0, 1), l.1, l.2) = some ((0, 1), 0) := by
    have := mulRatI_eq (0, 1) l
    rw [if_pos ⟨v0, vl⟩] at this
    dsimp only at this
    rw [Int.zero_mul, Int.one_mul, ratF_zero ⟨bl.1, bl.2.1⟩] at this
    exact this
  have m3 : addRatI ((k.1, k.2), 0, 1) = some (k, 0) := by
    have := addRatI_eq k (0, 1)
    rw [if_pos ⟨vk, v0⟩] at this
    dsimp only at this
    rw [Int.mul_one, Int.zero_mul, Int.add_zero, Int.mul_one, ratF_self vk] at this
    exact this
  have he' : validEpiI (e.1, e.2.1, e.2.2.1, e.2.2.2) = some true := he
  have hc : carrierI (e, (1, 1), (0, 1)) = some (k, 0) := by
    unfold carrierI
    dsimp only
    have e1 : validRatI ((1 : Int), (1 : Int)) = some true := by rw [validRatI_eq]; rfl
    have e2 : validRatI ((0 : Int), (1 : Int)) = some true := by rw [validRatI_eq]; rfl
    rw [he', w64 (by omega) (by omega), makeRatI_eq (small64 hp) (small64 hd) (by omega), makeRatI_eq (small64 hq) (small64 hd) (by omega), ek, el]
    simp only [ob_s, e1, e2, Bool.not_true, br, m1, m2, m3, bne_self_eq_false]
  obtain ⟨r, h1, h2⟩ := epiRat_both e 0 2
  rw [i02 e he, epiTail_s hc] at h1
  cases h1
  exact ⟨k, h2, vk, mkR_cross (by omega) hk⟩

/-! ### The search -/
/-- Gears with the ratio. -/
def hasR (r : Int × Int) (c : Int) (x : EpiD) : Prop := validEpiI x = some true ∧ x.2.2.2 = c ∧ x.1 * r.2 = r.1 * (x.1 + x.2.1)
theorem hasR_rat {r : Int × Int} (hr : vR r = true) {c : Int} {x : EpiD} (h : hasR r c x) : epiRatS (x, 0, 2) = some (r, 0) := by
  obtain ⟨h1, h2, h3⟩ := h
  obtain ⟨k, e, vk, hk⟩ := epiRat_val h1
  obtain ⟨v, hv, hb⟩ := validEpiI_out x
  rw [h1] at hv; cases hv
  obtain ⟨b1, b2, _⟩ := hb rfl
  rw [e]
  congr 2
  refine rat_unique vk hr ?_
  have hs : x.1 + x.2.1 ≠ 0 := by omega
  refine Int.eq_of_mul_eq_mul_right hs ?_
  have a1 : k.1 * r.2 * (x.1 + x.2.1) = x.1 * k.2 * r.2 := by rw [hk, Int.mul_right_comm]
  have a2 : r.1 * k.2 * (x.1 + x.2.1) = x.1 * r.2 * k.2 := by rw [h3, Int.mul_right_comm]
  rw [a1, a2, Int.mul_right_comm]
theorem ip_find {lo hi c sun : Int} {r : Int × Int} {e : EpiD} (hr : vR r = true) (hlo : 6 ≤ lo) (hhi : hi ≤ 240) (hlh : lo ≤ hi) (hsun : 6 ≤ sun ∧ sun ≤ 240) (he : hasR r c e) (her : e.2.1 = e.1 + 2 * e.2.2.1) (hep : lo ≤ e.2.2.1 ∧ e.2.2.1 ≤ hi) {l0 : List EpiD} (h0 : ∀ x ∈ l0, hasR r c x) (hl0 : l0.length ≤ 20) :
    ∃ b s, episIP (lo, hi, c, r, [], 0, l0, sun, lo) = some (b, s) ∧ (b = true → ∃ l pl, s = (lo, hi, c, r, [], 0, l, sun, pl) ∧ (∀ x ∈ l, hasR r c x) ∧ l.length ≤ 20 ∧ (∀ x ∈ l0, x ∈ l) ∧ (e.1 = sun → e ∈ l)) ∧ (b = false → s.2.2.2.2.1 = [] ∧ s.2.2.2.2.2.1 = 5) := by
  obtain ⟨r1, r2, r3, r4⟩ := vR_bd hr
  have h := iter_end (step := episIP_step)
    (fun s => ∃ (l : List EpiD) (pl : Int), s = (lo, hi, c, r, [], 0, l, sun, pl) ∧ (∀ x ∈ l, hasR r c x) ∧ l.length ≤ 20 ∧ (∀ x ∈ l0, x ∈ l) ∧ (lo ≤ pl ∧ pl ≤ hi + 1) ∧ (e.1 = sun → e.2.2.1 < pl → e ∈ l))
    (fun s => ∃ (l : List EpiD) (pl : Int), s = (lo, hi, c, r, [], 0, l, sun, pl) ∧ (∀ x ∈ l, hasR r c x) ∧ l.length ≤ 20 ∧ (∀ x ∈ l0, x ∈ l) ∧ (e.1 = sun → e ∈ l))
    (fun s => s.2.2.2.2.1 = [] ∧ s.2.2.2.2.2.1 = 5) (fun s => (hi + 1 - s.2.2.2.2.2.2.2.2).toNat) (by
    rintro s ⟨l, pl, rfl, hl, hlen, hsub, hpl, hin⟩
    by_cases hp : pl ≤ hi
    · have e5 : IntKind.i64.wrap (pl + 1) = pl + 1 := w64 (by omega) (by omega)
      have e6 : IntKind.i64.wrap (sun + IntKind.i64.wrap (2 * pl)) = sun + 2 * pl := by rw [w64 (x := 2 * pl) (by omega) (by omega), w64 (by omega) (by omega)]
      have e7 : IntKind.i64.wrap (sun + (sun + 2 * pl)) = sun + (sun + 2 * pl) := w64 (by omega) (by omega)
      have p1 := pb (x := sun) (y := r.2) (A := 240) (B := 1000000000) (by omega) (by omega) (by omega) (by omega)
      have p2 := pb (x := r.1) (y := sun + (sun + 2 * pl)) (A := 1000000000) (B := 1000) (by omega) (by omega) (by omega) (by omega)
      have e8 : IntKind.i64.wrap (sun * r.2) = sun * r.2 := w64 (by omega) (by omega)
      have e9 : IntKind.i64.wrap (r.1 * (sun + (sun + 2 * pl))) = r.1 * (sun + (sun + 2 * pl)) := w64 (by omega) (by omega)
      have ee : e.1 = sun → e.2.2.1 = pl → e = (sun, sun + 2 * pl, pl, c) := by
        intro h1 h2
        rw [← h1, ← h2, ← her, ← he.2.1]
      obtain ⟨v, hv, _⟩ := validEpiI_out (sun, sun + 2 * pl, pl, c)
      have nxt : ∀ l' : List EpiD, (∀ x ∈ l', hasR r c x) → l'.length ≤ 20 → (∀ x ∈ l, x ∈ l') → (e.1 = sun → e.2.2.1 = pl → e ∈ l') →
          ∃ (l'' : List EpiD) (pl' : Int), ((lo, hi, c, r, [], 0, l', sun, pl + 1) : InSt) = (lo, hi, c, r, [], 0, l'', sun, pl') ∧ (∀ x ∈ l'', hasR r c x) ∧ l''.length ≤ 20 ∧ (∀ x ∈ l0, x ∈ l'') ∧ (lo ≤ pl' ∧ pl' ≤ hi + 1) ∧ (e.1 = sun → e.2.2.1 < pl' → e ∈ l'') := by
        intro l' a1 a2 a3 a4
        refine ⟨l', pl + 1, rfl, a1, a2, fun x hx => a3 x (hsub x hx), by omega, fun h1 h2 => ?_⟩
        by_cases h3 : e.2.2.1 < pl
        · exact a3 e (hin h1 h3)
        · exact a4 h1 (by omega)
      unfold episIP_step
      dsimp only
      rw [br_t (by simpa using hp)]
      simp only [e5, e6, e7, e8, e9, hv, ob_s]
      cases v with
      | false =>
        refine ⟨.next, _, rfl, fun _ => ⟨nxt l hl hlen (fun _ h => h) fun h1 h2 => ?_, by dsimp only; omega⟩, fun h => (by cases h), fun h => (by cases h)⟩
        have := he.1
        rw [ee h1 h2, hv] at this
        cases this
      | true =>
        by_cases hc : sun * r.2 = r.1 * (sun + (sun + 2 * pl))
        · rw [br_f (c := !true) rfl, br_f (by simpa using hc)]
          by_cases h20 : l.length = 20
          · rw [br_t (by simp [h20])]
            exact ⟨.ret, _, rfl, fun h => (by cases h), fun h => (by cases h), fun _ => ⟨rfl, rfl⟩⟩
          · rw [br_f (by simp; omega), br_t (by simp; omega)]
            refine ⟨.next, _, rfl, fun _ => ⟨nxt _ ?_ (by simp; omega) (fun x hx => by simp [hx]) fun h1 h2 => by rw [ee h1 h2]; simp, by dsimp only; omega⟩, fun h => (by cases h), fun h => (by cases h)⟩
            intro x hx
            rcases List.mem_append.1 hx with hx | hx
            · exact hl x hx
            · rw [List.mem_singleton] at hx
              subst hx
              exact ⟨hv, rfl, hc⟩
        · rw [br_f (c := !true) rfl, br_t (by simpa using hc)]
          refine ⟨.next, _, rfl, fun _ => ⟨nxt l hl hlen (fun _ h => h) fun h1 h2 => ?_, by dsimp only; omega⟩, fun h => (by cases h), fun h => (by cases h)⟩
          have := he.2.2
          rw [ee h1 h2] at this
          exact absurd this hc
    · unfold episIP_step
      dsimp only
      rw [br_f (by simpa using hp)]
      exact ⟨.out, _, rfl, fun h => (by cases h), fun _ => ⟨l, pl, rfl, hl, hlen, hsub, fun h1 => hin h1 (by omega)⟩, fun h => (by cases h)⟩)
    ((hi - lo).toNat + 2) (lo, hi, c, r, [], 0, l0, sun, lo) ⟨l0, lo, rfl, h0, hl0, fun _ h => h, by omega, fun _ _ => by omega⟩ (by dsimp only; omega)
  exact h
theorem is_find {lo hi c : Int} {r : Int × Int} {e : EpiD} (hr : vR r = true) (hlo : 6 ≤ lo) (hhi : hi ≤ 240) (hlh : lo ≤ hi) (he : hasR r c e) (her : e.2.1 = e.1 + 2 * e.2.2.1) (hep : lo ≤ e.2.2.1 ∧ e.2.2.1 ≤ hi) (hes : lo ≤ e.1 ∧ e.1 ≤ hi) :
    ∃ b s, episIS (lo, hi, c, r, [], 0, [], lo) = some (b, s) ∧ (b = true → (∀ x ∈ s.2.2.2.2.2.2.1, hasR r c x) ∧ s.2.2.2.2.2.2.1.length ≤ 20 ∧ e ∈ s.2.2.2.2.2.2.1) ∧ (b = false → s.2.2.2.2.1 = [] ∧ s.2.2.2.2.2.1 = 5) := by
  have h := iter_end (step := episIS_step)
    (fun s => ∃ (l : List EpiD) (sun : Int), s = (lo, hi, c, r, [], 0, l, sun) ∧ (∀ x ∈ l, hasR r c x) ∧ l.length ≤ 20 ∧ (lo ≤ sun ∧ sun ≤ hi + 1) ∧ (e.1 < sun → e ∈ l))
    (fun s => (∀ x ∈ s.2.2.2.2.2.2.1, hasR r c x) ∧ s.2.2.2.2.2.2.1.length ≤ 20 ∧ e ∈ s.2.2.2.2.2.2.1)
    (fun s => s.2.2.2.2.1 = [] ∧ s.2.2.2.2.2.1 = 5) (fun s => (hi + 1 - s.2.2.2.2.2.2.2).toNat) (by
    rintro s ⟨l, sun, rfl, hl, hlen, hs, hin⟩
    by_cases hp : sun ≤ hi
    · have e5 : IntKind.i64.wrap (sun + 1) = sun + 1 := w64 (by omega) (by omega)
      obtain ⟨b, t, ht, t1, t2⟩ := ip_find hr hlo hhi hlh (sun := sun) ⟨by omega, by omega⟩ he her hep hl hlen
      have ht' : episIP (lo, hi, c, (r.1, r.2), [], 0, l, sun, lo) = some (b, t) := ht
      unfold episIS_step
      dsimp only
      rw [br_t (by simpa using hp), ht', ob_s]
      cases b with
      | false => exact ⟨.ret, _, rfl, fun h => (by cases h), fun h => (by cases h), fun _ => t2 rfl⟩
      | true =>
        obtain ⟨l', pl, rfl, a1, a2, a3, a4⟩ := t1 rfl
        dsimp only
        rw [e5]
        refine ⟨.next, _, rfl, fun _ => ⟨⟨l', sun + 1, rfl, a1, a2, by omega, fun h1 => ?_⟩, by dsimp only; omega⟩, fun h => (by cases h), fun h => (by cases h)⟩
        by_cases h3 : e.1 < sun
        · exact a3 e (hin h3)
        · exact a4 (by omega)
    · unfold episIS_step
      dsimp only
      rw [br_f (by simpa using hp)]
      exact ⟨.out, _, rfl, fun h => (by cases h), fun _ => ⟨hl, hlen, hin (by omega)⟩, fun h => (by cases h)⟩)
    ((hi - lo).toNat + 2) (lo, hi, c, r, [], 0, [], lo) ⟨[], lo, rfl, fun x hx => (by cases hx), by simp, by omega, fun h => by omega⟩ (by dsimp only; omega)
  exact h
theorem episI_find {lo hi c : Int} {r : Int × Int} {e : EpiD} (hr : vR r = true) (hlo : 6 ≤ lo) (hhi : hi ≤ 240) (hlh : lo ≤ hi) (hc : 1 ≤ c ∧ c ≤ 8) (he : hasR r c e) (her : e.2.1 = e.1 + 2 * e.2.2.1) (hep : lo ≤ e.2.2.1 ∧ e.2.2.1 ≤ hi) (hes : lo ≤ e.1 ∧ e.1 ≤ hi) :
    (∃ l, episI (r, lo, hi, c) = some (l, 0) ∧ (∀ x ∈ l, hasR r c x) ∧ l.length ≤ 20 ∧ e ∈ l) ∨ episI (r, lo, hi, c) = some ([], 5) := by
  obtain ⟨b, s, h, h1, h2⟩ := is_find hr hlo hhi hlh he her hep hes
  have h' : episIS (lo, hi, c, (r.1, r.2), [], 0, [], lo) = some (b, s) := h
  have hv : validRatI (r.1, r.2) = some true := by rw [validRatI_eq]; exact congrArg some hr
  unfold episI
  dsimp only
  rw [hv, within_eq, within_eq, h', decide_eq_true hlo, decide_eq_true hlh, decide_eq_true hc.1, decide_eq_true hc.2, decide_eq_false (show ¬ 240 < hi by omega)]
  cases b with
  | true => exact .inl ⟨_, rfl, h1 rfl⟩
  | false =>
    right
    show some (s.2.2.2.2.1, s.2.2.2.2.2.1) = _
    rw [(h2 rfl).1, (h2 rfl).2]

/-! ### What is drawn -/
theorem fallback_ok : validEpiI (24, 48, 12, 4) = some true := by kernel_rfl
theorem drawEpiSL_tot (s : List Int × Int × Int) {S P k : Int} (hk : 1 ≤ k ∧ k ≤ 8) :
    ∃ b t, drawEpiSL (s, (0, 0, 0, 0), S, S + 2 * P, P, k) = some (b, t) ∧ t.1 = s ∧ (b = true → ∃ k', t.2.2 = (S, S + 2 * P, P, k') ∧ validEpiI (S, S + 2 * P, P, k') = some true) ∧ (b = false → t.2.1 = (24, 48, 12, 4)) := by
  obtain ⟨b, t, h, h1, h2⟩ := iter_end (step := drawEpiSL_step)
    (fun t => ∃ k' : Int, t = (s, (0, 0, 0, 0), S, S + 2 * P, P, k') ∧ 1 ≤ k' ∧ k' ≤ 8)
    (fun t => t.1 = s ∧ ∃ k', t.2.2 = (S, S + 2 * P, P, k') ∧ validEpiI (S, S + 2 * P, P, k') = some true) (fun t => t.1 = s ∧ t.2.1 = (24, 48, 12, 4)) (fun t => t.2.2.2.2.2.toNat) (by
    rintro t ⟨k', rfl, h1, h2⟩
    obtain ⟨v, hv, _⟩ := validEpiI_out (S, S + 2 * P, P, k')
    have e5 : IntKind.i64.wrap (k' - 1) = k' - 1 := w64 (by omega) (by omega)
    unfold drawEpiSL_step
    dsimp only
    rw [okEpiS_same, hv, ob_s, e5]
    cases v with
    | true => exact ⟨.out, _, rfl, fun h => (by cases h), fun _ => ⟨rfl, k', rfl, hv⟩, fun h => by cases h⟩
    | false =>
      rw [br_t (c := !false) rfl]
      by_cases hk : k' - 1 < 1
      · rw [br_t (by simpa using hk)]
        exact ⟨.ret, _, rfl, fun h => (by cases h), fun h => (by cases h), fun _ => ⟨rfl, rfl⟩⟩
      · rw [br_f (by simpa using hk)]
        exact ⟨.next, _, rfl, fun _ => ⟨⟨k' - 1, rfl, by omega, by omega⟩, by dsimp only; omega⟩, fun h => (by cases h), fun h => (by cases h)⟩)
    (k.toNat + 2) (s, (0, 0, 0, 0), S, S + 2 * P, P, k) ⟨k, rfl, hk⟩ (by dsimp only; omega)
  refine ⟨b, t, h, ?_, fun hb => (h1 hb).2, fun hb => (h2 hb).2⟩
  cases b with
  | true => exact (h1 rfl).1
  | false => exact (h2 rfl).1
theorem drawEpi_tot {c : List Int} (hc : bytesOk c) (g : Int) : ∃ (e : EpiD) (a' g' : Int), drawEpiS (c, 0, g) = some (e, c, a', g') ∧ (0 ≤ a' ∧ a' ≤ 6) ∧ validEpiI e = some true ∧ e.2.1 = e.1 + 2 * e.2.2.1 := by
  obtain ⟨y1, a1, g1, e1, b1, c1⟩ := among_tot hc (a := 0) (g := g) (K := 0) [(24 : Int), (30 : Int), (18 : Int), (36 : Int), (60 : Int), (100 : Int)] (by simp) (by simp) (by omega) (by omega)
  obtain ⟨y2, a2, g2, e2, b2, c2⟩ := among_tot hc (g := g1) [(12 : Int), (15 : Int), (18 : Int), (20 : Int), (24 : Int), (60 : Int)] (by simp) (by simp) c1 (by omega)
  obtain ⟨y3, a3, g3, e3, b3, c3⟩ := pick_tot hc (g := g2) 6 c2 (by omega)
  have h1 : 18 ≤ y1 ∧ y1 ≤ 100 := by simp at b1; omega
  have h2 : 12 ≤ y2 ∧ y2 ≤ 60 := by simp at b2; omega
  have w1 : IntKind.i64.wrap (y1 + IntKind.i64.wrap (2 * y2)) = y1 + 2 * y2 := by rw [w64 (x := 2 * y2) (by omega) (by omega), w64 (by omega) (by omega)]
  have w2 : IntKind.i64.wrap (1 + y3) = 1 + y3 := w64 (by omega) (by omega)
  obtain ⟨b, t, e4, t1, t2, t3⟩ := drawEpiSL_tot (c, a3, g3) (S := y1) (P := y2) (k := 1 + y3) ⟨by omega, by omega⟩
  unfold drawEpiS
  simp only [e1, e2, e3, ob_s, w1, w2, e4]
  cases b with
  | true =>
    obtain ⟨k', h5, h6⟩ := t2 rfl
    refine ⟨(y1, y1 + 2 * y2, y2, k'), a3, g3, ?_, by omega, h6, rfl⟩
    show some (t.2.2, t.1) = _
    rw [h5, t1]
  | false =>
    refine ⟨(24, 48, 12, 4), a3, g3, ?_, by omega, fallback_ok, rfl⟩
    show some (t.2.1, t.1) = _
    rw [t3 rfl, t1]
theorem mkS_rat {n d : Int} (hn : -1000000000 ≤ n ∧ n ≤ 1000000000) (hd : 1 ≤ d ∧ d ≤ 1000000000) : ∃ p, mkS (n, d) = some (p, true) ∧ vR p = true := by
  obtain ⟨p, hp⟩ := mkR_some hn hd
  refine ⟨p, ?_, mkR_valid (by omega) hp⟩
  rw [mkS_eq ⟨by omega, by omega⟩ ⟨by omega, by omega⟩ (by omega)]
  unfold redF
  rw [hp]
theorem drawRat_tot {c : List Int} (hc : bytesOk c) {a g K : Int} (ha : 0 ≤ a ∧ a ≤ K) (hK : K ≤ 100000) : ∃ (r : Int × Int) (a' g' : Int), drawRatS (c, a, g) = some (r, c, a', g') ∧ (0 ≤ a' ∧ a' ≤ K + 8) ∧ vR r = true := by
  obtain ⟨y1, a1, g1, e1, b1, c1⟩ := pick_tot hc (g := g) 100 ha (by omega)
  obtain ⟨y2, a2, g2, e2, b2, c2⟩ := pick_tot hc (g := g1) 30 c1 (by omega)
  obtain ⟨y3, a3, g3, e3, b3, c3⟩ := pick_tot hc (g := g2) 8 c2 (by omega)
  have w1 : IntKind.i64.wrap (y1 - 40) = y1 - 40 := w64 (by omega) (by omega)
  have w2 : IntKind.i64.wrap (1 + y2) = 1 + y2 := w64 (by omega) (by omega)
  unfold drawRatS
  simp only [e1, e2, e3, ob_s, w1, w2]
  cases y3 == (0 : Int) with
  | true =>
    obtain ⟨y4, a4, g4, e4, b4, c4⟩ := among_tot hc (g := g3) [(1000000000 : Int), (-1000000000 : Int), (999999937 : Int), (0 : Int), (1461 : Int), (29530589 : Int)] (by simp) (by simp) c3 (by omega)
    have h4 : -1000000000 ≤ y4 ∧ y4 ≤ 1000000000 := by simp at b4; omega
    obtain ⟨p, hp, vp⟩ := mkS_rat (n := y4) (d := 1 + y2) h4 ⟨by omega, by omega⟩
    simp only [br, e4, ob_s, hp]
    exact ⟨_, _, _, rfl, by omega, vp⟩
  | false =>
  cases y3 == (1 : Int) with
  | true =>
    obtain ⟨y4, a4, g4, e4, b4, c4⟩ := among_tot hc (g := g3) [(1000000000 : Int), (999999937 : Int), (4 : Int), (1000000 : Int)] (by simp) (by simp) c3 (by omega)
    have h4 : 1 ≤ y4 ∧ y4 ≤ 1000000000 := by simp at b4; omega
    obtain ⟨p, hp, vp⟩ := mkS_rat (n := y1 - 40) (d := y4) ⟨by omega, by omega⟩ h4
    simp only [br, e4, ob_s, hp]
    exact ⟨_, _, _, rfl, by omega, vp⟩
  | false =>
    obtain ⟨p, hp, vp⟩ := mkS_rat (n := y1 - 40) (d := 1 + y2) ⟨by omega, by omega⟩ ⟨by omega, by omega⟩
    simp only [br, ob_s, hp]
    exact ⟨_, _, _, rfl, by omega, vp⟩
theorem a2Epi_tot {c : List Int} (hc : bytesOk c) : ∃ (e : EpiD) (a b : Int × Int), a2EpiS c = some (e, a, b) ∧ validEpiI e = some true ∧ e.2.1 = e.1 + 2 * e.2.2.1 ∧ vR a = true ∧ vR b = true := by
  obtain ⟨e, a1, g1, e1, c1, h1, h2⟩ := drawEpi_tot hc 0
  obtain ⟨a, a2, g2, e2, c2, h3⟩ := drawRat_tot hc (g := g1) c1 (by omega)
  obtain ⟨b, a3, g3, e3, c3, h4⟩ := drawRat_tot hc (g := g2) c2 (by omega)
  refine ⟨e, a, b, ?_, h1, h2, h3, h4⟩
  unfold a2EpiS fromS
  simp only [ob_s, e1, e2, e3]

/-! ### Cages and sides -/
theorem cage_side {a b : Int × Int} (ha : vR a = true) (hb : vR b = true) :
    (ob (cageI (a, b)) fun y => br (y.2 != (0 : Int)) (some (y.2 == (2 : Int))) (ob (sideI ((y.1.1, y.1.2), a.1, a.2)) fun y => br (y.2 == (2 : Int)) (some true) (br (y.2 == (0 : Int)) (some (y.1.1 == b.1 && y.1.2 == b.2)) (some false)))) = some true := by
  obtain ⟨a1, a2, a3, a4⟩ := vR_bd ha
  obtain ⟨b1, b2, b3, b4⟩ := vR_bd hb
  have v2 : vR (1, 2) = true := by decide
  have hab : 0 < a.2 * b.2 := Int.mul_pos (by omega) (by omega)
  have add1 : addRatI ((a.1, a.2), b.1, b.2) = some (ratF (a.1 * b.2 + b.1 * a.2) (a.2 * b.2)) := by
    have := addRatI_eq a b
    rw [if_pos ⟨ha, hb⟩] at this; exact this
  unfold cageI
  dsimp only
  rw [add1, ob_s]
  rcases ratF_code (a.1 * b.2 + b.1 * a.2) (a.2 * b.2) with h0 | h0
  · obtain ⟨vs, hs⟩ := ratF_valid (by omega) h0
    have E1 := mkR_cross hab hs
    generalize hsd : (ratF (a.1 * b.2 + b.1 * a.2) (a.2 * b.2)).1 = s at *
    obtain ⟨s1, s2, s3, s4⟩ := vR_bd vs
    have mul1 : mulRatI ((s.1, s.2), 1, 2) = some (ratF (s.1 * 1) (s.2 * 2)) := by
      have := mulRatI_eq s (1, 2)
      rw [if_pos ⟨vs, v2⟩] at this; exact this
    rw [br_f (by rw [h0]; rfl), mul1]
    simp only [ob_s]
    rcases ratF_code (s.1 * 1) (s.2 * 2) with k0 | k0
    · obtain ⟨vg, hg⟩ := ratF_valid (by omega) k0
      have E2 := mkR_cross (by omega) hg
      generalize hgd : (ratF (s.1 * 1) (s.2 * 2)).1 = g at *
      obtain ⟨g1, g2, g3, g4⟩ := vR_bd vg
      have hgg : 0 < g.2 * g.2 := Int.mul_pos (by omega) (by omega)
      have va' : validRatI (a.1, a.2) = some true := by rw [validRatI_eq]; exact congrArg some ha
      have add2 : addRatI ((g.1, g.2), g.1, g.2) = some (ratF (g.1 * g.2 + g.1 * g.2) (g.2 * g.2)) := by
        have := addRatI_eq g g
        rw [if_pos ⟨vg, vg⟩] at this; exact this
      rw [k0, br_f (by rfl)]
      unfold sideI
      dsimp only
      rw [va', add2]
      simp only [ob_s, Bool.not_true, br]
      rcases ratF_code (g.1 * g.2 + g.1 * g.2) (g.2 * g.2) with m0 | m0
      · obtain ⟨vt, ht⟩ := ratF_valid (by omega) m0
        have E3 := mkR_cross hgg ht
        generalize htd : (ratF (g.1 * g.2 + g.1 * g.2) (g.2 * g.2)).1 = t at *
        obtain ⟨t1, t2, t3, t4⟩ := vR_bd vt
        have hts : t = s := by
          refine rat_unique vt vs ?_
          have q1 : 2 * g.1 * t.2 = t.1 * g.2 := by
            refine Int.eq_of_mul_eq_mul_right (show g.2 ≠ 0 by omega) ?_
            grind
          refine Int.eq_of_mul_eq_mul_right (show g.2 ≠ 0 by omega) ?_
          grind
        subst hts
        have hta : 0 < t.2 * a.2 := Int.mul_pos (by omega) (by omega)
        have sub1 : subRatI ((t.1, t.2), a.1, a.2) = some (ratF (t.1 * a.2 - a.1 * t.2) (t.2 * a.2)) := by
          have := subRatI_eq t a
          rw [if_pos ⟨vt, ha⟩] at this; exact this
        rw [m0, sub1]
        simp only [bne_self_eq_false, ob_s]
        rcases ratF_code (t.1 * a.2 - a.1 * t.2) (t.2 * a.2) with n0 | n0
        · obtain ⟨vu, hu⟩ := ratF_valid (by omega) n0
          have E4 := mkR_cross hta hu
          generalize hud : (ratF (t.1 * a.2 - a.1 * t.2) (t.2 * a.2)).1 = u at *
          have hub : u = b := by
            refine rat_unique vu hb ?_
            have hne : t.2 * a.2 ≠ 0 := by omega
            refine Int.eq_of_mul_eq_mul_right hne ?_
            grind
          rw [n0, hub]
          simp
        · rw [n0]; rfl
      · rw [m0]; rfl
    · rw [k0]; rfl
  · rw [h0]; rfl

/-! ### The law -/
def sameD (x e : EpiD) : Bool := x.1 == e.1 && (x.2.1 == e.2.1 && (x.2.2.1 == e.2.2.1 && x.2.2.2 == e.2.2.2))
theorem sameD_self (e : EpiD) : sameD e e = true := by
  unfold sameD
  simp
theorem found_any (e : EpiD) : ∀ (l : List EpiD) (i : Nat) (a : Bool), foldI (fun _ a x => if a = true then true else sameD x e) l i a = (a || l.any fun x => sameD x e)
  | [], _, a => by simp [foldI]
  | y :: l, i, a => by
    show foldI _ l (i + 1) _ = _
    rw [found_any e l (i + 1), List.any_cons]
    cases a <;> simp
theorem fnEpisL_val {e : EpiD} {a b r : Int × Int} (hr : vR r = true) {l : List EpiD} (hl : ∀ x ∈ l, hasR r e.2.2.2 x) (hlen : l.length ≤ 20) (c : Int) :
    fnEpisL (false, e, a, b, r, l, c, false, 0) = some (true, (false, e, a, b, r, l, c, l.any (fun x => sameD x e), (l.length : Int))) := by
  have h := foldI_loop (step := fnEpisL_step) (l := l) (fun i (f : Bool) => (false, e, a, b, r, l, c, f, i)) (fun _ f x => if f = true then true else sameD x e) (fun _ _ => True) (fun f => (false, e, a, b, r, l, c, f, (l.length : Int)))
    (fun i f x h0 h1 hx hx2 _ => by
      have e5 : IntKind.i64.wrap (i + 1) = i + 1 := w64 (by omega) (by omega)
      have hh := hl x (List.mem_of_getElem? hx2)
      have e3 : epiRatS ((x.1, x.2.1, x.2.2.1, x.2.2.2), 0, 2) = some (r, 0) := hasR_rat hr hh
      refine ⟨?_, trivial⟩
      unfold fnEpisL_step
      simp only [gi]
      rw [br_t (by simpa using h1)]
      simp only [hx, hx2, ob_s, e3, e5]
      rw [br_f (by simp), br_f (by simp), br_f (by simp [hh.2.1])]
      cases f <;> rfl)
    (fun f _ => by
      show br (decide ((l.length : Int) < (l.length : Int))) _ _ = _
      rw [br_f (by simp)]) (n := l.length - (0 : Int).toNat + 1) (by omega) (a0 := false) trivial
  have h2 := h.1.2
  rw [found_any, Bool.false_or] at h2
  exact h2
theorem min_max (x y : Int) : br (decide (x < y)) x y = (if x < y then x else y) ∧ br (decide (y < x)) x y = (if y < x then x else y) := by
  rw [br_if, br_if]
  simp only [decide_eq_true_eq]
  exact ⟨trivial, trivial⟩
theorem fnEpis_holds (c : List Int) (hw : WfAll [.slice (.int .u8)] c) : fnEpis c = some true := by
  have hc := bytes_wf hw
  obtain ⟨e, a, b, e0, he, her, ha, hb⟩ := a2Epi_tot hc
  obtain ⟨r, e1, hr, hr2⟩ := epiRat_val he
  have e1' : epiRatS ((e.1, e.2.1, e.2.2.1, e.2.2.2), 0, 2) = some (r, 0) := e1
  obtain ⟨v, hv, hbd⟩ := validEpiI_out e
  rw [he] at hv; cases hv
  obtain ⟨b1, b2, b3, b4⟩ := hbd rfl
  have hh : hasR r e.2.2.2 e := ⟨he, rfl, hr2⟩
  have key := cage_side ha hb
  unfold fnEpis a2Long
  dsimp only
  cases decide ((3000 : Int) < (c.length : Int)) with
  | true => rfl
  | false =>
    have z : decide ((3000 : Int) < (([] : List Int).length : Int)) = false := by decide
    have mm := min_max e.2.2.1 e.1
    rw [br_f (c := false) rfl, z, ob_s, br_f (c := false) rfl, e0]
    simp only [ob_s, e1']
    rw [mm.1, mm.2]
    generalize hlo : (if e.2.2.1 < e.1 then e.2.2.1 else e.1) = lo
    generalize hhi : (if e.1 < e.2.2.1 then e.2.2.1 else e.1) = hi
    have q1 : 6 ≤ lo ∧ lo ≤ e.1 ∧ lo ≤ e.2.2.1 := by rw [← hlo]; split <;> omega
    have q2 : hi ≤ 240 ∧ e.1 ≤ hi ∧ e.2.2.1 ≤ hi := by rw [← hhi]; split <;> omega
    rcases episI_find (lo := lo) (hi := hi) hr q1.1 q2.1 (by omega) b4 hh her ⟨q1.2.2, q2.2.2⟩ ⟨q1.2.1, q2.2.1⟩ with ⟨l, h1, h2, h3, h4⟩ | h1
    · have h1' : episI ((r.1, r.2), lo, hi, e.2.2.2) = some (l, 0) := h1
      have hL : fnEpisL (false, (e.1, e.2.1, e.2.2.1, e.2.2.2), (a.1, a.2), (b.1, b.2), (r.1, r.2), l, 0, false, 0) = _ := fnEpisL_val (e := e) (a := a) (b := b) hr h2 h3 0
      have hany : (l.any fun x => sameD x e) = true := List.any_eq_true.2 ⟨e, h4, sameD_self e⟩
      rw [hany] at hL
      rw [h1', ob_s, hL, ob_s]
      exact key
    · have h1' : episI ((r.1, r.2), lo, hi, e.2.2.2) = some ([], 5) := h1
      have hL : fnEpisL (false, (e.1, e.2.1, e.2.2.1, e.2.2.2), (a.1, a.2), (b.1, b.2), (r.1, r.2), [], 5, false, 0) = _ := fnEpisL_val (e := e) (a := a) (b := b) hr (fun x hx => by cases hx) (by simp) 5
      rw [h1', ob_s, hL, ob_s]
      exact key
end Rx
end Go.Proofs.Ytaaieejhbpdmoaa
