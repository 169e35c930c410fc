/- The epicyclic speeds: the implementation's answers are the spec's. No program in sight. -/
import Derived.Test.YtaaieejhbpdmoaaRxRatAddLaw
import Derived.Test.YtaaieejhbpdmoaaRxEpi
namespace Go.Proofs.Ytaaieejhbpdmoaa
namespace Rx
open Go

theorem sine_eq : sineS = spreadI := rfl
theorem faultsS_same (e : Int × Int × Int × Int) : faultsS e = faultsI e := by kernel_rfl

theorem spread_tot : ∀ (c : Int), 2 ≤ c → c ≤ 8 → ∃ k, spreadI c = some k := by
  intro c h1 h2
  have : c = 2 ∨ c = 3 ∨ c = 4 ∨ c = 5 ∨ c = 6 ∨ c = 7 ∨ c = 8 := by omega
  rcases this with rfl | rfl | rfl | rfl | rfl | rfl | rfl <;> exact ⟨_, rfl⟩

/-- A train of planets with its teeth and its count in their bounds. -/
def epiBd (e : Int × Int × Int × Int) : Prop := (6 ≤ e.1 ∧ e.1 ≤ 240) ∧ (6 ≤ e.2.1 ∧ e.2.1 ≤ 240) ∧ (6 ≤ e.2.2.1 ∧ e.2.2.1 ≤ 240) ∧ (1 ≤ e.2.2.2 ∧ e.2.2.2 ≤ 8)
theorem faults_out (e : Int × Int × Int × Int) : ∃ l, faultsI e = some l ∧ (l = [] → epiBd e) := by
  obtain ⟨a, b, c, n⟩ := e
  unfold faultsI
  simp only [toothed_eq, within_eq, ob_s]
  by_cases ha : 6 ≤ a ∧ a ≤ 240
  · rw [br_f (c := !(decide (6 ≤ a) && decide (a ≤ 240))) (by simp [ha])]
    by_cases hb : 6 ≤ b ∧ b ≤ 240
    · rw [br_f (c := !(decide (6 ≤ b) && decide (b ≤ 240))) (by simp [hb])]
      by_cases hc : 6 ≤ c ∧ c ≤ 240
      · rw [br_f (c := !(decide (6 ≤ c) && decide (c ≤ 240))) (by simp [hc])]
        by_cases hn : 1 ≤ n ∧ n ≤ 8
        · rw [br_f (c := !(decide (1 ≤ n) && decide (n ≤ 8))) (by simp [hn])]
          have key : ∀ {x : Option (List ByteArray)}, tot x → ∃ l, x = some l ∧ (l = [] → epiBd (a, b, c, n)) := fun ⟨l, h⟩ => ⟨l, h, fun _ => ⟨ha, hb, hc, hn⟩⟩
          apply key
          rw [br_f (c := n == 0) (by simp; omega), br_f (c := n == 0) (by simp; omega)]
          by_cases h2 : 2 ≤ n
          · obtain ⟨k, hk⟩ := spread_tot n h2 hn.2
            rw [hk]
            repeat' first | exact tot_s | apply tot_br | apply tot_ob
          · simp only [br_f (c := decide ((2 : Int) ≤ n)) (by simpa using h2)]
            repeat' first | exact tot_s | apply tot_br
        · rw [br_t (c := !(decide (1 ≤ n) && decide (n ≤ 8))) (by rw [← Bool.decide_and]; simp only [hn, decide_false, Bool.not_false])]
          exact ⟨_, rfl, fun h => by cases h⟩
      · rw [br_t (c := !(decide (6 ≤ c) && decide (c ≤ 240))) (by rw [← Bool.decide_and]; simp only [hc, decide_false, Bool.not_false])]
        cases (!(decide (1 ≤ n) && decide (n ≤ 8))) <;> exact ⟨_, rfl, fun h => by cases h⟩
    · rw [br_t (c := !(decide (6 ≤ b) && decide (b ≤ 240))) (by rw [← Bool.decide_and]; simp only [hb, decide_false, Bool.not_false])]
      cases (!(decide (1 ≤ n) && decide (n ≤ 8))) <;> exact ⟨_, rfl, fun h => by cases h⟩
  · rw [br_t (c := !(decide (6 ≤ a) && decide (a ≤ 240))) (by rw [← Bool.decide_and]; simp only [ha, decide_false, Bool.not_false])]
    cases (!(decide (1 ≤ n) && decide (n ≤ 8))) <;> exact ⟨_, rfl, fun h => by cases h⟩

theorem validEpiI_out (e : Int × Int × Int × Int) : ∃ v, validEpiI e = some v ∧ (v = true → epiBd e) := by
  obtain ⟨l, h1, h2⟩ := faults_out e
  show ∃ v, ob (faultsI e) _ = _ ∧ _
  rw [h1]
  refine ⟨_, rfl, fun h => h2 ?_⟩
  have : ((l.length : Int)) = 0 := by simpa using h
  exact List.eq_nil_of_length_eq_zero (by omega)
theorem okEpiS_same : okEpiS = validEpiI := by
  funext e
  show ob (faultsS e) _ = ob (faultsI e) _
  rw [faultsS_same]

/-- A ratio of small terms is one of its terms. -/
theorem mkR_small {n d : Int} (hn : 1 ≤ n ∧ n ≤ 480) (hd : 1 ≤ d ∧ d ≤ 480) : ∃ p, mkR n d = some p := by
  have hg := gcd_pos (n := n) (d := d) (by omega)
  have qn := div_bd (x := mag n) (B := 480) hg (mag_nn n) (by unfold mag; omega)
  have qd := div_bd (x := mag d) (B := 480) hg (mag_nn d) (by unfold mag; omega)
  unfold mkR
  dsimp only
  rw [if_neg (by omega)]
  exact ⟨_, rfl⟩
theorem small64 {n : Int} (hn : 1 ≤ n ∧ n ≤ 480) : I64 n := ⟨by omega, by omega⟩

/-- How a wheel turns that meshes in a turning frame: what both sides come to. -/
def turnF (a b k : Int × Int) : (Int × Int) × Int :=
  let s := ratF (a.1 * b.2 - b.1 * a.2) (a.2 * b.2)
  if s.2 = 0 then
    let m := ratF (s.1.1 * k.1) (s.1.2 * k.2)
    if m.2 = 0 then ratF (b.1 * m.1.2 - m.1.1 * b.2) (b.2 * m.1.2) else ((0, 0), m.2)
  else ((0, 0), s.2)
theorem vpos {a b : Int × Int} (ha : vR a = true) (hb : vR b = true) : a.2 * b.2 ≠ 0 := by
  have := pp1 (vR_bd ha).1 (vR_bd hb).1
  omega
theorem turnS_eq {a b : Int × Int} {p q : Int} {k : Int × Int} (ha : vR a = true) (hb : vR b = true) (hp : 1 ≤ p ∧ p ≤ 480) (hq : 1 ≤ q ∧ q ≤ 480) (hk : mkR p q = some k) : turnS (a, b, p, q) = some (turnF a b k) := by
  have vk : vR k = true := mkR_valid (by omega) hk
  show ob (mkS (p, q)) _ = _
  rw [mkS_eq (small64 hp) (small64 hq) (by omega)]
  unfold redF
  rw [hk]
  show ob (subRatS (a, b)) _ = _
  rw [subRatS_same, subRatI_eq, if_pos ⟨ha, hb⟩]
  unfold turnF
  dsimp only
  show br ((ratF (a.1 * b.2 - b.1 * a.2) (a.2 * b.2)).2 != 0) _ _ = _
  by_cases hs : (ratF (a.1 * b.2 - b.1 * a.2) (a.2 * b.2)).2 = 0
  · obtain ⟨vs, _⟩ := ratF_valid (vpos ha hb) hs
    rw [br_f (by simpa using hs), if_pos hs]
    generalize (ratF (a.1 * b.2 - b.1 * a.2) (a.2 * b.2)).1 = s at vs
    show ob (mulRatS (s, k)) _ = _
    rw [mulRatS_same, mulRatI_eq, if_pos ⟨vs, vk⟩]
    show br ((ratF (s.1 * k.1) (s.2 * k.2)).2 != 0) _ _ = _
    by_cases hm : (ratF (s.1 * k.1) (s.2 * k.2)).2 = 0
    · obtain ⟨vm, _⟩ := ratF_valid (vpos vs vk) hm
      rw [br_f (by simpa using hm), if_pos hm]
      generalize (ratF (s.1 * k.1) (s.2 * k.2)).1 = m at vm
      show ob (subRatI (b, m)) _ = _
      rw [subRatI_eq, if_pos ⟨hb, vm⟩]
      rfl
    · rw [br_t (by simpa using hm), if_neg hm]
  · rw [br_t (by simpa using hs), if_neg hs]
theorem relI_eq {e : Int × Int × Int × Int} {a b : Int × Int} {p q : Int} {k : Int × Int} (he : validEpiI e = some true) (ha : vR a = true) (hb : vR b = true) (hp : 1 ≤ p ∧ p ≤ 480) (hq : 1 ≤ q ∧ q ≤ 480) (hk : mkR p q = some k) : relI (e, a, b, p, q) = some (turnF a b k) := by
  have vk : vR k = true := mkR_valid (by omega) hk
  show ob (validEpiI e) _ = _
  rw [he]
  show ob (validRatI a) _ = _
  rw [validRatI_eq, ha]
  show ob (validRatI b) _ = _
  rw [validRatI_eq, hb]
  show ob (subRatI (a, b)) _ = _
  rw [subRatI_eq, if_pos ⟨ha, hb⟩]
  unfold turnF
  dsimp only
  show br ((ratF (a.1 * b.2 - b.1 * a.2) (a.2 * b.2)).2 != 0) _ _ = _
  by_cases hs : (ratF (a.1 * b.2 - b.1 * a.2) (a.2 * b.2)).2 = 0
  · obtain ⟨vs, _⟩ := ratF_valid (vpos ha hb) hs
    rw [br_f (by simpa using hs), if_pos hs]
    generalize (ratF (a.1 * b.2 - b.1 * a.2) (a.2 * b.2)).1 = s at vs
    show ob (makeRatI (p, q)) _ = _
    rw [makeRatI_eq (small64 hp) (small64 hq) (by omega)]
    have ek : ratF p q = (k, 0) := by unfold ratF; rw [hk]
    rw [ek]
    show ob (mulRatI (s, k)) _ = _
    rw [mulRatI_eq, if_pos ⟨vs, vk⟩]
    show br ((ratF (s.1 * k.1) (s.2 * k.2)).2 != 0) _ _ = _
    by_cases hm : (ratF (s.1 * k.1) (s.2 * k.2)).2 = 0
    · obtain ⟨vm, _⟩ := ratF_valid (vpos vs vk) hm
      rw [br_f (by simpa using hm), if_pos hm]
      generalize (ratF (s.1 * k.1) (s.2 * k.2)).1 = m at vm
      show ob (subRatI (b, m)) _ = _
      rw [subRatI_eq, if_pos ⟨hb, vm⟩]
      rfl
    · rw [br_t (by simpa using hm), if_neg hm]
  · rw [br_t (by simpa using hs), if_neg hs]

/-- Both sides at a train, two speeds and two wheels. -/
theorem rel_both (e : Int × Int × Int × Int) (a b : Int × Int) {p q : Int} (hpq : epiBd e → (1 ≤ p ∧ p ≤ 480) ∧ (1 ≤ q ∧ q ≤ 480)) :
    ∃ r, relI (e, a, b, p, q) = some r ∧
      (ob (okEpiS e) fun y => br (!y) (some (((0 : Int), (0 : Int)), (1 : Int))) (ob (okRatS a) fun y => br (!y) (some (((0 : Int), (0 : Int)), (1 : Int))) (ob (okRatS b) fun y => br (!y) (some (((0 : Int), (0 : Int)), (1 : Int))) (ob (turnS (a, b, p, q)) fun y => some ((y.fst.1, y.fst.2), y.2))))) = some r := by
  rw [okEpiS_same, okRatS_same]
  obtain ⟨v, hv, hb⟩ := validEpiI_out e
  cases v with
  | false =>
    refine ⟨((0, 0), 1), ?_, ?_⟩
    · show ob (validEpiI e) _ = _
      rw [hv]; rfl
    · rw [hv]; rfl
  | true =>
    have bd := hpq (hb rfl)
    rw [hv]
    show ∃ r, _ ∧ ob (validRatI a) _ = _
    rw [validRatI_eq]
    cases va : vR a with
    | false =>
      refine ⟨((0, 0), 1), ?_, rfl⟩
      show ob (validEpiI e) _ = _
      rw [hv]
      show ob (validRatI a) _ = _
      rw [validRatI_eq, va]; rfl
    | true =>
      show ∃ r, _ ∧ ob (validRatI b) _ = _
      rw [validRatI_eq]
      cases vb : vR b with
      | false =>
        refine ⟨((0, 0), 1), ?_, rfl⟩
        show ob (validEpiI e) _ = _
        rw [hv]
        show ob (validRatI a) _ = _
        rw [validRatI_eq, va]
        show ob (validRatI b) _ = _
        rw [validRatI_eq, vb]; rfl
      | true =>
        obtain ⟨k, hk⟩ := mkR_small bd.1 bd.2
        refine ⟨_, relI_eq hv va vb bd.1 bd.2 hk, ?_⟩
        show ob (turnS (a, b, p, q)) _ = _
        rw [turnS_eq va vb bd.1 bd.2 hk]; rfl
theorem sun_both (e : Int × Int × Int × Int) (a b : Int × Int) : ∃ r, sunI (e, a, b) = some r ∧ sunS (e, a, b) = some r := by
  obtain ⟨r, h1, h2⟩ := rel_both e a b (p := e.2.1) (q := e.1) (fun h => ⟨⟨by have := h.2.1; omega, by have := h.2.1; omega⟩, ⟨by have := h.1; omega, by have := h.1; omega⟩⟩)
  refine ⟨r, ?_, h2⟩
  show ob (relI (e, a, b, e.2.1, e.1)) _ = _
  rw [h1]; rfl
theorem ring_both (e : Int × Int × Int × Int) (a b : Int × Int) : ∃ r, ringI (e, a, b) = some r ∧ ringS (e, a, b) = some r := by
  obtain ⟨r, h1, h2⟩ := rel_both e a b (p := e.1) (q := e.2.1) (fun h => ⟨⟨by have := h.1; omega, by have := h.1; omega⟩, ⟨by have := h.2.1; omega, by have := h.2.1; omega⟩⟩)
  refine ⟨r, ?_, h2⟩
  show ob (relI (e, a, b, e.1, e.2.1)) _ = _
  rw [h1]; rfl
theorem planet_both (e : Int × Int × Int × Int) (a b : Int × Int) : ∃ r, planetI (e, a, b) = some r ∧ planetS (e, a, b) = some r := by
  obtain ⟨r, h1, h2⟩ := rel_both e a b (p := e.1) (q := e.2.2.1) (fun h => ⟨⟨by have := h.1; omega, by have := h.1; omega⟩, ⟨by have := h.2.2.1; omega, by have := h.2.2.1; omega⟩⟩)
  refine ⟨r, ?_, h2⟩
  show ob (relI (e, a, b, e.1, e.2.2.1)) _ = _
  rw [h1]; rfl

/-- The carrier: what both sides come to. -/
def carF (a b k l : Int × Int) : (Int × Int) × Int :=
  let s := ratF (a.1 * k.1) (a.2 * k.2)
  let t := ratF (b.1 * l.1) (b.2 * l.2)
  if s.2 = 0 then
    if t.2 = 0 then ratF (s.1.1 * t.1.2 + t.1.1 * s.1.2) (s.1.2 * t.1.2) else ((0, 0), 2)
  else ((0, 0), 2)
theorem ratF_two {n d : Int} (h : (ratF n d).2 ≠ 0) : (ratF n d).2 = 2 := by
  unfold ratF at h ⊢
  cases e : mkR n d with
  | none => rfl
  | some p => rw [e] at h; exact (h rfl).elim
theorem redF_ok {n d : Int} (h : (ratF n d).2 = 0) : redF n d = ((ratF n d).1, true) := by
  unfold ratF at h; unfold redF ratF
  cases e : mkR n d with
  | none => rw [e] at h; cases h
  | some p => rfl
theorem redF_no {n d : Int} (h : (ratF n d).2 ≠ 0) : redF n d = ((0, 0), false) := by
  unfold ratF at h; unfold redF
  cases e : mkR n d with
  | none => rfl
  | some p => rw [e] at h; exact (h rfl).elim
theorem carrier_both (e : Int × Int × Int × Int) (a b : Int × Int) : ∃ r, carrierI (e, a, b) = some r ∧ carrierS (e, a, b) = some r := by
  obtain ⟨v, hv, hb⟩ := validEpiI_out e
  show ∃ r, ob (validEpiI e) _ = _ ∧ ob (okEpiS e) _ = _
  rw [okEpiS_same, hv]
  cases v with
  | false => exact ⟨((0, 0), 1), rfl, rfl⟩
  | true =>
    obtain ⟨b1, b2, b3, b4⟩ := hb rfl
    show ∃ r, ob (validRatI a) _ = _ ∧ ob (okRatS a) _ = _
    rw [okRatS_eq, validRatI_eq]
    cases va : vR a with
    | false => exact ⟨((0, 0), 1), rfl, rfl⟩
    | true =>
      show ∃ r, ob (validRatI b) _ = _ ∧ ob (okRatS b) _ = _
      rw [okRatS_eq, validRatI_eq]
      cases vb : vR b with
      | false => exact ⟨((0, 0), 1), rfl, rfl⟩
      | true =>
        have hd : 1 ≤ e.1 + e.2.1 ∧ e.1 + e.2.1 ≤ 480 := by omega
        have hp : 1 ≤ e.1 ∧ e.1 ≤ 480 := by omega
        have hq : 1 ≤ e.2.1 ∧ e.2.1 ≤ 480 := by omega
        obtain ⟨k, hk⟩ := mkR_small hp hd
        obtain ⟨l, hl⟩ := mkR_small hq hd
        have vk : vR k = true := mkR_valid (by omega) hk
        have vl : vR l = true := mkR_valid (by omega) hl
        refine ⟨carF a b k l, ?_, ?_⟩
        · show ob (makeRatI (e.1, IntKind.i64.wrap (e.1 + e.2.1))) _ = _
          rw [w64 (by omega) (by omega), makeRatI_eq (small64 hp) (small64 hd) (by omega)]
          have ek : ratF e.1 (e.1 + e.2.1) = (k, 0) := by unfold ratF; rw [hk]
          rw [ek]
          show ob (makeRatI (e.2.1, e.1 + e.2.1)) _ = _
          rw [makeRatI_eq (small64 hq) (small64 hd) (by omega)]
          have el : ratF e.2.1 (e.1 + e.2.1) = (l, 0) := by unfold ratF; rw [hl]
          rw [el]
          show ob (mulRatI (a, k)) _ = _
          rw [mulRatI_eq, if_pos ⟨va, vk⟩]
          unfold carF
          dsimp only
          show br ((ratF (a.1 * k.1) (a.2 * k.2)).2 != 0) _ _ = _
          by_cases hs : (ratF (a.1 * k.1) (a.2 * k.2)).2 = 0
          · obtain ⟨vs, _⟩ := ratF_valid (vpos va vk) hs
            rw [br_f (by simpa using hs), if_pos hs]
            generalize (ratF (a.1 * k.1) (a.2 * k.2)).1 = s at vs
            show ob (mulRatI (b, l)) _ = _
            rw [mulRatI_eq, if_pos ⟨vb, vl⟩]
            show br ((ratF (b.1 * l.1) (b.2 * l.2)).2 != 0) _ _ = _
            by_cases ht : (ratF (b.1 * l.1) (b.2 * l.2)).2 = 0
            · obtain ⟨vt, _⟩ := ratF_valid (vpos vb vl) ht
              rw [br_f (by simpa using ht), if_pos ht]
              generalize (ratF (b.1 * l.1) (b.2 * l.2)).1 = t at vt
              show ob (addRatI (s, t)) _ = _
              rw [addRatI_eq, if_pos ⟨vs, vt⟩]; rfl
            · rw [br_t (by simpa using ht), if_neg ht, ratF_two ht]
          · rw [br_t (by simpa using hs), if_neg hs, ratF_two hs]
        · show ob (mkS (e.1, IntKind.i64.wrap (e.1 + e.2.1))) _ = _
          rw [w64 (by omega) (by omega), mkS_eq (small64 hp) (small64 hd) (by omega)]
          have ek : redF e.1 (e.1 + e.2.1) = (k, true) := by unfold redF; rw [hk]
          rw [ek]
          show ob (mkS (e.2.1, e.1 + e.2.1)) _ = _
          rw [mkS_eq (small64 hq) (small64 hd) (by omega)]
          have el : redF e.2.1 (e.1 + e.2.1) = (l, true) := by unfold redF; rw [hl]
          rw [el]
          show ob (mulS (a, k)) _ = _
          rw [mulS_eq va vk]
          show ob (mulS (b, l)) _ = _
          rw [mulS_eq vb vl]
          unfold carF
          dsimp only
          show br (!(redF (a.1 * k.1) (a.2 * k.2)).2) _ _ = _
          by_cases hs : (ratF (a.1 * k.1) (a.2 * k.2)).2 = 0
          · obtain ⟨vs, _⟩ := ratF_valid (vpos va vk) hs
            rw [if_pos hs, redF_ok hs]
            generalize (ratF (a.1 * k.1) (a.2 * k.2)).1 = s at vs
            show br (!(redF (b.1 * l.1) (b.2 * l.2)).2) _ _ = _
            by_cases ht : (ratF (b.1 * l.1) (b.2 * l.2)).2 = 0
            · obtain ⟨vt, _⟩ := ratF_valid (vpos vb vl) ht
              rw [if_pos ht, redF_ok ht]
              generalize (ratF (b.1 * l.1) (b.2 * l.2)).1 = t at vt
              show ob (addS (s, t)) _ = _
              rw [addS_eq vs vt]
              show ob (codeS (redF _ _)) _ = _
              rw [codeS_eq]; rfl
            · rw [if_neg ht, redF_no ht]; rfl
          · rw [if_neg hs, redF_no hs]; rfl

theorem eqRat_self (a : Int × Int) : eqRatL (a, a) = some true := by
  show br (a.1 != a.1) _ (br (a.2 != a.2) _ _) = _
  rw [br_f (by simp), br_f (by simp)]
/-- A law's last words, when both sides answer alike. -/
theorem last_words {r : (Int × Int) × Int} : (ob (eqRatL ((r.fst.1, r.fst.2), r.fst.1, r.fst.2)) fun y => br (!y) (some false) (br (r.2 != r.2) (some false) (some true))) = some true := by
  rw [eqRat_self]
  show br (r.2 != r.2) _ _ = _
  rw [br_f (by simp)]
theorem lawSun_holds (x : (Int × Int × Int × Int) × (Int × Int) × (Int × Int)) : lawSun x = some true := by
  obtain ⟨e, a, b⟩ := x
  obtain ⟨r, h1, h2⟩ := sun_both e a b
  show ob (sunS (e, a, b)) _ = _
  rw [h2]
  show ob (sunI (e, a, b)) _ = _
  rw [h1]
  exact last_words
theorem lawRing_holds (x : (Int × Int × Int × Int) × (Int × Int) × (Int × Int)) : lawRing x = some true := by
  obtain ⟨e, a, b⟩ := x
  obtain ⟨r, h1, h2⟩ := ring_both e a b
  show ob (ringS (e, a, b)) _ = _
  rw [h2]
  show ob (ringI (e, a, b)) _ = _
  rw [h1]
  exact last_words
theorem lawPlanet_holds (x : (Int × Int × Int × Int) × (Int × Int) × (Int × Int)) : lawPlanet x = some true := by
  obtain ⟨e, a, b⟩ := x
  obtain ⟨r, h1, h2⟩ := planet_both e a b
  show ob (planetS (e, a, b)) _ = _
  rw [h2]
  show ob (planetI (e, a, b)) _ = _
  rw [h1]
  exact last_words
theorem lawCarrier_holds (x : (Int × Int × Int × Int) × (Int × Int) × (Int × Int)) : lawCarrier x = some true := by
  obtain ⟨e, a, b⟩ := x
  obtain ⟨r, h1, h2⟩ := carrier_both e a b
  show ob (carrierS (e, a, b)) _ = _
  rw [h2]
  show ob (carrierI (e, a, b)) _ = _
  rw [h1]
  exact last_words
end Rx
end Go.Proofs.Ytaaieejhbpdmoaa
