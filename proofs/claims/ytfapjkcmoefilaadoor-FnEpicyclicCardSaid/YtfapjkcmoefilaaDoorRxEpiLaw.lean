/- The epicyclic speeds: the implementation's answers are the spec's. No program in sight. -/
import Derived.Test.YtfapjkcmoefilaaDoorRxRatAddLaw
import Derived.Test.YtfapjkcmoefilaaDoorRxEpi
namespace Go.Proofs.YtfapjkcmoefilaaDoor
namespace Rx
open Go

theorem sine_eq : sineS = spreadI := rfl
theorem faultsS_same (e : Int × Int × Int × Int) : faultsS e = faultsI e := by kernel_rfl

theorem spread_tot : ∀ (c : Int), 2 ≤ c → c ≤ 8 → ∃ k, spreadI c = some k := by
  intro c h1 h2
  have : c = 2 ∨ c = 3 ∨ c = 4 ∨ c = 5 ∨ c = 6 ∨ c = 7 ∨ c = 8 := by omega
  rcases this with rfl | rfl | rfl | rfl | rfl | rfl | rfl <;> exact ⟨_, rfl⟩

/-- A train of planets with its teeth and its count in their bounds. -/
def epiBd (e : Int × Int × Int × Int) : Prop := (6 ≤ e.1 ∧ e.1 ≤ 240) ∧ (6 ≤ e.2.1 ∧ e.2.1 ≤ 240) ∧ (6 ≤ e.2.2.1 ∧ e.2.2.1 ≤ 240) ∧ (1 ≤ e.2.2.2 ∧ e.2.2.2 ≤ 8)
theorem faults_out (e : Int × Int × Int × Int) : ∃ l, faultsI e = some l ∧ (l = [] → epiBd e) := by
  obtain ⟨a, b, c, n⟩ := e
  unfold faultsI
  simp only [toothed_eq, within_eq, ob_s]
  by_cases ha : 6 ≤ a ∧ a ≤ 240
  · rw [br_f (c := !(decide (6 ≤ a) && decide (a ≤ 240))) (by simp [ha])]
    by_cases hb : 6 ≤ b ∧ b ≤ 240
    · rw [br_f (c := !(decide (6 ≤ b) && decide (b ≤ 240))) (by simp [hb])]
      by_cases hc : 6 ≤ c ∧ c ≤ 240
      · rw [br_f (c := !(decide (6 ≤ c) && decide (c ≤ 240))) (by simp [hc])]
        by_cases hn : 1 ≤ n ∧ n ≤ 8
        · rw [br_f (c := !(decide (1 ≤ n) && decide (n ≤ 8))) (by simp [hn])]
          have key : ∀ {x : Option (List ByteArray)}, tot x → ∃ l, x = some l ∧ (l = [] → epiBd (a, b, c, n)) := fun ⟨l, h⟩ => ⟨l, h, fun _ => ⟨ha, hb, hc, hn⟩⟩
          apply key
          rw [br_f (c := n == 0) (by simp; omega), br_f (c := n == 0) (by simp; omega)]
          by_cases h2 : 2 ≤ n
          · obtain ⟨k, hk⟩ := spread_tot n h2 hn.2
            rw [hk]
            repeat' first | exact tot_s | apply tot_br | apply tot_ob
          · simp only [br_f (c := decide ((2 : Int) ≤ n)) (by simpa using h2)]
            repeat' first | exact tot_s | apply tot_br
        · rw [br_t (c := !(decide (1 ≤ n) && decide (n ≤ 8))) (by rw [← Bool.decide_and]; simp only [hn, decide_false, Bool.not_false])]
          exact ⟨_, rfl, fun h => by cases h⟩
      · rw [br_t (c := !(decide (6 ≤ c) && decide (c ≤ 240))) (by rw [← Bool.decide_and]; simp only [hc, decide_false, Bool.not_false])]
        cases (!(decide (1 ≤ n) && decide (n ≤ 8))) <;> exact ⟨_, rfl, fun h => by cases h⟩
    · rw [br_t (c := !(decide (6 ≤ b) && decide (b ≤ 240))) (by rw [← Bool.decide_and]; simp only [hb, decide_false, Bool.not_false])]
      cases (!(decide (1 ≤ n) && decide (n ≤ 8))) <;> exact ⟨_, rfl, fun h => by cases h⟩
  · rw [br_t (c := !(decide (6 ≤ a) && decide (a ≤ 240))) (by rw [← Bool.decide_and]; simp only [ha, decide_false, Bool.not_false])]
    cases (!(decide (1 ≤ n) && decide (n ≤ 8))) <;> exact ⟨_, rfl, fun h => by cases h⟩

theorem validEpiI_out (e : Int × Int × Int × Int) : ∃ v, validEpiI e = some v ∧ (v = true → epiBd e) := by
  obtain ⟨l, h1, h2⟩ := faults_out e
  show ∃ v, ob (faultsI e) _ = _ ∧ _
  rw [h1]
  refine ⟨_, rfl, fun h => h2 ?_⟩
  have : ((l.length : Int)) = 0 := by simpa using h
  exact List.eq_nil_of_length_eq_zero (by omega)
theorem okEpiS_same : okEpiS = validEpiI := by
  funext e
  show ob (faultsS e) _ = ob (faultsI e) _
  rw [faultsS_same]

/-- A ratio of small terms is one of its terms. -/
theorem mkR_small {n d : Int} (hn : 1 ≤ n ∧ n ≤ 480) (hd : 1 ≤ d ∧ d ≤ 480) : ∃ p, mkR n d = some p := by
  have hg := gcd_pos (n := n) (d := d) (by omega)
  have qn := div_bd (x := mag n) (B := 480) hg (mag_nn n) (by unfold mag; omega)
  have qd := div_bd (x := mag d) (B := 480) hg (mag_nn d) (by unfold mag; omega)
  unfold mkR
  dsimp only
  rw [if_neg (by omega)]
  exact ⟨_, rfl⟩
theorem small64 {n : Int} (hn : 1 ≤ n ∧ n ≤ 480) : I64 n := ⟨by omega, by omega⟩

/-- How a wheel turns that meshes in a turning frame: what both sides come to. -/
def turnF (a b k : Int × Int) : (Int × Int) × Int :=
  let s := ratF (a.1 * b.2 - b.1 * a.2) (a.2 * b.2)
  if s.2 = 0 then
    let m := ratF (s.1.1 * k.1) (s.1.2 * k.2)
    if m.2 = 0 then ratF (b.1 * m.1.2 - m.1.1 * b.2) (b.2 * m.1.2) else ((0, 0), m.2)
  else ((0, 0), s.2)
theorem vpos {a b : Int × Int} (ha : vR a = true) (hb : vR b = true) : a.2 * b.2 ≠ 0 := by
  have := pp1 (vR_bd ha).1 (vR_bd hb).1
  omega
theorem relI_eq {e : Int × Int × Int × Int} {a b : Int × Int} {p q : Int} {k : Int × Int} (he : validEpiI e = some true) (ha : vR a = true) (hb : vR b = true) (hp : 1 ≤ p ∧ p ≤ 480) (hq : 1 ≤ q ∧ q ≤ 480) (hk : mkR p q = some k) : relI (e, a, b, p, q) = some (turnF a b k) := by
  have vk : vR k = true := mkR_valid (by omega) hk
  show ob (validEpiI e) _ = _
  rw [he]
  show ob (validRatI a) _ = _
  rw [validRatI_eq, ha]
  show ob (validRatI b) _ = _
  rw [validRatI_eq, hb]
  show ob (subRatI (a, b)) _ = _
  rw [subRatI_eq, if_pos ⟨ha, hb⟩]
  unfold turnF
  dsimp only
  show br ((ratF (a.1 * b.2 - b.1 * a.2) (a.2 * b.2)).2 != 0) _ _ = _
  by_cases hs : (ratF (a.1 * b.2 - b.1 * a.2) (a.2 * b.2)).2 = 0
  · obtain ⟨vs, _⟩ := ratF_valid (vpos ha hb) hs
    rw [br_f (by simpa using hs), if_pos hs]
    generalize (ratF (a.1 * b.2 - b.1 * a.2) (a.2 * b.2)).1 = s at vs
    show ob (makeRatI (p, q)) _ = _
    rw [makeRatI_eq (small64 hp) (small64 hq) (by omega)]
    have ek : ratF p q = (k, 0) := by unfold ratF; rw [hk]
    rw [ek]
    show ob (mulRatI (s, k)) _ = _
    rw [mulRatI_eq, if_pos ⟨vs, vk⟩]
    show br ((ratF (s.1 * k.1) (s.2 * k.2)).2 != 0) _ _ = _
    by_cases hm : (ratF (s.1 * k.1) (s.2 * k.2)).2 = 0
    · obtain ⟨vm, _⟩ := ratF_valid (vpos vs vk) hm
      rw [br_f (by simpa using hm), if_pos hm]
      generalize (ratF (s.1 * k.1) (s.2 * k.2)).1 = m at vm
      show ob (subRatI (b, m)) _ = _
      rw [subRatI_eq, if_pos ⟨hb, vm⟩]
      rfl
    · rw [br_t (by simpa using hm), if_neg hm]
  · rw [br_t (by simpa using hs), if_neg hs]

/-- The carrier: what both sides come to. -/
def carF (a b k l : Int × Int) : (Int × Int) × Int :=
  let s := ratF (a.1 * k.1) (a.2 * k.2)
  let t := ratF (b.1 * l.1) (b.2 * l.2)
  if s.2 = 0 then
    if t.2 = 0 then ratF (s.1.1 * t.1.2 + t.1.1 * s.1.2) (s.1.2 * t.1.2) else ((0, 0), 2)
  else ((0, 0), 2)
theorem ratF_two {n d : Int} (h : (ratF n d).2 ≠ 0) : (ratF n d).2 = 2 := by
  unfold ratF at h ⊢
  cases e : mkR n d with
  | none => rfl
  | some p => rw [e] at h; exact (h rfl).elim
theorem redF_ok {n d : Int} (h : (ratF n d).2 = 0) : redF n d = ((ratF n d).1, true) := by
  unfold ratF at h; unfold redF ratF
  cases e : mkR n d with
  | none => rw [e] at h; cases h
  | some p => rfl
theorem redF_no {n d : Int} (h : (ratF n d).2 ≠ 0) : redF n d = ((0, 0), false) := by
  unfold ratF at h; unfold redF
  cases e : mkR n d with
  | none => rfl
  | some p => rw [e] at h; exact (h rfl).elim
theorem eqRat_self (a : Int × Int) : eqRatL (a, a) = some true := by
  show br (a.1 != a.1) _ (br (a.2 != a.2) _ _) = _
  rw [br_f (by simp), br_f (by simp)]
/-- A law's last words, when both sides answer alike. -/
theorem last_words {r : (Int × Int) × Int} : (ob (eqRatL ((r.fst.1, r.fst.2), r.fst.1, r.fst.2)) fun y => br (!y) (some false) (br (r.2 != r.2) (some false) (some true))) = some true := by
  rw [eqRat_self]
  show br (r.2 != r.2) _ _ = _
  rw [br_f (by simp)]
end Rx
end Go.Proofs.YtfapjkcmoefilaaDoor
