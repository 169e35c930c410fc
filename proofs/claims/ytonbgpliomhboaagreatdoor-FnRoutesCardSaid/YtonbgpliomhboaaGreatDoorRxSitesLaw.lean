/- Plates and their sites: what the laws make of them, when two are the same, when one is valid. No program in sight. -/
import Derived.Test.YtonbgpliomhboaaGreatDoorRxPlain
import Derived.Test.YtonbgpliomhboaaGreatDoorRxSites
import Derived.Laws.Strings
namespace Go.Proofs.YtonbgpliomhboaaGreatDoor
namespace Rx
open Go

/-! ### Copies -/
/-! ### Sizes -/
/-! ### Each is itself -/
/-! ### The same plate -/
/-! ### Names -/
def smallF (c : Int) : Bool := decide (97 ≤ c) && decide (c ≤ 122)
def digitF (c : Int) : Bool := decide (48 ≤ c) && decide (c ≤ 57)
def restF (c : Int) : Bool := smallF c || digitF c || c == 45
def nameP (i : Nat) (c : Int) : Bool := if i = 0 then smallF c else restF c
def nameF (s : ByteArray) : Bool := decide (1 ≤ s.size) && (decide (s.size ≤ 12) && allI nameP (bytesIn s) 0)
theorem smallS_eq (c : Int) : smallS c = some (smallF c) := by
  unfold smallS smallF
  cases decide (97 ≤ c) <;> rfl
theorem digitS_eq (c : Int) : digitS c = some (digitF c) := by
  unfold digitS digitF
  cases decide (48 ≤ c) <;> rfl
theorem is_or_not {x y : Int} : (x = y ∧ (x == y) = true) ∨ (x ≠ y ∧ (x == y) = false) := by
  by_cases h : x = y
  · exact .inl ⟨h, by simpa using h⟩
  · exact .inr ⟨h, by simpa using h⟩
theorem nameIL_eq {s : ByteArray} (hs : s.size ≤ 12) : ∃ t, nameIL (false, bytesIn s, ((bytesIn s).length : Int), 0) = some (allI nameP (bytesIn s) 0, t) ∧ (allI nameP (bytesIn s) 0 = false → t.1 = false) := by
  have hl := bytesIn_len s
  obtain ⟨t, h, _, h2⟩ := all_loopI (step := nameIL_step) (l := bytesIn s) (fun i => (false, bytesIn s, ((bytesIn s).length : Int), i)) nameP (fun _ => True) (fun t => t.1 = false)
      (fun i y h0 h1 hy _ hp => by
        unfold nameIL_step
        dsimp only
        rw [br_t (by simpa using h1), hy, ob_s, w64 (by omega) (by omega)]
        unfold nameP restF smallF digitF at hp
        obtain ⟨c5, e5⟩ | ⟨c5, e5⟩ := is_or_not (x := i) (y := 0) <;> obtain ⟨c6, e6⟩ | ⟨c6, e6⟩ := is_or_not (x := y) (y := 45) <;>
        by_cases c1 : (97 : Int) ≤ y <;> by_cases c2 : (48 : Int) ≤ y <;> by_cases c3 : y ≤ (57 : Int) <;> by_cases c4 : y ≤ (122 : Int) <;>
          first
          | (exfalso; omega)
          | (simp [c1, c2, c3, c4, c5, c6, e5, e6, br, show i.toNat = 0 ↔ i = 0 by omega] at hp ⊢; done)
          | (simp [c1, c2, c3, c4, c5, c6, e5, e6, br, show i.toNat = 0 ↔ i = 0 by omega]; done))
      (fun i y h0 h1 hy _ hp => by
        refine ⟨(false, bytesIn s, ((bytesIn s).length : Int), i), ?_, rfl⟩
        unfold nameIL_step
        dsimp only
        rw [br_t (by simpa using h1), hy, ob_s]
        unfold nameP restF smallF digitF at hp
        obtain ⟨c5, e5⟩ | ⟨c5, e5⟩ := is_or_not (x := i) (y := 0) <;> obtain ⟨c6, e6⟩ | ⟨c6, e6⟩ := is_or_not (x := y) (y := 45) <;>
        by_cases c1 : (97 : Int) ≤ y <;> by_cases c2 : (48 : Int) ≤ y <;> by_cases c3 : y ≤ (57 : Int) <;> by_cases c4 : y ≤ (122 : Int) <;>
          first
          | (exfalso; omega)
          | (simp [c1, c2, c3, c4, c5, c6, e5, e6, br, show i.toNat = 0 ↔ i = 0 by omega] at hp ⊢; done)
          | (simp [c1, c2, c3, c4, c5, c6, e5, e6, br, show i.toNat = 0 ↔ i = 0 by omega]; done))
      ⟨_, by
        show br (decide (((bytesIn s).length : Int) < ((bytesIn s).length : Int))) _ _ = _
        rw [br_f (by simp)], trivial⟩ (n := (((bytesIn s).length : Int) - 0).toNat + 1) (by omega)
  exact ⟨t, h, h2⟩
theorem nameI_eq (s : ByteArray) : nameI s = some (nameF s) := by
  unfold nameI nameF
  by_cases h1 : 1 ≤ s.size
  · rw [br_f (by simp; omega), show decide (1 ≤ s.size) = true by simpa using h1, Bool.true_and]
    by_cases h2 : s.size ≤ 12
    · obtain ⟨t, e, e2⟩ := nameIL_eq h2
      rw [br_f (by simp; omega), br_t (by simp; omega), e, show decide (s.size ≤ 12) = true by simpa using h2, Bool.true_and]
      cases hb : allI nameP (bytesIn s) 0 with
      | true => rfl
      | false =>
        show some t.1 = _
        rw [e2 hb]
    · rw [br_t (by simp; omega), show decide (s.size ≤ 12) = false by simpa using h2, Bool.false_and]
  · rw [br_t (by simp; omega), show decide (1 ≤ s.size) = false by simpa using h1, Bool.false_and]
theorem sidx_of {s : ByteArray} {i y : Int} (h : idx (bytesIn s) i = some y) : ∃ b : UInt8, sidx s i = some b ∧ (b.toNat : Int) = y := by
  rw [idx_bytes] at h
  obtain ⟨b, h1, h2⟩ := Option.map_eq_some_iff.1 h
  exact ⟨b, h1, h2⟩
theorem nameSL_eq {s : ByteArray} (hs : s.size ≤ 12) : ∃ t, nameSL (s, false, 0) = some ((bytesIn s).all restF, t) ∧ ((bytesIn s).all restF = false → t.2.1 = false) := by
  have hl := bytesIn_len s
  obtain ⟨t, h, _, h2⟩ := all_loop (step := nameSL_step) (l := bytesIn s) (fun i => (s, false, i)) restF (fun _ => True) (fun t => t.2.1 = false)
      (fun i y h0 h1 hy hp => by
        obtain ⟨b, hb, rfl⟩ := sidx_of hy
        unfold nameSL_step
        dsimp only
        rw [br_t (by simp; omega), hb]
        simp only [ob_s, smallS_eq, digitS_eq]
        rw [w64 (by omega) (by omega)]
        unfold restF at hp
        cases c1 : smallF (b.toNat : Int) <;> cases c2 : digitF (b.toNat : Int) <;> cases c3 : ((b.toNat : Int) == 45) <;> simp [c1, c2, c3, br, bne] at hp ⊢)
      (fun i y h0 h1 hy hp => by
        obtain ⟨b, hb, rfl⟩ := sidx_of hy
        refine ⟨(s, false, i), ?_, rfl⟩
        unfold nameSL_step
        dsimp only
        rw [br_t (by simp; omega), hb]
        simp only [ob_s, smallS_eq, digitS_eq]
        unfold restF at hp
        cases c1 : smallF (b.toNat : Int) <;> cases c2 : digitF (b.toNat : Int) <;> cases c3 : ((b.toNat : Int) == 45) <;> simp [c1, c2, c3, br, bne] at hp ⊢)
      ⟨_, by
        show br (decide (((bytesIn s).length : Int) < (s.size : Int))) _ _ = _
        rw [br_f (by simp; omega)], trivial⟩ (n := s.size - (0 : Int).toNat + 1) (by omega)
  exact ⟨t, h, h2⟩
theorem allI_rest : ∀ (l : List Int) (k : Nat), 0 < k → allI nameP l k = l.all restF
  | [], _, _ => rfl
  | y :: l, k, h => by
    unfold allI
    rw [allI_rest l (k + 1) (by omega), List.all_cons]
    unfold nameP
    rw [if_neg (by omega)]
theorem nameS_eq (s : ByteArray) : nameS s = some (nameF s) := by
  have hl := bytesIn_len s
  have hempty : (s.toList == (⟨⟨[]⟩⟩ : ByteArray).toList) = decide (s.size < 1) := by
    rw [ByteArray.toList_eq, ByteArray.toList_eq]
    have hsz : s.size = s.data.toList.length := by simp
    rw [hsz]
    cases s.data.toList with
    | nil => rfl
    | cons a b => simp
  unfold nameS nameF
  rw [hempty]
  by_cases h1 : 1 ≤ s.size
  · rw [br_f (decide_eq_false (by omega)), show decide (1 ≤ s.size) = true from decide_eq_true h1, Bool.true_and]
    by_cases h2 : s.size ≤ 12
    · rw [br_f (by simp; omega), show decide (s.size ≤ 12) = true by simpa using h2, Bool.true_and]
      obtain ⟨t, e, e2⟩ := nameSL_eq h2
      cases hb : bytesIn s with
      | nil => rw [hb] at hl; simp at hl; omega
      | cons c r =>
        obtain ⟨b, hb1, hb2⟩ := sidx_of (s := s) (i := 0) (y := c) (by rw [hb]; rfl)
        rw [hb1]
        rw [hb] at e e2
        simp only [ob_s, smallS_eq, hb2, e]
        have e4 : allI nameP (c :: r) 0 = (smallF c && r.all restF) := by
          show (nameP 0 c && allI nameP r (0 + 1)) = _
          rw [allI_rest r 1 (by omega)]; rfl
        rw [e4]
        rw [List.all_cons] at e2 ⊢
        cases hc : smallF c with
        | false => rfl
        | true =>
          have hrc : restF c = true := by unfold restF; rw [hc]; rfl
          rw [hrc, Bool.true_and] at e2 ⊢
          cases hr : r.all restF with
          | true => rfl
          | false =>
            show some t.2.1 = _
            rw [e2 hr]
    · rw [br_t (by simp; omega), show decide (s.size ≤ 12) = false by simpa using h2, Bool.false_and]
  · rw [br_t (decide_eq_true (by omega)), show decide (1 ≤ s.size) = false from decide_eq_false h1, Bool.false_and]

/-! ### A valid plate -/
def inF (x lo hi : Int) : Bool := decide (lo ≤ x) && decide (x ≤ hi)
theorem withinP_eq (x lo hi : Int) : withinP (x, lo, hi) = some (inF x lo hi) := by
  unfold withinP inF
  dsimp only
  cases decide (lo ≤ x) <;> rfl
theorem inP_eq (x lo hi : Int) : inP (x, lo, hi) = some (inF x lo hi) := withinP_eq x lo hi
end Rx
end Go.Proofs.YtonbgpliomhboaaGreatDoor
