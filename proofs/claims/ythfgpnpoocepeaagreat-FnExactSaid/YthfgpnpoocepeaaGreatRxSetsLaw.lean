/- What the lists of wheels by their products come to. No program in sight. -/
import Derived.Test.YthfgpnpoocepeaaGreatRxSets
import Derived.Test.YthfgpnpoocepeaaGreatRxWheels
namespace Go.Proofs.YthfgpnpoocepeaaGreat
namespace Rx
open Go

noncomputable section
theorem cloneB_eq {l : List Int} (h : l.length ≤ 4294967296) : cloneB l = some l := by
  unfold cloneB cloneB_t
  dsimp only
  rw [br_f rfl, br_t (by simpa using h)]
  rfl
theorem setsLT_eq {lo hi c t n i : Int} {s : List Int × List (Int × List (List Int))} {acc ls : List (List Int)} {l : List Int} (hl : l.length ≤ 1000) (ha : acc.length ≤ 1000000) (h1 : 0 ≤ t) (h2 : hi ≤ 120) :
    ∃ t', setsLT (lo, hi, c, s, acc, l, t, ls, n, i) = some (lo, hi, c, s, acc ++ (rangeI t hi).map (fun u => l ++ [u]), l, t', ls, n, i) := by
  have hlen : (rangeI t hi).length ≤ 121 := by rw [rangeI_len]; omega
  have := fold_loop (step := setsLT_step) (l := rangeI t hi) (fun k a => (lo, hi, c, s, a, l, t + k, ls, n, i)) (fun a y => a ++ [l ++ [y]]) (fun k a => a.length ≤ acc.length + k.toNat)
    (fun a => (lo, hi, c, s, a, l, t + ((rangeI t hi).length : Int), ls, n, i)) (fun k a y hk0 hk1 hy hJ => ?_) (fun a hJ => ?_) (n := setsLT_fuel (lo, hi, c, s, acc, l, t, ls, n, i)) ?_ (a0 := acc) (by simp)
  · refine ⟨t + ((rangeI t hi).length : Int), ?_⟩
    have h := this.1
    rw [foldl_append (fun u => l ++ [u])] at h
    rw [show t + (0 : Int) = t by omega] at h
    exact h
  · obtain ⟨rfl, _⟩ := rangeI_get hy
    rw [rangeI_len] at hk1
    refine ⟨?_, ?_⟩
    · unfold setsLT_step
      dsimp only
      rw [br_t (by simp; omega), cloneB_eq (by omega), ob_s, br_t (by simp; omega), br_t (by simp; omega), w64 (by omega) (by omega), Int.add_assoc]
    · simp only [List.length_append, List.length_cons, List.length_nil]; omega
  · unfold setsLT_step
    dsimp only
    rw [br_f (by rw [rangeI_len]; simp; omega)]
  · rw [rangeI_len]
    show _ < (hi + 1 - t).toNat + 1
    omega
theorem last_idx {l : List Int} {lo : Int} (h : l ≠ []) : idx l ((l.length : Int) - 1) = some (l.getLast?.getD lo) := by
  have : 0 < l.length := List.length_pos_iff.2 h
  rw [List.getLast?_eq_some_getLast h]
  refine idx_nat (by omega) ?_
  rw [show ((l.length : Int) - 1).toNat = l.length - 1 by omega, ← List.getLast?_eq_getElem?, List.getLast?_eq_some_getLast h]
  rfl
theorem setsL2_eq {lo hi c : Int} {s : List Int × List (Int × List (List Int))} {n : Nat} (h1 : 0 ≤ lo) (h2 : hi ≤ 120) (h3 : hi ≤ lo + 30) (hn : n ≤ 2) {ls : List (List Int)} (hls : ls = wheels lo hi n) :
    ∃ t ls' k, setsL2 (lo, hi, c, s, [], ls, (ls.length : Int), 0) = some (lo, hi, c, s, wheels lo hi (n + 1), ls', k, t) := by
  have hW : ∀ l ∈ ls, IsW lo hi n l := fun l h => wheels_is (by rw [← hls]; exact h)
  have hlen : ls.length ≤ 1000 := by
    have := wheels_len h3 n
    rw [← hls] at this
    rcases (by omega : n = 0 ∨ n = 1 ∨ n = 2) with rfl | rfl | rfl <;> omega
  have := fold_loop (step := setsL2_step) (l := ls) (fun k a => (lo, hi, c, s, a, ls, (ls.length : Int), k)) (fun a y => a ++ nextW lo hi y) (fun k a => a.length ≤ 31 * k.toNat)
    (fun a => (lo, hi, c, s, a, ls, (ls.length : Int), (ls.length : Int))) (fun k a y hk0 hk1 hy hJ => ?_) (fun a hJ => ?_) (n := setsL2_fuel (lo, hi, c, s, [], ls, (ls.length : Int), 0)) ?_ (a0 := []) (by simp)
  · refine ⟨(ls.length : Int), ls, (ls.length : Int), ?_⟩
    have h := this.1
    have e : ∀ (l : List (List Int)) (a : List (List Int)), l.foldl (fun a y => a ++ nextW lo hi y) a = a ++ l.flatMap (nextW lo hi) := by
      intro l
      induction l with
      | nil => intro a; simp
      | cons x l ih => intro a; rw [List.foldl_cons, ih, List.flatMap_cons, List.append_assoc]
    rw [e, List.nil_append] at h
    rw [show wheels lo hi (n + 1) = ls.flatMap (nextW lo hi) by rw [hls]; rfl]
    exact h
  · have hy' : y ∈ ls := by
      unfold idx at hy
      rw [if_pos hk0] at hy
      exact List.mem_of_getElem? hy
    have hw := hW y hy'
    have hyl : y.length ≤ 2 := by rw [hw.len]; exact hn
    have hnx := nextW_len h3 hw
    refine ⟨?_, ?_⟩
    · unfold setsL2_step
      dsimp only
      rw [br_t (by simp; omega), hy, ob_s]
      by_cases hz : y = []
      · subst hz
        rw [br_f (by simp)]
        obtain ⟨t', h⟩ := setsLT_eq (lo := lo) (hi := hi) (c := c) (t := lo) (n := (ls.length : Int)) (i := k) (s := s) (acc := a) (ls := ls) (l := []) (by simp) (by omega) (by omega) h2
        rw [h, ob_s]
        dsimp only
        rw [w64 (by omega) (by omega)]
        rfl
      · have hpos := List.length_pos_iff.2 hz
        rw [br_t (by simp; omega), w64 (by omega) (by omega), last_idx (lo := lo) hz, ob_s]
        obtain ⟨t', h⟩ := setsLT_eq (lo := lo) (hi := hi) (c := c) (t := y.getLast?.getD lo) (n := (ls.length : Int)) (i := k) (s := s) (acc := a) (ls := ls) (l := y) (by omega) (by omega) (by
          cases e : y.getLast? with
          | none => exact h1
          | some u => have := (hw.bd u (last_mem e)).1; simp; omega) h2
        rw [h, ob_s]
        dsimp only
        rw [w64 (by omega) (by omega)]
        rfl
    · rw [List.length_append]; omega
  · unfold setsL2_step
    dsimp only
    rw [br_f (by simp)]
  · show _ < ((ls.length : Int) - 0).toNat + 1
    omega
theorem setsL0_eq {lo hi : Int} {s : List Int × List (Int × List (List Int))} (h1 : 0 ≤ lo) (h2 : hi ≤ 120) (h3 : hi ≤ lo + 30) {n : Nat} (hn : n ≤ 3) :
    ∃ c, setsL0 (lo, hi, (n : Int), s, [[]]) = some (lo, hi, c, s, wheels lo hi n) := by
  have := iterP_end (step := setsL0_step) (fun x => ∃ k : Nat, k ≤ n ∧ x = (lo, hi, ((n - k : Nat) : Int), s, wheels lo hi k)) (fun x => ∃ c, x = (lo, hi, c, s, wheels lo hi n)) (fun x => x.2.2.1.toNat) ?_ (setsL0_fuel (lo, hi, (n : Int), s, [[]])) (lo, hi, (n : Int), s, [[]]) ⟨0, by omega, rfl⟩ (by show _ < _ + 1; omega)
  · obtain ⟨_, h, c, rfl⟩ := this
    exact ⟨c, h⟩
  · rintro _ ⟨k, hk, rfl⟩
    by_cases hlt : k < n
    · obtain ⟨t, ls', m, h⟩ := setsL2_eq (lo := lo) (hi := hi) (c := ((n - k : Nat) : Int)) (s := s) (n := k) h1 h2 h3 (by omega) rfl
      refine ⟨.next, (lo, hi, ((n - (k + 1) : Nat) : Int), s, wheels lo hi (k + 1)), ?_, fun _ => ⟨⟨k + 1, by omega, rfl⟩, ?_⟩, fun h => (by cases h), by intro h; cases h⟩
      · unfold setsL0_step
        dsimp only
        rw [br_t (by simp; omega), h, ob_s]
        dsimp only
        rw [w64 (by omega) (by omega), show ((n - k : Nat) : Int) - 1 = ((n - (k + 1) : Nat) : Int) by omega]
      · show ((n - (k + 1) : Nat) : Int).toNat < ((n - k : Nat) : Int).toNat
        omega
    · obtain rfl : k = n := by omega
      refine ⟨.out, (lo, hi, ((k - k : Nat) : Int), s, wheels lo hi k), ?_, fun h => (by cases h), fun _ => ⟨((k - k : Nat) : Int), rfl⟩, by intro h; cases h⟩
      unfold setsL0_step
      dsimp only
      rw [br_f (by simp)]
theorem setsLP_eq {lo hi : Int} (h1 : 1 ≤ lo) (h2 : hi ≤ 120) {n : Nat} (hn : n ≤ 3) {l : List Int} (hw : IsW lo hi n l) (a b : List Int × List (Int × List (List Int))) (ls : List (List Int)) (k i : Int) :
    setsLP (a, b, l, 1, ls, k, i, l, (l.length : Int), 0) = some (a, b, l, prodW l, ls, k, i, l, (l.length : Int), (l.length : Int)) := by
  have hl := hw.len
  have hp : ∀ m : Nat, m ≤ 3 → (120 : Int) ^ m ≤ 1728000 := fun m hm => by rcases (by omega : m = 0 ∨ m = 1 ∨ m = 2 ∨ m = 3) with rfl | rfl | rfl | rfl <;> decide
  refine (fold_loop (step := setsLP_step) (l := l) (fun j p => (a, b, l, p, ls, k, i, l, (l.length : Int), j)) (fun p y => p * y) (fun j p => 1 ≤ p ∧ p ≤ 120 ^ j.toNat)
    (fun p => (a, b, l, p, ls, k, i, l, (l.length : Int), (l.length : Int))) (fun j p y hj0 hj1 hy hJ => ?_) (fun p hJ => ?_) (n := setsLP_fuel (a, b, l, 1, ls, k, i, l, (l.length : Int), 0)) ?_ (a0 := 1) (by simp)).1
  · have hy' : y ∈ l := by
      unfold idx at hy
      rw [if_pos hj0] at hy
      exact List.mem_of_getElem? hy
    have hb := hw.bd y hy'
    have e1 : 1 * 1 ≤ p * y := Int.mul_le_mul hJ.1 (by omega) (by omega) (by omega)
    have e2 : p * y ≤ 120 ^ j.toNat * 120 := Int.mul_le_mul hJ.2 (by omega) (by omega) (by have := hJ.1; omega)
    rw [← Int.pow_succ] at e2
    have e3 := hp (j.toNat + 1) (by omega)
    refine ⟨?_, by omega, by rw [show (j + 1).toNat = j.toNat + 1 by omega]; exact e2⟩
    unfold setsLP_step
    dsimp only
    rw [br_t (by simp; omega), hy, ob_s, w64 (by omega) (by omega), w64 (by omega) (by omega)]
  · unfold setsLP_step
    dsimp only
    rw [br_f (by simp)]
  · show _ < ((l.length : Int) - 0).toNat + 1
    omega
theorem setsL6_eq {lo hi : Int} (h1 : 1 ≤ lo) (h2 : hi ≤ 120) {n : Nat} (hn : n ≤ 3) {ls : List (List Int)} (hW : ∀ l ∈ ls, IsW lo hi n l) (hlen : ls.length ≤ 1000000) (a : List Int × List (Int × List (List Int))) :
    setsL6 (a, ([], []), ls, (ls.length : Int), 0) = some (a, ls.foldl grp ([], []), ls, (ls.length : Int), (ls.length : Int)) := by
  refine (fold_loop (step := setsL6_step) (l := ls) (fun j s => (a, s, ls, (ls.length : Int), j)) grp (fun j s => s.1.length ≤ j.toNat ∧ ∀ p, (getM s.2 p).length ≤ j.toNat)
    (fun s => (a, s, ls, (ls.length : Int), (ls.length : Int))) (fun j s y hj0 hj1 hy hJ => ?_) (fun p hJ => ?_) (n := setsL6_fuel (a, ([], []), ls, (ls.length : Int), 0)) ?_ (a0 := ([], [])) (by simp [getM])).1
  · have hy' : y ∈ ls := by
      unfold idx at hy
      rw [if_pos hj0] at hy
      exact List.mem_of_getElem? hy
    have hw := hW y hy'
    obtain ⟨j1, j2⟩ := hJ
    have j3 := j2 (prodW y)
    refine ⟨?_, ?_, fun p => ?_⟩
    · unfold setsL6_step
      dsimp only
      rw [br_t (by simp; omega), hy, ob_s, setsLP_eq h1 h2 hn hw, ob_s]
      dsimp only
      rw [w64 (by omega) (by omega)]
      unfold grp
      by_cases hz : (getM s.2 (prodW y)).length = 0
      · rw [br_t (by simp only [hz]; rfl), br_t (by simp; omega), br_t (by simp; omega), br_t (by simp), if_pos hz]
      · rw [br_f (by simp only [beq_eq_false_iff_ne]; show ¬ ((List.length _ : Nat) : Int) = 0; omega), br_t (by simp; omega), br_t (by simp), if_neg hz]
    · show (if _ then _ else _ : List Int).length ≤ _
      split
      · simp only [List.length_append, List.length_cons, List.length_nil]; omega
      · omega
    · show (getM (putM _ _ _) p).length ≤ _
      rw [getM_put]
      split
      · simp only [List.length_append, List.length_cons, List.length_nil]; omega
      · have := j2 p; omega
  · unfold setsL6_step
    dsimp only
    rw [br_f (by simp)]
  · show _ < ((ls.length : Int) - 0).toNat + 1
    omega
/-- The products in ascending order, and the lists by their products. -/
structure Sets (ls : List (List Int)) (s : List Int × List (Int × List (List Int))) : Prop extends Grp ls s where
  asc : s.1.Pairwise (· ≤ ·)
theorem setsI_eq {lo hi : Int} (h1 : 1 ≤ lo) (h2 : hi ≤ 120) (h3 : hi ≤ lo + 30) {n : Nat} (hn : n ≤ 3) : ∃ s, setsI (lo, hi, (n : Int)) = some s ∧ Sets (wheels lo hi n) s := by
  obtain ⟨c, e0⟩ := setsL0_eq (lo := lo) (hi := hi) (s := ([], [])) (by omega) h2 h3 hn
  have hlen : (wheels lo hi n).length ≤ 1000000 := by
    have := wheels_len h3 n
    rcases (by omega : n = 0 ∨ n = 1 ∨ n = 2 ∨ n = 3) with rfl | rfl | rfl | rfl <;> omega
  have hg := grp_all (wheels lo hi n) [] _ grp_nil
  rw [List.nil_append] at hg
  have e6 := setsL6_eq h1 h2 hn (ls := wheels lo hi n) (fun l h => wheels_is h) hlen ([], [])
  generalize hs : (wheels lo hi n).foldl grp ([], []) = s at hg e6
  have hl2 : s.1.length ≤ 4294967296 := by
    have : ∀ (ls : List (List Int)) (s : List Int × List (Int × List (List Int))), (ls.foldl grp s).1.length ≤ s.1.length + ls.length := by
      intro ls
      induction ls with
      | nil => intro s; simp
      | cons l ls ih =>
        intro s
        rw [List.foldl_cons]
        have h := ih (grp s l)
        have : (grp s l).1.length ≤ s.1.length + 1 := by
          show (if _ then _ else _ : List Int).length ≤ _
          split
          · simp
          · omega
        rw [List.length_cons]; omega
    have := this (wheels lo hi n) ([], [])
    rw [hs] at this
    simp at this
    omega
  refine ⟨(s.1.mergeSort leI, s.2), ?_, ⟨hg.get, fun p => ?_, ?_⟩, ?_⟩
  · unfold setsI
    dsimp only
    rw [e0, ob_s, e6, ob_s]
    unfold sortI
    rw [br_t (by simpa using hl2), ob_s]
  · rw [(List.mergeSort_perm s.1 leI).mem_iff]; exact hg.mem p
  · exact (List.mergeSort_perm s.1 leI).nodup_iff.2 hg.nodup
  · have := List.pairwise_mergeSort (le := leI) (fun a b c h1 h2 => by simp [leI] at *; omega) (fun a b => by simp [leI]; omega) s.1
    exact this.imp fun h => by simpa [leI] using h
end
end Rx
end Go.Proofs.YthfgpnpoocepeaaGreat
