/- Texts of planetary gears, of trains, of what is found: both programs, in plain terms. No program in sight. -/
import Derived.Test.YtfapjkcmoefilaaGreatDoorRxByte
import Derived.Test.YtfapjkcmoefilaaGreatDoorRxTrainLaw
import Derived.Test.YtfapjkcmoefilaaGreatDoorRxEpiLaw
import Derived.Test.YtfapjkcmoefilaaGreatDoorRxText
namespace Go.Proofs.YtfapjkcmoefilaaGreatDoor
namespace Rx
open Go

theorem ob_some' {α β : Type} {a : α} {x : Option α} {f : α → Option β} (h : x = some a) : ob x f = f a := by rw [h]; rfl
theorem decI_eq {n : Int} (h : I64 n) : decI n = some (decB n) := by
  unfold decI
  rw [fmtX_eq h.1 h.2]; rfl
theorem decTL_eq (n : Int) (e : BA) : ∀ (j : Nat) (k : Int) (out : List Int) (fuel : Nat), I64 k → k.natAbs < 10 ^ j → k.natAbs < fuel → out.length + j ≤ 1000 → iterP decTL_step fuel (n, e, out, k) = some (n, e, digL k.natAbs ++ out, 0)
  | _, _, _, 0, _, _, hf, _ => by omega
  | j, k, out, fuel + 1, h64, hj, hf, hl => by
    have h64' := h64
    obtain ⟨h6a, h6b⟩ := h64'
    by_cases hk : k = 0
    · subst hk
      simp only [iterP]
      have : decTL_step (n, e, out, 0) = some (.out, n, e, out, 0) := rfl
      rw [this]; rfl
    · obtain ⟨j, rfl⟩ : ∃ i, j = i + 1 := ⟨j - 1, by
        rcases Nat.eq_zero_or_pos j with h | h
        · subst h; simp at hj; omega
        · omega⟩
      have hd : Int.natAbs (Int.tdiv k 10) = k.natAbs / 10 := by rw [Int.natAbs_tdiv]; rfl
      have hm : Int.natAbs (Int.tmod k 10) = k.natAbs % 10 := by rw [Int.natAbs_tmod]; rfl
      have hstep : decTL_step (n, e, out, k) = some (.next, n, e, (48 + ((k.natAbs % 10 : Nat) : Int)) :: out, Int.tdiv k 10) := by
        have hb : k.natAbs % 10 < 10 := Nat.mod_lt _ (by decide)
        have hu8 : ∀ m : Nat, m < 10 → IntKind.u8.wrap (IntKind.i64.wrap (48 + (m : Int))) = 48 + (m : Int) := by
          intro m hm
          rw [w64 (by omega) (by omega)]
          unfold IntKind.wrap
          simp [IntKind.bits, IntKind.signed]
          omega
        unfold decTL_step
        dsimp only
        rw [br_t (by simpa using hk)]
        have hw : IntKind.i64.wrap (Int.tdiv k 10) = Int.tdiv k 10 := w64 (by omega) (by omega)
        rw [hw]
        by_cases hneg : Int.tmod k 10 < 0
        · have e1 : 0 - Int.tmod k 10 = ((k.natAbs % 10 : Nat) : Int) := by omega
          rw [br_t (by simpa using hneg), e1, w64 (x := ((k.natAbs % 10 : Nat) : Int)) (by omega) (by omega), hu8 _ hb, br_t (by simp; omega)]
          rfl
        · have e1 : Int.tmod k 10 = ((k.natAbs % 10 : Nat) : Int) := by omega
          rw [br_f (by simpa using hneg), e1, hu8 _ hb, br_t (by simp; omega)]
          rfl
      simp only [iterP, hstep, ob]
      rw [decTL_eq n e j _ _ fuel ⟨by omega, by omega⟩ (by rw [hd]; rw [Nat.pow_succ] at hj; omega) (by rw [hd]; omega) (by simp; omega)]
      rw [hd, digL_pos (u := k.natAbs) (by omega)]
      simp
theorem decT_eq {n : Int} (h : I64 n) : decT n = some (decB n) := by
  have h1 := decTL_eq n (⟨⟨[]⟩⟩ : ByteArray) 20 n [] (n.natAbs + 1) h (by have := h.1; have := h.2; omega) (by omega) (by simp)
  have h1 : decTL (n, (⟨⟨[]⟩⟩ : ByteArray), [], n) = some (n, (⟨⟨[]⟩⟩ : ByteArray), digL n.natAbs ++ [], 0) := h1
  unfold decT
  rw [ob_some' h1]
  dsimp only
  rw [List.append_nil]
  by_cases h0 : n = 0
  · subst h0
    have e1 : digL (Int.natAbs 0) = [] := rfl
    rw [e1]
    have e2 : decB 0 = ba [48] := by
      unfold decB Lib.itoa
      rw [if_neg (by decide), show Int.toNat 0 = 0 from rfl, dec_small (by decide)]; rfl
    rw [e2]; rfl
  · have hne : n.natAbs ≠ 0 := by omega
    have hlen := dec_len 19 n.natAbs (by have := h.1; have := h.2; omega)
    have e1 : digL n.natAbs = (Lib.decDigits n.natAbs).map fun b => (b.toNat : Int) := by unfold digL; rw [if_neg hne]
    rw [e1, br_f (by simp; intro e; rw [e] at hlen; simp at hlen), bytesOf_ba]
    by_cases hneg : n < 0
    · rw [br_t (by simpa using hneg), br_t (by
        have e2 : (⟨⟨[(45 : UInt8)]⟩⟩ : ByteArray).size = 1 := rfl
        rw [e2, ba_len]; simp; omega)]
      have e3 : (⟨⟨[(45 : UInt8)]⟩⟩ : ByteArray) = ba [45] := rfl
      rw [e3, ba_cat]
      unfold decB Lib.itoa
      rw [if_pos hneg]; rfl
    · rw [br_f (by simpa using hneg)]
      unfold decB Lib.itoa
      rw [if_neg hneg, show n.natAbs = n.toNat by omega]

/-! ### Planetary gears -/
theorem sz_one (b : UInt8) : (⟨⟨[b]⟩⟩ : ByteArray).size = 1 := rfl
theorem app_size (a b : BA) : (a ++ b).size = a.size + b.size := by rw [ba_size, ba_app, List.length_append, ← ba_size, ← ba_size]
def epiB (e : Int × Int × Int × Int) : BA := decB e.1 ++ ba [32] ++ decB e.2.2.1 ++ ba [32] ++ decB e.2.2.2
theorem lit64 {n : Int} (h : Wf i64 n) : I64 n := by
  have h : (Lit.int .i64 n).wf = true := h
  unfold Lit.wf at h
  simp [IntKind.min, IntKind.max, IntKind.bits, IntKind.signed] at h
  exact ⟨by omega, by omega⟩
/-! ### Trains -/
def pairB (y : Int × Int) : BA := decB y.1 ++ ba [58] ++ decB y.2
theorem okP_bd {y : Int × Int} (h : okP y = true) : (6 ≤ y.1 ∧ y.1 ≤ 240) ∧ (6 ≤ y.2 ∧ y.2 ≤ 240) := by
  unfold okP at h
  simp only [Bool.and_eq_true, decide_eq_true_eq] at h
  exact h
theorem okP_64 {y : Int × Int} (h : okP y = true) : I64 y.1 ∧ I64 y.2 := by
  have := okP_bd h
  exact ⟨⟨by omega, by omega⟩, by omega, by omega⟩
theorem pairB_size {y : Int × Int} (h : okP y = true) : 3 ≤ (pairB y).size ∧ (pairB y).size ≤ 43 := by
  obtain ⟨h1, h2⟩ := okP_64 h
  have s1 := decB_size h1.1 h1.2
  have s2 := decB_size h2.1 h2.2
  unfold pairB
  rw [app_size, app_size]
  have : (ba [58]).size = 1 := rfl
  omega
def trainB (l : List (Int × Int)) : BA := if l = [] then ba [45] else ba (Lib.join (l.map fun y => (pairB y).data.toList) [32])
theorem join_size : ∀ (l : List (Int × Int)), (∀ y ∈ l, okP y = true) → (Lib.joinTail [32] (l.map fun y => (pairB y).data.toList)).length ≤ 44 * l.length
  | [], _ => by simp [Lib.joinTail]
  | y :: l, h => by
    have h1 := join_size l fun z hz => h z (by simp [hz])
    have h2 := pairB_size (h y (by simp))
    rw [ba_size] at h2
    simp only [Lib.joinTail, List.map_cons, List.flatten_cons, List.length_append, List.length_cons, List.length_nil] at h1 ⊢
    omega
theorem train_join {l : List (Int × Int)} (h : ∀ y ∈ l, okP y = true) : (Lib.join (l.map fun y => (pairB y).data.toList) [32]).length ≤ 44 * l.length := by
  cases l with
  | nil => simp [Lib.join_nil]
  | cons y l =>
    rw [List.map_cons, Lib.join_cons]
    have h1 := join_size l fun z hz => h z (by simp [hz])
    have h2 := pairB_size (h y (by simp))
    rw [ba_size] at h2
    simp only [List.length_append, List.length_cons]
    omega
theorem trainB_size {l : List (Int × Int)} (h : ∀ y ∈ l, okP y = true) : (trainB l).size ≤ 44 * l.length + 1 := by
  unfold trainB
  split
  · show 1 ≤ _; omega
  · rw [ba_len]
    have := train_join h
    omega
theorem trainTextIL_eq {l : List (Int × Int)} (hl : l.length ≤ 1000) (h : ∀ y ∈ l, okP y = true) : trainTextIL ([], l, (l.length : Int), 0) = some (l.map pairB, l, (l.length : Int), (l.length : Int)) := by
  have hf := fold_loop (step := trainTextIL_step) (l := l) (fun i (a : List BA) => (a, l, (l.length : Int), i)) (fun a y => a ++ [pairB y]) (fun i a => (a.length : Int) ≤ i) (fun a => (a, l, (l.length : Int), (l.length : Int)))
    (fun i a y h0 h1 hy hJ => by
      have hm : y ∈ l := by
        unfold idx at hy
        rw [if_pos h0] at hy
        exact List.mem_of_getElem? hy
      obtain ⟨k1, k2⟩ := okP_64 (h y hm)
      have s1 := decB_size k1.1 k1.2
      have s2 := decB_size k2.1 k2.2
      have e5 : IntKind.i64.wrap (i + 1) = i + 1 := w64 (by omega) (by omega)
      refine ⟨?_, by simp; omega⟩
      unfold trainTextIL_step
      dsimp only
      rw [br_t (by simpa using h1), ob_some' hy, ob_some' (decI_eq k1), br_t (by rw [sz_one]; simp; omega), ob_some' (decI_eq k2), br_t (by rw [app_size, sz_one]; simp; omega), br_t (by simp; omega), e5]
      rfl)
    (fun a _ => by
      show br (decide ((l.length : Int) < (l.length : Int))) _ _ = _
      rw [br_f (by simp)]) (n := ((l.length : Int) - 0).toNat + 1) (by omega) (a0 := []) (by simp)
  have h2 := hf.1
  rw [foldl_append] at h2
  exact h2
theorem trainTextI_eq {l : List (Int × Int)} {v : Bool} (hv : validTrainI l = some v) (hb : v = true → l.length ≤ 5 ∧ ∀ y ∈ l, okP y = true) : trainTextI l = some (if v = true then trainB l else ⟨⟨[]⟩⟩) := by
  unfold trainTextI
  rw [ob_some' hv]
  cases v with
  | false => rfl
  | true =>
    obtain ⟨hl, h⟩ := hb rfl
    rw [br_f (c := !true) rfl, if_pos rfl]
    by_cases h0 : l = []
    · subst h0; rfl
    · have h0' : ((l.length : Int) == 0) = false := by
        simp only [beq_eq_false_iff_ne, ne_eq]
        intro e
        exact h0 (List.eq_nil_of_length_eq_zero (by omega))
      have hj := train_join h
      have e1 : (l.map pairB).map (·.data.toList) = l.map fun y => (pairB y).data.toList := by rw [List.map_map]; rfl
      have hx : joinX (l.map pairB, (⟨⟨[(32 : UInt8)]⟩⟩ : ByteArray)) = some (ba (Lib.join (l.map fun y => (pairB y).data.toList) [32])) := by
        rw [joinX_eq (by simp; omega) (by rw [e1]; show (Lib.join _ [32]).length ≤ _; omega), e1]; rfl
      rw [br_f h0', ob_some' (trainTextIL_eq (by omega) h), ob_some' hx]
      unfold trainB
      rw [if_neg h0]
def addPair (i : Nat) (a : BA) (y : Int × Int) : BA := (if 0 < i then a ++ ba [32] else a) ++ pairB y
theorem addPair_tail : ∀ (l : List (Int × Int)) (i : Nat) (a : BA), 0 < i → foldI addPair l i a = ba (a.data.toList ++ Lib.joinTail [32] (l.map fun y => (pairB y).data.toList))
  | [], _, a, _ => by
    show a = _
    rw [show Lib.joinTail [32] (([] : List (Int × Int)).map fun y => (pairB y).data.toList) = [] from rfl, List.append_nil, ba_of]
  | y :: l, i, a, hi => by
    unfold foldI
    rw [addPair_tail l (i + 1) _ (by omega)]
    unfold addPair
    rw [if_pos hi]
    simp only [ba_app, ba_list, Lib.joinTail, List.map_cons, List.flatten_cons, List.append_assoc]
theorem addPair_all {l : List (Int × Int)} (h0 : l ≠ []) : foldI addPair l 0 (⟨⟨[]⟩⟩ : ByteArray) = ba (Lib.join (l.map fun y => (pairB y).data.toList) [32]) := by
  cases l with
  | nil => exact absurd rfl h0
  | cons y l =>
    unfold foldI
    rw [addPair_tail l 1 _ (by omega), List.map_cons, Lib.join_cons]
    unfold addPair
    rw [if_neg (by omega), ba_app]; rfl
theorem train_ok {l : List (Int × Int)} (hl : l.length ≤ 4294967296) : ∃ v, validTrainI l = some v ∧ okTrainS l = some v ∧ (v = true → l.length ≤ 5 ∧ ∀ y ∈ l, okP y = true) := by
  refine ⟨_, validTrainI_eq hl, okTrainS_eq hl, fun h => ?_⟩
  simp only [Bool.and_eq_true, decide_eq_true_eq] at h
  exact ⟨by omega, fun y hy => List.all_eq_true.1 h.1 y hy⟩
def ratB (r : Int × Int) : BA := if r.2 = 1 then decB r.1 else decB r.1 ++ ba [47] ++ decB r.2
theorem ratB_size {r : Int × Int} (h1 : I64 r.1) (h2 : I64 r.2) : (ratB r).size ≤ 43 := by
  have s1 := decB_size h1.1 h1.2
  have s2 := decB_size h2.1 h2.2
  unfold ratB
  split
  · omega
  · rw [app_size, app_size]
    have : (ba [47]).size = 1 := rfl
    omega
end Rx
end Go.Proofs.YtfapjkcmoefilaaGreatDoor
