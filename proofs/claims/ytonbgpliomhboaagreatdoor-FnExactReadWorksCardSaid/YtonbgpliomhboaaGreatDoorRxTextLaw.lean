/- Texts of planetary gears, of trains, of what is found: both programs, in plain terms. No program in sight. -/
import Derived.Test.YtonbgpliomhboaaGreatDoorRxByte
import Derived.Test.YtonbgpliomhboaaGreatDoorRxOld
import Derived.Test.YtonbgpliomhboaaGreatDoorRxText
namespace Go.Proofs.YtonbgpliomhboaaGreatDoor
namespace Rx
open Go

theorem ob_some' {α β : Type} {a : α} {x : Option α} {f : α → Option β} (h : x = some a) : ob x f = f a := by rw [h]; rfl
theorem decI_eq {n : Int} (h : I64 n) : decI n = some (decB n) := by
  unfold decI
  rw [fmtX_eq h.1 h.2]; rfl
theorem decTL_eq (n : Int) (e : BA) : ∀ (j : Nat) (k : Int) (out : List Int) (fuel : Nat), I64 k → k.natAbs < 10 ^ j → k.natAbs < fuel → out.length + j ≤ 1000 → iterP decTL_step fuel (n, e, out, k) = some (n, e, digL k.natAbs ++ out, 0)
  | _, _, _, 0, _, _, hf, _ => by omega
  | j, k, out, fuel + 1, h64, hj, hf, hl => by
    have h64' := h64
    obtain ⟨h6a, h6b⟩ := h64'
    by_cases hk : k = 0
    · subst hk
      simp only [iterP]
      have : decTL_step (n, e, out, 0) = some (.out, n, e, out, 0) := rfl
      rw [this]; rfl
    · obtain ⟨j, rfl⟩ : ∃ i, j = i + 1 := ⟨j - 1, by
        rcases Nat.eq_zero_or_pos j with h | h
        · subst h; simp at hj; omega
        · omega⟩
      have hd : Int.natAbs (Int.tdiv k 10) = k.natAbs / 10 := by rw [Int.natAbs_tdiv]; rfl
      have hm : Int.natAbs (Int.tmod k 10) = k.natAbs % 10 := by rw [Int.natAbs_tmod]; rfl
      have hstep : decTL_step (n, e, out, k) = some (.next, n, e, (48 + ((k.natAbs % 10 : Nat) : Int)) :: out, Int.tdiv k 10) := by
        have hb : k.natAbs % 10 < 10 := Nat.mod_lt _ (by decide)
        have hu8 : ∀ m : Nat, m < 10 → IntKind.u8.wrap (IntKind.i64.wrap (48 + (m : Int))) = 48 + (m : Int) := by
          intro m hm
          rw [w64 (by omega) (by omega)]
          unfold IntKind.wrap
          simp [IntKind.bits, IntKind.signed]
          omega
        unfold decTL_step
        dsimp only
        rw [br_t (by simpa using hk)]
        have hw : IntKind.i64.wrap (Int.tdiv k 10) = Int.tdiv k 10 := w64 (by omega) (by omega)
        rw [hw]
        by_cases hneg : Int.tmod k 10 < 0
        · have e1 : 0 - Int.tmod k 10 = ((k.natAbs % 10 : Nat) : Int) := by omega
          rw [br_t (by simpa using hneg), e1, w64 (x := ((k.natAbs % 10 : Nat) : Int)) (by omega) (by omega), hu8 _ hb, br_t (by simp; omega)]
          rfl
        · have e1 : Int.tmod k 10 = ((k.natAbs % 10 : Nat) : Int) := by omega
          rw [br_f (by simpa using hneg), e1, hu8 _ hb, br_t (by simp; omega)]
          rfl
      simp only [iterP, hstep, ob]
      rw [decTL_eq n e j _ _ fuel ⟨by omega, by omega⟩ (by rw [hd]; rw [Nat.pow_succ] at hj; omega) (by rw [hd]; omega) (by simp; omega)]
      rw [hd, digL_pos (u := k.natAbs) (by omega)]
      simp
theorem decT_eq {n : Int} (h : I64 n) : decT n = some (decB n) := by
  have h1 := decTL_eq n (⟨⟨[]⟩⟩ : ByteArray) 20 n [] (n.natAbs + 1) h (by have := h.1; have := h.2; omega) (by omega) (by simp)
  have h1 : decTL (n, (⟨⟨[]⟩⟩ : ByteArray), [], n) = some (n, (⟨⟨[]⟩⟩ : ByteArray), digL n.natAbs ++ [], 0) := h1
  unfold decT
  rw [ob_some' h1]
  dsimp only
  rw [List.append_nil]
  by_cases h0 : n = 0
  · subst h0
    have e1 : digL (Int.natAbs 0) = [] := rfl
    rw [e1]
    have e2 : decB 0 = ba [48] := by
      unfold decB Lib.itoa
      rw [if_neg (by decide), show Int.toNat 0 = 0 from rfl, dec_small (by decide)]; rfl
    rw [e2]; rfl
  · have hne : n.natAbs ≠ 0 := by omega
    have hlen := dec_len 19 n.natAbs (by have := h.1; have := h.2; omega)
    have e1 : digL n.natAbs = (Lib.decDigits n.natAbs).map fun b => (b.toNat : Int) := by unfold digL; rw [if_neg hne]
    rw [e1, br_f (by simp; intro e; rw [e] at hlen; simp at hlen), bytesOf_ba]
    by_cases hneg : n < 0
    · rw [br_t (by simpa using hneg), br_t (by
        have e2 : (⟨⟨[(45 : UInt8)]⟩⟩ : ByteArray).size = 1 := rfl
        rw [e2, ba_len]; simp; omega)]
      have e3 : (⟨⟨[(45 : UInt8)]⟩⟩ : ByteArray) = ba [45] := rfl
      rw [e3, ba_cat]
      unfold decB Lib.itoa
      rw [if_pos hneg]; rfl
    · rw [br_f (by simpa using hneg)]
      unfold decB Lib.itoa
      rw [if_neg hneg, show n.natAbs = n.toNat by omega]

/-! ### Planetary gears -/
theorem sz_one (b : UInt8) : (⟨⟨[b]⟩⟩ : ByteArray).size = 1 := rfl
theorem app_size (a b : BA) : (a ++ b).size = a.size + b.size := by rw [ba_size, ba_app, List.length_append, ← ba_size, ← ba_size]
def epiB (e : Int × Int × Int × Int) : BA := decB e.1 ++ ba [32] ++ decB e.2.2.1 ++ ba [32] ++ decB e.2.2.2
theorem lit64 {n : Int} (h : Wf i64 n) : I64 n := by
  have h : (Lit.int .i64 n).wf = true := h
  unfold Lit.wf at h
  simp [IntKind.min, IntKind.max, IntKind.bits, IntKind.signed] at h
  exact ⟨by omega, by omega⟩
/-! ### Trains -/
def pairB (y : Int × Int) : BA := decB y.1 ++ ba [58] ++ decB y.2
theorem okP_bd {y : Int × Int} (h : okP y = true) : (6 ≤ y.1 ∧ y.1 ≤ 240) ∧ (6 ≤ y.2 ∧ y.2 ≤ 240) := by
  unfold okP at h
  simp only [Bool.and_eq_true, decide_eq_true_eq] at h
  exact h
theorem okP_64 {y : Int × Int} (h : okP y = true) : I64 y.1 ∧ I64 y.2 := by
  have := okP_bd h
  exact ⟨⟨by omega, by omega⟩, by omega, by omega⟩
theorem pairB_size {y : Int × Int} (h : okP y = true) : 3 ≤ (pairB y).size ∧ (pairB y).size ≤ 43 := by
  obtain ⟨h1, h2⟩ := okP_64 h
  have s1 := decB_size h1.1 h1.2
  have s2 := decB_size h2.1 h2.2
  unfold pairB
  rw [app_size, app_size]
  have : (ba [58]).size = 1 := rfl
  omega
def ratB (r : Int × Int) : BA := if r.2 = 1 then decB r.1 else decB r.1 ++ ba [47] ++ decB r.2
theorem ratB_size {r : Int × Int} (h1 : I64 r.1) (h2 : I64 r.2) : (ratB r).size ≤ 43 := by
  have s1 := decB_size h1.1 h1.2
  have s2 := decB_size h2.1 h2.2
  unfold ratB
  split
  · omega
  · rw [app_size, app_size]
    have : (ba [47]).size = 1 := rfl
    omega
end Rx
end Go.Proofs.YtonbgpliomhboaaGreatDoor
