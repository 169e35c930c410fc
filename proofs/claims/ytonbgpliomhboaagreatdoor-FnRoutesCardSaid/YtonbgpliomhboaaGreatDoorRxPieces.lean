/- A decimal is read back. No program in sight. No conditions. -/
import Derived.Test.YtonbgpliomhboaaGreatDoorRxReadLaw
namespace Go.Proofs.YtonbgpliomhboaaGreatDoor
namespace Rx
open Go

theorem dval_app : ∀ (l : List UInt8) (a : Nat) (b : UInt8), dval a (l ++ [b]) = nxt (dval a l) b
  | [], _, _ => rfl
  | c :: l, a, b => by
    rw [List.cons_append, dval_cons, dval_cons]
    exact dval_app l _ b
theorem dig_nat {m : Nat} (h : m < 10) : (UInt8.ofNat (48 + m)).toNat = 48 + m := by
  have := dig_byte h
  omega
theorem dval_dec : ∀ (u : Nat), dval 0 (Lib.decDigits u) = u := by
  intro u
  induction u using Nat.strongRecOn with
  | ind u ih =>
    by_cases h : u < 10
    · rw [dec_small h, dval_cons, nxt_eq, dig_nat h]
      show 10 * 0 + (48 + u - 48) = u
      omega
    · rw [dec_big h, dval_app, ih (u / 10) (by omega), nxt_eq, dig_nat (by omega)]
      omega
theorem numF_dec {n : Int} (h : 0 ≤ n ∧ n ≤ 1000000) : numF (decB n) = (n, true) := by
  have hl : (decB n).data.toList = Lib.decDigits n.toNat := by
    show Lib.itoa n = _
    unfold Lib.itoa
    rw [if_neg (by omega)]
  have hlen := dec_len 6 n.toNat (by omega)
  have hall : (Lib.decDigits n.toNat).all isD = true := List.all_eq_true.2 fun b hb => dig_is _ b hb
  have hneg : negL (Lib.decDigits n.toNat) = false := by
    unfold negL
    cases hd : Lib.decDigits n.toNat with
    | nil => rfl
    | cons c r =>
      have hc := dig_is n.toNat c (by rw [hd]; simp)
      have : c ≠ 45 := fun e => by rw [e] at hc; exact absurd hc (by decide)
      simp [this]
  have ht : tailL (Lib.decDigits n.toNat) = Lib.decDigits n.toNat := by unfold tailL; rw [hneg]; rfl
  have hv : numV (Lib.decDigits n.toNat) = n := by
    unfold numV
    rw [hneg, ht, dval_dec]
    show ((n.toNat : Nat) : Int) = n
    omega
  unfold numF
  rw [hl, ht, hv, if_pos ⟨⟨by omega, by omega⟩, hall, rfl⟩]

end Rx
end Go.Proofs.YtonbgpliomhboaaGreatDoor

namespace Go.Proofs.YtonbgpliomhboaaGreatDoor
namespace Rx
open Go

/-! ### Pieces -/
theorem cutL_len {c : UInt8} : ∀ (l p : List UInt8), p ∈ cutL c l → p.length ≤ l.length
  | [], p, h => by
    have : p = [] := by simpa [cutL] using h
    rw [this]; simp
  | b :: l, p, h => by
    rw [cutL] at h
    by_cases hb : b = c
    · rw [if_pos hb] at h
      rcases List.mem_cons.1 h with h | h
      · rw [h]; simp
      · have := cutL_len l p h
        simp; omega
    · rw [if_neg hb] at h
      obtain ⟨x, r, e⟩ := List.exists_cons_of_ne_nil (cutL_ne c l)
      have hx := cutL_len l x (by rw [e]; simp)
      rw [e] at h
      rcases List.mem_cons.1 h with h | h
      · have h : p = b :: x := h
        rw [h]; simp; exact hx
      · have := cutL_len l p (by rw [e]; exact List.mem_cons_of_mem _ h)
        simp; omega
theorem cutL_glue {c : UInt8} : ∀ (xs : List (List UInt8)), xs ≠ [] → (∀ x ∈ xs, c ∉ x) → cutL c (glueL c xs) = xs
  | [], h, _ => (h rfl).elim
  | [x], _, h => cutL_no (h x (by simp))
  | x :: y :: r, _, h => by
    show cutL c (x ++ c :: glueL c (y :: r)) = _
    rw [cutL_hit _ (h x (by simp)), cutL_glue (y :: r) (by simp) (fun z hz => h z (List.mem_cons_of_mem _ hz))]
theorem itoa_mem {n : Int} {b : UInt8} (h : b ∈ Lib.itoa n) : isD b = true ∨ b = 45 := by
  unfold Lib.itoa at h
  split at h
  · rcases List.mem_cons.1 h with h | h
    · exact .inr h
    · exact .inl (dig_is _ b h)
  · exact .inl (dig_is _ b h)
theorem itoa_no {n : Int} {c : UInt8} (h1 : isD c = false) (h2 : c ≠ 45) : c ∉ Lib.itoa n := fun h => by
  rcases itoa_mem h with e | e
  · rw [h1] at e; cases e
  · exact h2 e
theorem cutL_many {c : UInt8} : ∀ (l : List UInt8), (cutL c l).length ≤ l.length + 1
  | [] => by simp [cutL]
  | b :: l => by
    have ih := cutL_many (c := c) l
    rw [cutL]
    split
    · simp; omega
    · have := List.length_tail (l := cutL c l)
      simp only [List.length_cons]
      omega
end Rx
end Go.Proofs.YtonbgpliomhboaaGreatDoor
