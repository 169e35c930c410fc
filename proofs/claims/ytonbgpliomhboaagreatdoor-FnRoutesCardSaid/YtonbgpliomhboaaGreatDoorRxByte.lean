/- Texts as lists of bytes; decimals. No program in sight. No conditions. -/
import Derived.Test.YtonbgpliomhboaaGreatDoorRxPlain
import Derived.Lib.ItoaNum
namespace Go.Proofs.YtonbgpliomhboaaGreatDoor
namespace Rx
open Go

abbrev BA := ByteArray
def ba (l : List UInt8) : BA := ⟨⟨l⟩⟩
theorem ba_list (l : List UInt8) : (ba l).data.toList = l := rfl
theorem ba_ext {a b : BA} (h : a.data.toList = b.data.toList) : a = b := by
  cases a with
  | mk a => cases b with
    | mk b =>
      have : a = b := Array.ext' h
      rw [this]
theorem ba_of (a : BA) : ba a.data.toList = a := ba_ext rfl
theorem ba_app (a b : BA) : (a ++ b).data.toList = a.data.toList ++ b.data.toList := by simp
theorem ba_size (a : BA) : a.size = a.data.toList.length := (Array.length_toList (xs := a.data)).symm
theorem ba_len (l : List UInt8) : (ba l).size = l.length := ba_size _
theorem ba_same (a : BA) : (a.toList == a.toList) = true := by simp
/-! ### Decimals -/
theorem dec_small {u : Nat} (h : u < 10) : Lib.decDigits u = [UInt8.ofNat (48 + u)] := by rw [Lib.decDigits, dif_pos h]
theorem dec_big {u : Nat} (h : ¬ u < 10) : Lib.decDigits u = Lib.decDigits (u / 10) ++ [UInt8.ofNat (48 + u % 10)] := by rw [Lib.decDigits, dif_neg h]
theorem dec_len : ∀ (j u : Nat), u < 10 ^ (j + 1) → 1 ≤ (Lib.decDigits u).length ∧ (Lib.decDigits u).length ≤ j + 1
  | 0, u, h => by
    rw [dec_small (by simpa using h)]; simp
  | j + 1, u, h => by
    by_cases hu : u < 10
    · rw [dec_small hu]; simp
    · rw [dec_big hu]
      have := dec_len j (u / 10) (by rw [Nat.pow_succ] at h; omega)
      simp
      omega
def decB (n : Int) : BA := ba (Lib.itoa n)
theorem decB_size {n : Int} (h0 : -9223372036854775808 ≤ n) (h1 : n ≤ 9223372036854775807) : 1 ≤ (decB n).size ∧ (decB n).size ≤ 21 := by
  unfold decB Lib.itoa
  rw [ba_len]
  split
  · have := dec_len 19 n.natAbs (by omega)
    simp; omega
  · have := dec_len 19 n.toNat (by omega)
    omega
theorem dig_byte {m : Nat} (h : m < 10) : ((UInt8.ofNat (48 + m)).toNat : Int) = 48 + m := by
  have : (48 + m) % 256 = 48 + m := Nat.mod_eq_of_lt (by omega)
  simp [UInt8.toNat_ofNat, this]
end Rx
end Go.Proofs.YtonbgpliomhboaaGreatDoor
