/- Texts as lists of bytes; decimals. No program in sight. No conditions. -/
import Derived.Test.YtonbgpliomhboaaGreatDoorRxPlain
import Derived.Lib.ItoaNum
namespace Go.Proofs.YtonbgpliomhboaaGreatDoor
namespace Rx
open Go

abbrev BA := ByteArray
def ba (l : List UInt8) : BA := ⟨⟨l⟩⟩
theorem ba_list (l : List UInt8) : (ba l).data.toList = l := rfl
theorem ba_ext {a b : BA} (h : a.data.toList = b.data.toList) : a = b := by
  cases a with
  | mk a => cases b with
    | mk b =>
      have : a = b := Array.ext' h
      rw [this]
theorem ba_of (a : BA) : ba a.data.toList = a := ba_ext rfl
theorem ba_app (a b : BA) : (a ++ b).data.toList = a.data.toList ++ b.data.toList := by simp
theorem ba_cat (l m : List UInt8) : ba l ++ ba m = ba (l ++ m) := ba_ext (ba_app _ _)
theorem ba_size (a : BA) : a.size = a.data.toList.length := (Array.length_toList (xs := a.data)).symm
theorem ba_len (l : List UInt8) : (ba l).size = l.length := ba_size _
theorem ba_push (a : BA) (b : UInt8) : (a.push b).data.toList = a.data.toList ++ [b] := by simp [ByteArray.push]
theorem ba_same (a : BA) : (a.toList == a.toList) = true := by simp
theorem ba_inj {l m : List UInt8} (h : ba l = ba m) : l = m := by
  have := congrArg (fun x : BA => x.data.toList) h
  exact this
theorem foldl_push : ∀ (l : List UInt8) (a : BA), ((l.map fun b => (b.toNat : Int)).foldl (fun (r : BA) n => r.push (UInt8.ofNat n.toNat)) a).data.toList = a.data.toList ++ l
  | [], a => by simp
  | b :: l, a => by
    rw [List.map_cons, List.foldl_cons, foldl_push l]
    rw [ba_push]
    simp
theorem bytesOf_ba (l : List UInt8) : bytesOf (l.map fun b => (b.toNat : Int)) = ba l := ba_ext (by
  unfold bytesOf
  rw [foldl_push]; rfl)

/-! ### Decimals -/
theorem dec_small {u : Nat} (h : u < 10) : Lib.decDigits u = [UInt8.ofNat (48 + u)] := by rw [Lib.decDigits, dif_pos h]
theorem dec_big {u : Nat} (h : ¬ u < 10) : Lib.decDigits u = Lib.decDigits (u / 10) ++ [UInt8.ofNat (48 + u % 10)] := by rw [Lib.decDigits, dif_neg h]
theorem dec_len : ∀ (j u : Nat), u < 10 ^ (j + 1) → 1 ≤ (Lib.decDigits u).length ∧ (Lib.decDigits u).length ≤ j + 1
  | 0, u, h => by
    rw [dec_small (by simpa using h)]; simp
  | j + 1, u, h => by
    by_cases hu : u < 10
    · rw [dec_small hu]; simp
    · rw [dec_big hu]
      have := dec_len j (u / 10) (by rw [Nat.pow_succ] at h; omega)
      simp
      omega
def decB (n : Int) : BA := ba (Lib.itoa n)
theorem decB_def (n : Int) : (⟨(Lib.itoa n).toArray⟩ : BA) = decB n := rfl
theorem decB_size {n : Int} (h0 : -9223372036854775808 ≤ n) (h1 : n ≤ 9223372036854775807) : 1 ≤ (decB n).size ∧ (decB n).size ≤ 21 := by
  unfold decB Lib.itoa
  rw [ba_len]
  split
  · have := dec_len 19 n.natAbs (by omega)
    simp; omega
  · have := dec_len 19 n.toNat (by omega)
    omega
/-- The digits behind which a number is nothing. -/
def digL (u : Nat) : List Int := if u = 0 then [] else (Lib.decDigits u).map fun b => (b.toNat : Int)
theorem dig_byte {m : Nat} (h : m < 10) : ((UInt8.ofNat (48 + m)).toNat : Int) = 48 + m := by
  have : (48 + m) % 256 = 48 + m := Nat.mod_eq_of_lt (by omega)
  simp [UInt8.toNat_ofNat, this]
theorem digL_pos {u : Nat} (h : u ≠ 0) : digL u = digL (u / 10) ++ [48 + ((u % 10 : Nat) : Int)] := by
  unfold digL
  rw [if_neg h]
  by_cases hu : u < 10
  · rw [if_pos (by omega), dec_small hu]
    simp only [List.map_cons, List.map_nil, List.nil_append]
    rw [dig_byte hu, Nat.mod_eq_of_lt hu]
  · rw [if_neg (by omega), dec_big hu]
    simp only [List.map_append, List.map_cons, List.map_nil]
    rw [dig_byte (by omega)]
end Rx
end Go.Proofs.YtonbgpliomhboaaGreatDoor
