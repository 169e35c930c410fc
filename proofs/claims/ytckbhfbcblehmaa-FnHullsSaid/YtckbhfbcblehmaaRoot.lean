/- The contracts of the integer roots. No conditions. -/
import Derived.Test.YtckbhfbcblehmaaBase
import Derived.WalkKit
import Derived.WalkSpells
import Derived.WalkLawsBesides
import Derived.Handy
import Derived.Test.YtckbhfbcblehmaaRoots
import Derived.Test.YtckbhfbcblehmaaShelf
namespace Go.Proofs.Ytckbhfbcblehmaa
open Go.RowKit BigFrame

theorem mul_bd {a b A B : Int} (h0 : 0 ≤ a) (h1 : a ≤ A) (k0 : 0 ≤ b) (k1 : b ≤ B) : 0 ≤ a * b ∧ a * b ≤ A * B :=
  ⟨Int.mul_nonneg h0 k0, Int.le_trans (Int.mul_le_mul_of_nonneg_right h1 k0) (Int.mul_le_mul_of_nonneg_left k1 (by omega))⟩

theorem l09Root_any (n : Int) (w : World) (h1 : 0 ≤ n) (h2 : n ≤ 1000000000000000000) :
    Calls Try.prog 50 #[.int .i64 n] w fun e w' => e = .returned (.int .i64 (isq n)) ∧ w = w' := by
  have hr := isq_spec h1
  have hle := root_le (M := 1000000000) hr (by omega) (by omega)
  have hge := hr.1
  generalize hs : isq n = s at *
  have HS := Lib.hid hs
  have HR := Lib.hid hr
  clear hs hr
  go_enter Try.func50, Try.ntmps50
  go_wp2
  go_loop [3, 4] (fun v3 v4 => ∃ lo hi : Int, 0 ≤ lo ∧ lo ≤ s ∧ s ≤ hi ∧ hi ≤ 1000000000 ∧ v3 = .int .i64 lo ∧ v4 = .int .i64 hi) (fun v3 v4 => (intOf v4 - intOf v3).toNat)
  case atStart => exact ⟨0, 1000000000, by omega, by omega, by omega, by omega, rfl, rfl⟩
  case round =>
    obtain ⟨lo, hi, g1, g2, g3, g4, rfl, rfl⟩ := hrel
    by_cases hlt : lo < hi
    · have hb := mul_bd (a := (lo + hi + 1) / 2) (b := (lo + hi + 1) / 2) (A := 1000000000) (B := 1000000000) (by omega) (by omega) (by omega) (by omega)
      obtain ⟨m1, m2⟩ : lo < (lo + hi + 1) / 2 ∧ (lo + hi + 1) / 2 ≤ hi := by omega
      by_cases hm : (lo + hi + 1) / 2 ≤ s
      · have ht : (lo + hi + 1) / 2 * ((lo + hi + 1) / 2) ≤ n := Int.le_trans (sq_le (by omega) hm) HR.out.2.1
        go_wp2
        go_round
        case rel => exact ⟨(lo + hi + 1) / 2, hi, by omega, by omega, by omega, by omega, rfl, rfl⟩
        case measure => simp [intOf]; omega
      · have ht : n < (lo + hi + 1) / 2 * ((lo + hi + 1) / 2) := Int.lt_of_lt_of_le HR.out.2.2 (sq_le (by omega) (by omega))
        go_wp2
        go_round
        case rel => exact ⟨lo, (lo + hi + 1) / 2 - 1, by omega, by omega, by omega, by omega, rfl, rfl⟩
        case measure => simp [intOf]; omega
    · go_wp2
      go_ret
      exact ⟨ret_int (by omega), rfl⟩

theorem pow_shl (k : Nat) (h : k ≤ 31) : (1 : Int) ≤ 2 ^ k ∧ (2 : Int) ^ k ≤ 2147483648 := by
  have h1 : (2 : Nat) ^ k ≤ 2 ^ 31 := Nat.pow_le_pow_right (by decide) h
  have h2 : (1 : Nat) ≤ 2 ^ k := Nat.pow_pos (by decide)
  have e : ((2 ^ k : Nat) : Int) = (2 : Int) ^ k := by simp
  constructor <;> omega

theorem quo_bd {n d : Int} (hd : 1 ≤ d) (h1 : 0 ≤ n) (h2 : n ≤ 1000000000000000000) : 0 ≤ n / d ∧ n / d ≤ 1000000000000000000 :=
  ⟨Int.ediv_nonneg h1 (by omega), (ediv_bd hd (by omega) h2 (by omega)).2⟩
theorem sq_start {n s R : Int} (h : IsRoot n s) (h1 : 1 ≤ R) (h2 : n ≤ R * R) : s ≤ R := root_le h (by omega) h2

theorem rootOf_any (n : Int) (w : World) (h1 : 0 ≤ n) (h2 : n ≤ 1000000000000000000) :
    Calls Try.prog 57 #[.int .i64 n] w fun e w' => e = .returned (.int .i64 (isq n)) ∧ w = w' := by
  by_cases h0 : n = 0
  · subst h0
    have HZ := Lib.hid isq_zero
    go_enter Try.func57, Try.ntmps57
    go_wp2
    go_ret
    exact ⟨ret_int HZ.out.symm, rfl⟩
  obtain ⟨m, rfl⟩ := Int.eq_ofNat_of_zero_le h1
  have hr := isq_spec h1
  have hle := root_le (M := 1000000000) hr (by omega) (by omega)
  have hge := root_pos hr (by omega)
  have hL := bitLen_lt m (by omega)
  have hL2 := Lib.bitLen_le m 60 (by omega) (by omega)
  have hst := start_ge m _ hL
  have hn0 : ((m : Int) == 0) = false := by simpa using h0
  have e1 : ((m : Int)).toNat = m := by omega
  have hLen := fun W => Try.bits_Len64 (m : Int) W h1 (by omega)
  rw [e1] at hLen
  have HLen := Lib.hid hLen
  obtain ⟨p1, p2⟩ := pow_shl ((Lib.bitLen m + 1) / 2) (by omega)
  have hst' : (m : Int) ≤ 2 ^ ((Lib.bitLen m + 1) / 2) * 2 ^ ((Lib.bitLen m + 1) / 2) := by
    have := Int.ofNat_le.2 hst
    simpa using this
  have q0 := quo_bd (n := m) p1 h1 h2
  generalize hs : isq (m : Int) = s at *
  have HS := Lib.hid hs
  have HR := Lib.hid hr
  generalize Lib.bitLen m = L at *
  clear hs hr hL hst e1 h0 hLen
  go_enter Try.func57, Try.ntmps57
  go_wp2_with fail
  refine (HLen.out _).mono ?_
  rintro e w' ⟨rfl, hw⟩
  subst hw
  go_wp2_with fail
  go_loop [3, 4] (fun v3 v4 => ∃ r : Int, 1 ≤ r ∧ r ≤ 2147483648 ∧ s ≤ r ∧ v3 = .int .i64 r ∧ v4 = .int .i64 ((r + m / r) / 2)) (fun v3 _ => (intOf v3).toNat)
  case atStart => exact ⟨_, p1, p2, sq_start HR.out p1 hst', rfl, rfl⟩
  case round =>
    obtain ⟨r, g1, g2, g3, rfl, rfl⟩ := hrel
    have q0 := quo_bd (n := m) g1 h1 h2
    by_cases hlt : (r + m / r) / 2 < r
    · have n1 := newton_ge HR.out g1
      have q1 := quo_bd (n := m) (d := (r + m / r) / 2) (by omega) h1 h2
      go_wp2
      go_round
      case rel => exact ⟨(r + m / r) / 2, by omega, by omega, by omega, rfl, rfl⟩
      case measure => simp [intOf]; omega
    · have n2 := newton_end HR.out g1 g3 hlt
      have N2 := Lib.hid n2
      clear n2
      go_wp2
      go_ret
      exact ⟨ret_int N2.out, rfl⟩
end Go.Proofs.Ytckbhfbcblehmaa
