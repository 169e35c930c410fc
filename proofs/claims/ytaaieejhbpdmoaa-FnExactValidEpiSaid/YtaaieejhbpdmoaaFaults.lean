/- The faults of planetary gears, as a list. No conditions. -/
import Derived.Test.YtaaieejhbpdmoaaEpi1
import Derived.Test.YtaaieejhbpdmoaaApp
namespace Go.Proofs.Ytaaieejhbpdmoaa
open Go.RowKit BigFrame

def s_t : Value := .string ⟨#[116, 101, 101, 116, 104]⟩
def s_c : Value := .string ⟨#[99, 111, 117, 110, 116]⟩
def s_r : Value := .string ⟨#[114, 105, 110, 103]⟩
def s_a : Value := .string ⟨#[97, 115, 115, 101, 109, 98, 108, 121]⟩
def s_s : Value := .string ⟨#[115, 112, 97, 99, 101]⟩

def teethOk (a b c : Int) : Bool := inB a 6 240 && inB b 6 240 && inB c 6 240
def spaceBad (a c d : Int) : Bool := decide (2 ≤ d) && decide ((a + c) * sine d ≤ (c + 2) * 1000000)
def faults (a b c d : Int) : List Value :=
  if (teethOk a b c && inB d 1 8) = true then
    (if (b != a + 2 * c) = true then [s_r] else []) ++ (if ((a + b) % d != 0) = true then [s_a] else []) ++ (if spaceBad a c d = true then [s_s] else [])
  else (if teethOk a b c = true then [] else [s_t]) ++ (if inB d 1 8 = true then [] else [s_c])
theorem faults_1 {a b c d : Int} {t k : Bool} (ht : teethOk a b c = t) (hk : inB d 1 8 = k) (h : (t && k) = false) :
    faults a b c d = (if t = true then [] else [s_t]) ++ (if k = true then [] else [s_c]) := by
  rw [faults, ht, hk, h]
  simp
theorem faults_2 {a b c d : Int} {r m s : Bool} (ht : teethOk a b c = true) (hk : inB d 1 8 = true) (hr : (b != a + 2 * c) = r) (hm : ((a + b) % d != 0) = m) (hs : spaceBad a c d = s) :
    faults a b c d = (if r = true then [s_r] else []) ++ (if m = true then [s_a] else []) ++ (if s = true then [s_s] else []) := by
  rw [faults, ht, hk, hr, hm, hs]
  rfl
theorem teeth_1 {a b c : Int} (h : inB a 6 240 = false) : teethOk a b c = false := by simp [teethOk, h]
theorem teeth_2 {a b c : Int} (h : inB b 6 240 = false) : teethOk a b c = false := by simp [teethOk, h]
theorem teeth_3 {a b c : Int} (h : inB c 6 240 = false) : teethOk a b c = false := by simp [teethOk, h]
theorem teeth_4 {a b c : Int} (h1 : inB a 6 240 = true) (h2 : inB b 6 240 = true) (h3 : inB c 6 240 = true) : teethOk a b c = true := by simp [teethOk, h1, h2, h3]
theorem space_1 {a c d : Int} (h : d = 1) : spaceBad a c d = false := by subst h; rfl
theorem space_2 {a c d : Int} {s : Bool} (h : 2 ≤ d) (hs : decide ((a + c) * sine d ≤ (c + 2) * 1000000) = s) : spaceBad a c d = s := by simp [spaceBad, h, hs]
theorem sprod_bd {a c d : Int} (h1 : 6 ≤ a) (h2 : a ≤ 240) (h3 : 6 ≤ c) (h4 : c ≤ 240) : 0 ≤ (a + c) * sine d ∧ (a + c) * sine d ≤ 480000000 := by
  obtain ⟨e1, e2⟩ := sine_bd d
  have f1 := Int.mul_nonneg (show 0 ≤ a + c by omega) e1
  have f2 := Int.mul_le_mul (show a + c ≤ 480 by omega) e2 e1 (by omega)
  omega
theorem tmodE_bd {x d : Int} (h : 0 ≤ x) (h' : x ≤ 480) (hd : 1 ≤ d) : 0 ≤ Int.tmod x d ∧ Int.tmod x d ≤ 480 := by
  rw [Int.tmod_eq_emod_of_nonneg h]
  have e1 := Int.emod_nonneg x (show d ≠ 0 by omega)
  have e2 : x % d ≤ x := by
    by_cases hx : x < d
    · rw [Int.emod_eq_of_lt h hx]
      exact Int.le_refl x
    · have := Int.emod_lt_of_pos x (show 0 < d by omega)
      omega
  omega
theorem emodE_bd {x d : Int} (h : 0 ≤ x) (h' : x ≤ 480) (hd : 1 ≤ d) : 0 ≤ x % d ∧ x % d ≤ 480 := by
  have := tmodE_bd h h' hd
  rwa [Int.tmod_eq_emod_of_nonneg h] at this
theorem faults_ok {a b c d : Int} : (faults a b c d).length = 0 ↔ faults a b c d = [] := by simp
/-- The gears have no fault. -/
def okE (a b c d : Int) : Bool := (faults a b c d).isEmpty
theorem fin_list {w' : World} {base : Nat} {v : Value} {n : Nat} {xs l : List Value} (h : w'.ownsRow base 9 1 v n xs) (hl : l = xs) (hn : l.length = n) : w'.ownsRow base 9 1 v l.length l := by
  rw [hn, hl]; exact h
end Go.Proofs.Ytaaieejhbpdmoaa
