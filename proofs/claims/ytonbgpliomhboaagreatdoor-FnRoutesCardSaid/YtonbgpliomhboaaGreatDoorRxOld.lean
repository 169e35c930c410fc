/- What the functions of RxRatI come to, and their contracts. No conditions. -/
import Derived.Test.YtonbgpliomhboaaGreatDoorRxEnv
import Derived.Test.YtonbgpliomhboaaGreatDoorGcd
import Derived.Test.YtonbgpliomhboaaGreatDoorRxPlain
namespace Go.Proofs.YtonbgpliomhboaaGreatDoor
namespace Rx
open Go

def withinI : Int × Int × Int → Option (Bool) :=
fun x => br (decide (x.snd.1 ≤ x.1)) (some (decide (x.1 ≤ x.snd.2))) (some false)
def toothedI : Int → Option (Bool) :=
fun x => ob (withinI (x, (6 : Int), (240 : Int))) fun y => some y
def magI : Int → Option (Int) :=
fun x =>
  br (decide (x < (0 : Int))) (some (IntKind.u64.wrap ((0 : Int) - IntKind.u64.wrap x))) (some (IntKind.u64.wrap x))
def gcdIL_step : Int × Int → Option (LRes × (Int × Int)) :=
fun x =>
  br (x.2 != (0 : Int)) (br (x.2 == (0 : Int)) none (some (LRes.next, x.2, x.1.tmod x.2))) (some (LRes.out, x.1, x.2))
def gcdIL_fuel : Int × Int → Nat := fun s => s.2.natAbs + 1
def gcdIL : Int × Int → Option (Int × Int) := fun s => iterP gcdIL_step (gcdIL_fuel s) s
def gcdI : Int × Int → Option (Int) :=
fun x =>
  ob (gcdIL (x.1, x.2)) fun r => br (decide (r.1 < (0 : Int))) (some (IntKind.i64.wrap ((0 : Int) - r.1))) (some r.1)
def redIL_step : Int × Int × (Int × Int) × Int × Int × Int × Int → Option (LRes × (Int × Int × (Int × Int) × Int × Int × Int × Int)) :=
fun x =>
  br (x.snd.snd.snd.snd.snd.2 != (0 : Int))
    (br (x.snd.snd.snd.snd.snd.2 == (0 : Int)) none
      (some
        (LRes.next, x.1, x.snd.1, (x.snd.snd.fst.1, x.snd.snd.fst.2), x.snd.snd.snd.1, x.snd.snd.snd.snd.1,
          x.snd.snd.snd.snd.snd.2, Int.tmod x.snd.snd.snd.snd.snd.1 x.snd.snd.snd.snd.snd.2)))
    (some
      (LRes.out, x.1, x.snd.1, (x.snd.snd.fst.1, x.snd.snd.fst.2), x.snd.snd.snd.1, x.snd.snd.snd.snd.1,
        x.snd.snd.snd.snd.snd.1, x.snd.snd.snd.snd.snd.2))
def redIL_fuel : Int × Int × (Int × Int) × Int × Int × Int × Int → Nat := fun s => s.2.2.2.2.2.2.natAbs + 1
def redIL : Int × Int × (Int × Int) × Int × Int × Int × Int → Option (Int × Int × (Int × Int) × Int × Int × Int × Int) := fun s => iterP redIL_step (redIL_fuel s) s
def redI : Int × Int → Option ((Int × Int) × Bool) :=
fun x =>
  ob (magI x.1) fun y =>
    ob (magI x.2) fun y_1 =>
      ob (redIL (x.1, x.2, ((0 : Int), (0 : Int)), y, y_1, y, y_1)) fun r =>
        br (r.snd.snd.snd.snd.snd.1 == (0 : Int)) none
          (br (r.snd.snd.snd.snd.snd.1 == (0 : Int)) none
            (br (decide ((1000000000 : Int) < IntKind.u64.wrap (Int.tdiv r.snd.snd.snd.1 r.snd.snd.snd.snd.snd.1)))
              (some (((0 : Int), (0 : Int)), false))
              (br
                (decide ((1000000000 : Int) < IntKind.u64.wrap (Int.tdiv r.snd.snd.snd.snd.1 r.snd.snd.snd.snd.snd.1)))
                (some (((0 : Int), (0 : Int)), false))
                (br (!decide (r.1 < (0 : Int)) == decide (r.snd.1 < (0 : Int)))
                  (some
                    ((IntKind.i64.wrap
                          ((0 : Int) -
                            IntKind.i64.wrap (IntKind.u64.wrap (Int.tdiv r.snd.snd.snd.1 r.snd.snd.snd.snd.snd.1))),
                        IntKind.i64.wrap (IntKind.u64.wrap (Int.tdiv r.snd.snd.snd.snd.1 r.snd.snd.snd.snd.snd.1))),
                      true))
                  (some
                    ((IntKind.i64.wrap (IntKind.u64.wrap (Int.tdiv r.snd.snd.snd.1 r.snd.snd.snd.snd.snd.1)),
                        IntKind.i64.wrap (IntKind.u64.wrap (Int.tdiv r.snd.snd.snd.snd.1 r.snd.snd.snd.snd.snd.1))),
                      true))))))
def validRatI : (Int × Int) → Option (Bool) :=
fun x =>
  ob (withinI (x.2, (1 : Int), (1000000000 : Int))) fun y =>
    br y
      (ob (withinI (x.1, (-1000000000 : Int), (1000000000 : Int))) fun y =>
        br y (ob (gcdI (x.1, x.2)) fun y => some (y == (1 : Int))) (some false))
      (some false)
def makeRatI : Int × Int → Option ((Int × Int) × Int) :=
fun x =>
  br (x.2 == (0 : Int)) (some (((0 : Int), (0 : Int)), (6 : Int)))
    (ob (redI (x.1, x.2)) fun y =>
      br (!y.2) (some (((0 : Int), (0 : Int)), (2 : Int))) (some ((y.fst.1, y.fst.2), (0 : Int))))
def mulRatI : (Int × Int) × (Int × Int) → Option ((Int × Int) × Int) :=
fun x =>
  ob (validRatI (x.fst.1, x.fst.2)) fun y =>
    br (!y) (some (((0 : Int), (0 : Int)), (1 : Int)))
      (ob (validRatI (x.snd.1, x.snd.2)) fun y =>
        br (!y) (some (((0 : Int), (0 : Int)), (1 : Int)))
          (ob (makeRatI (IntKind.i64.wrap (x.fst.1 * x.snd.1), IntKind.i64.wrap (x.fst.2 * x.snd.2))) fun y =>
            some ((y.fst.1, y.fst.2), y.2)))
end Rx
end Go.Proofs.YtonbgpliomhboaaGreatDoor

namespace Go.Proofs.YtonbgpliomhboaaGreatDoor
namespace Rx
open Go

def inS : Int × Int × Int → Option (Bool) :=
fun x => br (decide (x.snd.1 ≤ x.1)) (some (decide (x.1 ≤ x.snd.2))) (some false)
def inS_con : Con := ⟨[i64, i64, i64], [.d (.bool)], inS⟩
theorem inS_run (x : Dens [i64, i64, i64]) : runFn (mkEnv [] []) Tryz.f98 [i64, i64, i64] [.d (.bool)] x = inS x := by kernel_rfl
theorem inS_ok : inS_con.ok Tryz.prog 98 := fn_ok (con := inS_con) (mkEnv_ok (cons := []) trivial []) Tryz.func98 rfl (by kernel_rfl) (by exact trivial) (fun x y h => (inS_run x).trans h)

def teethS : Int → Option (Bool) :=
fun x => ob (inS (x, (6 : Int), (240 : Int))) fun y => some y
def teethS_con : Con := ⟨[i64], [.d (.bool)], teethS⟩
theorem teethS_run (x : Dens [i64]) : runFn (mkEnv [(98, inS_con)] []) Tryz.f95 [i64] [.d (.bool)] x = teethS x := by kernel_rfl
theorem teethS_ok : teethS_con.ok Tryz.prog 95 := fn_ok (con := teethS_con) (mkEnv_ok (cons := [(98, inS_con)]) ⟨inS_ok, trivial⟩ []) Tryz.func95 rfl (by kernel_rfl) (by exact trivial) (fun x y h => (teethS_run x).trans h)

def partS : Int → Option (Int) :=
fun x =>
  br (decide (x < (0 : Int))) (some (IntKind.u64.wrap ((0 : Int) - IntKind.u64.wrap x))) (some (IntKind.u64.wrap x))
def partS_con : Con := ⟨[i64], [.d (u64)], partS⟩
theorem partS_run (x : Dens [i64]) : runFn (mkEnv [] []) Tryz.f100 [i64] [.d (u64)] x = partS x := by kernel_rfl
theorem partS_ok : partS_con.ok Tryz.prog 100 := fn_ok (con := partS_con) (mkEnv_ok (cons := []) trivial []) Tryz.func100 rfl (by kernel_rfl) (by exact trivial) (fun x y h => (partS_run x).trans h)

def mkSL_vars : Vars := [(0, .val (i64)), (1, .val (i64)), (4, .box 0 45 (.pair (i64) (i64))), (6, .val (u64)), (7, .val (u64)), (8, .val (u64)), (9, .val (u64))]
def mkSL_step : Int × Int × (Int × Int) × Int × Int × Int × Int → Option (LRes × (Int × Int × (Int × Int) × Int × Int × Int × Int)) :=
fun x =>
  br (decide ((0 : Int) < x.snd.snd.snd.snd.snd.2))
    (br (x.snd.snd.snd.snd.snd.2 == (0 : Int)) none
      (some
        (LRes.next, x.1, x.snd.1, (x.snd.snd.fst.1, x.snd.snd.fst.2), x.snd.snd.snd.1, x.snd.snd.snd.snd.1,
          x.snd.snd.snd.snd.snd.2, Int.tmod x.snd.snd.snd.snd.snd.1 x.snd.snd.snd.snd.snd.2)))
    (some
      (LRes.out, x.1, x.snd.1, (x.snd.snd.fst.1, x.snd.snd.fst.2), x.snd.snd.snd.1, x.snd.snd.snd.snd.1,
        x.snd.snd.snd.snd.snd.1, x.snd.snd.snd.snd.snd.2))
def mkSL_fuel : Int × Int × (Int × Int) × Int × Int × Int × Int → Nat := fun s => s.2.2.2.2.2.2.natAbs + 1
def mkSL : Int × Int × (Int × Int) × Int × Int × Int × Int → Option (Int × Int × (Int × Int) × Int × Int × Int × Int) := fun s => iterP mkSL_step (mkSL_fuel s) s
def mkSL_L : LoopC := ⟨mkSL_vars, 0, .plain mkSL⟩
noncomputable def mkSL_key : Nat := key (loopAt Tryz.f77 0)
theorem mkSL_stepok (x : mkSL_vars.den) : stepOf (mkEnv [] []) Tryz.f77.ntmps mkSL_vars 0 (loopAt Tryz.f77 0) x = mkSL_step x := by kernel_rfl
theorem mkSL_ok : LoopOK Tryz.prog Tryz.f77.ntmps mkSL_L (loopAt Tryz.f77 0)   := iterP_loop (n := Tryz.f77.ntmps) (vs := mkSL_vars) (out := 0) (body := loopAt Tryz.f77 0) (mkEnv_ok (cons := []) trivial []) mkSL_step mkSL_fuel (by exact trivial) mkSL_stepok

def mkS : Int × Int → Option ((Int × Int) × Bool) :=
fun x =>
  ob (partS x.1) fun y =>
    ob (partS x.2) fun y_1 =>
      ob (mkSL (x.1, x.2, ((0 : Int), (0 : Int)), y, y_1, y, y_1)) fun r =>
        br (r.snd.snd.snd.snd.snd.1 == (0 : Int)) none
          (br (r.snd.snd.snd.snd.snd.1 == (0 : Int)) none
            (br (decide ((1000000000 : Int) < IntKind.u64.wrap (Int.tdiv r.snd.snd.snd.1 r.snd.snd.snd.snd.snd.1)))
              (some (((0 : Int), (0 : Int)), false))
              (br
                (decide ((1000000000 : Int) < IntKind.u64.wrap (Int.tdiv r.snd.snd.snd.snd.1 r.snd.snd.snd.snd.snd.1)))
                (some (((0 : Int), (0 : Int)), false))
                (br (!decide (r.1 < (0 : Int)) == decide (r.snd.1 < (0 : Int)))
                  (some
                    ((IntKind.i64.wrap
                          ((0 : Int) -
                            IntKind.i64.wrap (IntKind.u64.wrap (Int.tdiv r.snd.snd.snd.1 r.snd.snd.snd.snd.snd.1))),
                        IntKind.i64.wrap (IntKind.u64.wrap (Int.tdiv r.snd.snd.snd.snd.1 r.snd.snd.snd.snd.snd.1))),
                      true))
                  (some
                    ((IntKind.i64.wrap (IntKind.u64.wrap (Int.tdiv r.snd.snd.snd.1 r.snd.snd.snd.snd.snd.1)),
                        IntKind.i64.wrap (IntKind.u64.wrap (Int.tdiv r.snd.snd.snd.snd.1 r.snd.snd.snd.snd.snd.1))),
                      true))))))
def mkS_con : Con := ⟨[i64, i64], [.d (.pair (i64) (i64)), .d (.bool)], mkS⟩
theorem mkS_run (x : Dens [i64, i64]) : runFn (mkEnv [(100, partS_con)] [(mkSL_key, mkSL_L)]) Tryz.f77 [i64, i64] [.d (.pair (i64) (i64)), .d (.bool)] x = mkS x := by kernel_rfl
theorem mkS_ok : mkS_con.ok Tryz.prog 77 := fn_ok (con := mkS_con) (mkEnv_ok (cons := [(100, partS_con)]) ⟨partS_ok, trivial⟩ [(mkSL_key, mkSL_L)]) Tryz.func77 rfl (by kernel_rfl) (by exact ⟨mkSL_ok, trivial⟩) (fun x y h => (mkS_run x).trans h)

def mulS : (Int × Int) × (Int × Int) → Option ((Int × Int) × Bool) :=
fun x =>
  ob (mkS (IntKind.i64.wrap (x.fst.1 * x.snd.1), IntKind.i64.wrap (x.fst.2 * x.snd.2))) fun y =>
    some ((y.fst.1, y.fst.2), y.2)
def mulS_con : Con := ⟨[.pair (i64) (i64), .pair (i64) (i64)], [.d (.pair (i64) (i64)), .d (.bool)], mulS⟩
theorem mulS_run (x : Dens [.pair (i64) (i64), .pair (i64) (i64)]) : runFn (mkEnv [(77, mkS_con)] []) Tryz.f78 [.pair (i64) (i64), .pair (i64) (i64)] [.d (.pair (i64) (i64)), .d (.bool)] x = mulS x := by kernel_rfl
theorem mulS_ok : mulS_con.ok Tryz.prog 78 := fn_ok (con := mulS_con) (mkEnv_ok (cons := [(77, mkS_con)]) ⟨mkS_ok, trivial⟩ []) Tryz.func78 rfl (by kernel_rfl) (by exact trivial) (fun x y h => (mulS_run x).trans h)

def wholeS : Int → Option ((Int × Int)) :=
fun x => some (x, (1 : Int))
def wholeS_con : Con := ⟨[i64], [.d (.pair (i64) (i64))], wholeS⟩
theorem wholeS_run (x : Dens [i64]) : runFn (mkEnv [] []) Tryz.f73 [i64] [.d (.pair (i64) (i64))] x = wholeS x := by kernel_rfl
theorem wholeS_ok : wholeS_con.ok Tryz.prog 73 := fn_ok (con := wholeS_con) (mkEnv_ok (cons := []) trivial []) Tryz.func73 rfl (by kernel_rfl) (by exact trivial) (fun x y h => (wholeS_run x).trans h)

end Rx
end Go.Proofs.YtonbgpliomhboaaGreatDoor

namespace Go.Proofs.YtonbgpliomhboaaGreatDoor
namespace Rx
open Go

theorem within_eq (v lo hi : Int) : withinI (v, lo, hi) = some (decide (lo ≤ v) && decide (v ≤ hi)) := by
  show br (decide (lo ≤ v)) (some (decide (v ≤ hi))) (some false) = _
  cases decide (lo ≤ v) <;> rfl
theorem teeth_eq : teethS = toothedI := rfl
theorem toothed_eq (v : Int) : toothedI v = some (decide (6 ≤ v) && decide (v ≤ 240)) := by
  show ob (withinI (v, 6, 240)) _ = _
  rw [within_eq]; rfl

/-- What the walk down to the common divisor does. -/
theorem gcd_walkI : ∀ (n : Nat) (a b : Int), b.natAbs < n → ∃ g : Int, iterP gcdIL_step n (a, b) = some (g, 0) ∧ g.natAbs = Int.gcd a b
  | 0, _, _, h => by omega
  | n + 1, a, b, h => by
    show ∃ g : Int, ob (gcdIL_step (a, b)) _ = _ ∧ _
    by_cases hb : b = 0
    · subst hb
      exact ⟨a, rfl, by rw [Int.gcd_zero_right]⟩
    · have e : gcdIL_step (a, b) = some (LRes.next, b, a.tmod b) := by
        show br (b != 0) (br (b == 0) none _) _ = _
        rw [br_t (by simpa using hb), br_f (by simpa using hb)]
      rw [e]
      have hm : (a.tmod b).natAbs < b.natAbs := by rw [Int.natAbs_tmod]; exact Nat.mod_lt _ (by omega)
      obtain ⟨g, h1, h2⟩ := gcd_walkI n b (a.tmod b) (by omega)
      exact ⟨g, h1, by rw [h2, gcd_tmod]⟩
theorem gcdIL_eq (a b : Int) : ∃ g : Int, gcdIL (a, b) = some (g, 0) ∧ g.natAbs = Int.gcd a b :=
  gcd_walkI _ a b (by show _ < b.natAbs + 1; omega)
theorem gcd_le_d {a d : Int} (h1 : 1 ≤ d) : (Int.gcd a d : Int) ≤ d := Int.le_of_dvd (by omega) (Int.gcd_dvd_right ..)
theorem gcdI_eq {a d : Int} (h1 : 1 ≤ d) (h2 : d ≤ 1000000000) : gcdI (a, d) = some (Int.gcd a d : Int) := by
  obtain ⟨g, e, hg⟩ := gcdIL_eq a d
  have hd := gcd_le_d (a := a) h1
  show ob (gcdIL (a, d)) _ = _
  rw [e]
  show br (decide (g < 0)) _ _ = _
  by_cases hn : g < 0
  · rw [br_t (by simpa using hn), w64 (by omega) (by omega)]; congr 1; omega
  · rw [br_f (by simpa using hn)]; congr 1; omega

theorem red_walkI : ∀ (n : Nat) (p q : Int) (z : Int × Int) (u v a b : Int), b.natAbs < n → 0 ≤ a → 0 ≤ b → iterP redIL_step n (p, q, z, u, v, a, b) = some (p, q, z, u, v, (Int.gcd a b : Int), 0)
  | 0, _, _, _, _, _, _, _, h, _, _ => by omega
  | n + 1, p, q, z, u, v, a, b, h, ha, hb => by
    show ob (redIL_step (p, q, z, u, v, a, b)) _ = _
    by_cases hz : b = 0
    · subst hz
      show some (p, q, z, u, v, a, 0) = _
      rw [gcd_zero_right, if_neg (by omega)]
    · have e : redIL_step (p, q, z, u, v, a, b) = some (LRes.next, p, q, z, u, v, b, a.tmod b) := by
        show br (b != 0) (br (b == 0) none _) _ = _
        rw [br_t (by simpa using hz), br_f (by simpa using hz)]
      rw [e]
      have hm : (a.tmod b).natAbs < b.natAbs := by rw [Int.natAbs_tmod]; exact Nat.mod_lt _ (by omega)
      have h0 : 0 ≤ a.tmod b := Int.tmod_nonneg _ ha
      rw [← gcd_tmod a b]
      exact red_walkI n p q z u v b (a.tmod b) (by omega) hb h0
theorem mk_walkS : ∀ (n : Nat) (p q : Int) (z : Int × Int) (u v a b : Int), b.natAbs < n → 0 ≤ a → 0 ≤ b → iterP mkSL_step n (p, q, z, u, v, a, b) = some (p, q, z, u, v, (Int.gcd a b : Int), 0)
  | 0, _, _, _, _, _, _, _, h, _, _ => by omega
  | n + 1, p, q, z, u, v, a, b, h, ha, hb => by
    show ob (mkSL_step (p, q, z, u, v, a, b)) _ = _
    by_cases hz : b = 0
    · subst hz
      show some (p, q, z, u, v, a, 0) = _
      rw [gcd_zero_right, if_neg (by omega)]
    · have e : mkSL_step (p, q, z, u, v, a, b) = some (LRes.next, p, q, z, u, v, b, a.tmod b) := by
        show br (decide (0 < b)) (br (b == 0) none _) _ = _
        rw [br_t (by simpa using (by omega : 0 < b)), br_f (by simpa using hz)]
      rw [e]
      have hm : (a.tmod b).natAbs < b.natAbs := by rw [Int.natAbs_tmod]; exact Nat.mod_lt _ (by omega)
      have h0 : 0 ≤ a.tmod b := Int.tmod_nonneg _ ha
      rw [← gcd_tmod a b]
      exact mk_walkS n p q z u v b (a.tmod b) (by omega) hb h0

/-- A number of 64 bits. -/
def I64 (n : Int) : Prop := -9223372036854775808 ≤ n ∧ n ≤ 9223372036854775807
theorem magI_eq {n : Int} (h : I64 n) : magI n = some (mag n) := by
  obtain ⟨h1, h2⟩ := h
  show br (decide (n < 0)) _ _ = _
  by_cases hn : n < 0
  · rw [br_t (by simpa using hn), mag_of_neg hn, IntKind.wrap_u64, IntKind.wrap_u64]; congr 1; omega
  · rw [br_f (by simpa using hn), mag_of_nn (by omega), wu64 (by omega) (by omega)]

/-- The pair in lowest terms, with its flag. -/
def redF (n d : Int) : (Int × Int) × Bool := match mkR n d with
  | none => ((0, 0), false)
  | some p => (p, true)
theorem gcd_mag (n d : Int) : Int.gcd (mag n) (mag d) = Int.gcd n d := by
  rw [gcd_nat, gcd_nat]; unfold mag; simp
theorem redTail {n d : Int} (hn : I64 n) (hd : I64 d) (h0 : d ≠ 0) {t : Option ((Int × Int) × Bool)}
    (ht : t = br ((Int.gcd n d : Int) == (0 : Int)) none
          (br ((Int.gcd n d : Int) == (0 : Int)) none
            (br (decide ((1000000000 : Int) < IntKind.u64.wrap (Int.tdiv (mag n) (Int.gcd n d))))
              (some (((0 : Int), (0 : Int)), false))
              (br
                (decide ((1000000000 : Int) < IntKind.u64.wrap (Int.tdiv (mag d) (Int.gcd n d))))
                (some (((0 : Int), (0 : Int)), false))
                (br (!decide (n < (0 : Int)) == decide (d < (0 : Int)))
                  (some
                    ((IntKind.i64.wrap
                          ((0 : Int) -
                            IntKind.i64.wrap (IntKind.u64.wrap (Int.tdiv (mag n) (Int.gcd n d)))),
                        IntKind.i64.wrap (IntKind.u64.wrap (Int.tdiv (mag d) (Int.gcd n d)))),
                      true))
                  (some
                    ((IntKind.i64.wrap (IntKind.u64.wrap (Int.tdiv (mag n) (Int.gcd n d))),
                        IntKind.i64.wrap (IntKind.u64.wrap (Int.tdiv (mag d) (Int.gcd n d)))),
                      true))))))) : t = some (redF n d) := by
  subst ht
  have hg := gcd_pos (n := n) h0
  obtain ⟨n1, n2⟩ := hn
  obtain ⟨d1, d2⟩ := hd
  have bn : 0 ≤ mag n ∧ mag n ≤ 9223372036854775808 := by unfold mag; omega
  have bd : 0 ≤ mag d ∧ mag d ≤ 9223372036854775808 := by unfold mag; omega
  have qn := div_bd hg bn.1 bn.2
  have qd := div_bd hg bd.1 bd.2
  rw [br_f (by simp; omega), br_f (by simp; omega), Int.tdiv_eq_ediv_of_nonneg bn.1, Int.tdiv_eq_ediv_of_nonneg bd.1]
  rw [wu64 qn.1 (by omega), wu64 qd.1 (by omega)]
  unfold redF mkR
  dsimp only
  by_cases c1 : 1000000000 < mag n / (Int.gcd n d : Int)
  · rw [br_t (by simpa using c1), if_pos (.inl c1)]
  · rw [br_f (by simpa using c1)]
    by_cases c2 : 1000000000 < mag d / (Int.gcd n d : Int)
    · rw [br_t (by simpa using c2), if_pos (.inr c2)]
    · rw [br_f (by simpa using c2), if_neg (by omega)]
      rw [w64 (x := mag n / (Int.gcd n d : Int)) (by omega) (by omega), w64 (x := mag d / (Int.gcd n d : Int)) (by omega) (by omega), w64 (by omega) (by omega)]
      have e : (!decide (n < (0 : Int)) == decide (d < (0 : Int))) = (decide (n < 0) != decide (d < 0)) := by cases decide (n < 0) <;> cases decide (d < 0) <;> rfl
      rw [e]
      cases (decide (n < 0) != decide (d < 0)) with
      | true => show some _ = some _; rw [Int.zero_sub]; rfl
      | false => rfl
theorem redI_eq {n d : Int} (hn : I64 n) (hd : I64 d) (h0 : d ≠ 0) : redI (n, d) = some (redF n d) := by
  refine redTail hn hd h0 ?_
  show ob (magI n) _ = _
  rw [magI_eq hn]
  show ob (magI d) _ = _
  rw [magI_eq hd]
  show ob (iterP redIL_step ((mag d).natAbs + 1) (n, d, (0, 0), mag n, mag d, mag n, mag d)) _ = _
  rw [red_walkI _ _ _ _ _ _ _ _ (by omega) (mag_nn n) (mag_nn d), gcd_mag]; rfl
theorem mkS_eq {n d : Int} (hn : I64 n) (hd : I64 d) (h0 : d ≠ 0) : mkS (n, d) = some (redF n d) := by
  refine redTail hn hd h0 ?_
  show ob (magI n) _ = _
  rw [magI_eq hn]
  show ob (magI d) _ = _
  rw [magI_eq hd]
  show ob (iterP mkSL_step ((mag d).natAbs + 1) (n, d, (0, 0), mag n, mag d, mag n, mag d)) _ = _
  rw [mk_walkS _ _ _ _ _ _ _ _ (by omega) (mag_nn n) (mag_nn d), gcd_mag]; rfl

/-- Whether a pair is a ratio in lowest terms, and how large it may be. -/
def vR (p : Int × Int) : Bool := vRat p.1 p.2
theorem validRatI_eq (p : Int × Int) : validRatI p = some (vR p) := by
  obtain ⟨n, d⟩ := p
  show ob (withinI (d, 1, 1000000000)) _ = _
  rw [within_eq]
  show br _ (ob (withinI (n, -1000000000, 1000000000)) _) _ = some (vRat n d)
  rw [within_eq]
  unfold vRat
  by_cases h : 1 ≤ d ∧ d ≤ 1000000000
  · rw [br_t (by simpa using h)]
    show br _ (ob (gcdI (n, d)) _) _ = _
    by_cases k : -1000000000 ≤ n ∧ n ≤ 1000000000
    · rw [br_t (by simpa using k), gcdI_eq h.1 h.2]
      simp only [h, k, decide_true, and_self, Bool.true_and, ob_s]
      congr 1
    · rw [br_f (by rw [← Bool.decide_and]; simpa using k)]
      simp only [h, k, decide_true, decide_false, and_self, Bool.true_and, Bool.false_and]
  · rw [br_f (by rw [← Bool.decide_and]; simpa using h)]
    simp only [h, decide_false, Bool.false_and]
theorem vR_bd {p : Int × Int} (h : vR p = true) : 1 ≤ p.2 ∧ p.2 ≤ 1000000000 ∧ -1000000000 ≤ p.1 ∧ p.1 ≤ 1000000000 := vRat_bd h

/-- The ratio with its code. -/
def ratF (n d : Int) : (Int × Int) × Int := match mkR n d with
  | none => ((0, 0), 2)
  | some p => (p, 0)
theorem ratF_valid {n d : Int} (h0 : d ≠ 0) (h : (ratF n d).2 = 0) : vR (ratF n d).1 = true ∧ mkR n d = some (ratF n d).1 := by
  unfold ratF at h ⊢
  cases e : mkR n d with
  | none => rw [e] at h; cases h
  | some p => exact ⟨mkR_valid h0 e, rfl⟩
theorem makeRatI_eq {n d : Int} (hn : I64 n) (hd : I64 d) (h0 : d ≠ 0) : makeRatI (n, d) = some (ratF n d) := by
  show br (d == 0) _ (ob (redI (n, d)) _) = _
  rw [br_f (by simpa using h0), redI_eq hn hd h0]
  unfold redF ratF
  cases mkR n d <;> rfl

theorem pb {x y A B : Int} (h1 : -A ≤ x) (h2 : x ≤ A) (h3 : -B ≤ y) (h4 : y ≤ B) : -(A * B) ≤ x * y ∧ x * y ≤ A * B := by
  have hA : 0 ≤ A := by omega
  have hB : 0 ≤ B := by omega
  have k1 : (A - x) * (B + y) ≥ 0 := Int.mul_nonneg (by omega) (by omega)
  have k2 : (A + x) * (B - y) ≥ 0 := Int.mul_nonneg (by omega) (by omega)
  have k3 : (A - x) * (B - y) ≥ 0 := Int.mul_nonneg (by omega) (by omega)
  have k4 : (A + x) * (B + y) ≥ 0 := Int.mul_nonneg (by omega) (by omega)
  rw [Int.sub_mul, Int.mul_add, Int.mul_add] at k1
  rw [Int.add_mul, Int.mul_sub, Int.mul_sub] at k2
  rw [Int.sub_mul, Int.mul_sub, Int.mul_sub] at k3
  rw [Int.add_mul, Int.mul_add, Int.mul_add] at k4
  omega
theorem pp1 {x y : Int} (h1 : 1 ≤ x) (h2 : 1 ≤ y) : 1 ≤ x * y := by
  have : 0 < x * y := Int.mul_pos (by omega) (by omega)
  omega

theorem mulRatI_eq (a b : Int × Int) : mulRatI (a, b) = some (if vR a = true ∧ vR b = true then ratF (a.1 * b.1) (a.2 * b.2) else ((0, 0), 1)) := by
  show ob (validRatI a) _ = _
  rw [validRatI_eq]
  cases ha : vR a with
  | false => rfl
  | true =>
    show ob (validRatI b) _ = _
    rw [validRatI_eq]
    cases hb : vR b with
    | false => rfl
    | true =>
      obtain ⟨a1, a2, a3, a4⟩ := vR_bd ha
      obtain ⟨b1, b2, b3, b4⟩ := vR_bd hb
      show ob (makeRatI (IntKind.i64.wrap (a.1 * b.1), IntKind.i64.wrap (a.2 * b.2))) _ = _
      have p1 := pb (x := a.1) (y := b.1) (A := 1000000000) (B := 1000000000) a3 a4 b3 b4
      have p3 := pb (x := a.2) (y := b.2) (A := 1000000000) (B := 1000000000) (by omega) a2 (by omega) b2
      have p4 := pp1 a1 b1
      rw [w64 (x := a.1 * b.1) (by omega) (by omega), w64 (x := a.2 * b.2) (by omega) (by omega)]
      rw [makeRatI_eq ⟨by omega, by omega⟩ ⟨by omega, by omega⟩ (by omega)]; rfl

theorem mulS_eq {a b : Int × Int} (ha : vR a = true) (hb : vR b = true) : mulS (a, b) = some (redF (a.1 * b.1) (a.2 * b.2)) := by
  obtain ⟨a1, a2, a3, a4⟩ := vR_bd ha
  obtain ⟨b1, b2, b3, b4⟩ := vR_bd hb
  show ob (mkS (IntKind.i64.wrap (a.1 * b.1), IntKind.i64.wrap (a.2 * b.2))) _ = _
  have p1 := pb (x := a.1) (y := b.1) (A := 1000000000) (B := 1000000000) a3 a4 b3 b4
  have p3 := pb (x := a.2) (y := b.2) (A := 1000000000) (B := 1000000000) (by omega) a2 (by omega) b2
  have p4 := pp1 a1 b1
  rw [w64 (x := a.1 * b.1) (by omega) (by omega), w64 (x := a.2 * b.2) (by omega) (by omega)]
  rw [mkS_eq ⟨by omega, by omega⟩ ⟨by omega, by omega⟩ (by omega)]; rfl
end Rx
end Go.Proofs.YtonbgpliomhboaaGreatDoor

namespace Go.Proofs.YtonbgpliomhboaaGreatDoor
namespace Rx
open Go

def codeS : (Int × Int) × Bool → Option ((Int × Int) × Int) :=
fun x => br (!x.2) (some (((0 : Int), (0 : Int)), (2 : Int))) (some ((x.fst.1, x.fst.2), (0 : Int)))
def codeS_con : Con := ⟨[.pair (i64) (i64), .bool], [.d (.pair (i64) (i64)), .d (i64)], codeS⟩
theorem codeS_run (x : Dens [.pair (i64) (i64), .bool]) : runFn (mkEnv [] []) Tryz.f40 [.pair (i64) (i64), .bool] [.d (.pair (i64) (i64)), .d (i64)] x = codeS x := by kernel_rfl
theorem codeS_ok : codeS_con.ok Tryz.prog 40 := fn_ok (con := codeS_con) (mkEnv_ok (cons := []) trivial []) Tryz.func40 rfl (by kernel_rfl) (by exact trivial) (fun x y h => (codeS_run x).trans h)

end Rx
end Go.Proofs.YtonbgpliomhboaaGreatDoor

namespace Go.Proofs.YtonbgpliomhboaaGreatDoor
namespace Rx
open Go

end Rx
end Go.Proofs.YtonbgpliomhboaaGreatDoor

namespace Go.Proofs.YtonbgpliomhboaaGreatDoor
namespace Rx
open Go








end Rx
end Go.Proofs.YtonbgpliomhboaaGreatDoor

namespace Go.Proofs.YtonbgpliomhboaaGreatDoor
namespace Rx
open Go

end Rx
end Go.Proofs.YtonbgpliomhboaaGreatDoor

namespace Go.Proofs.YtonbgpliomhboaaGreatDoor
namespace Rx
open Go

end Rx
end Go.Proofs.YtonbgpliomhboaaGreatDoor

namespace Go.Proofs.YtonbgpliomhboaaGreatDoor
namespace Rx
open Go

end Rx
end Go.Proofs.YtonbgpliomhboaaGreatDoor

namespace Go.Proofs.YtonbgpliomhboaaGreatDoor
namespace Rx
open Go










def validPairI : (Int × Int) → Option (Bool) :=
fun x => ob (toothedI x.1) fun y => br y (ob (toothedI x.2) fun y => some y) (some false)
def okPairS : (Int × Int) → Option (Bool) :=
fun x => ob (teethS x.1) fun y => br y (ob (teethS x.2) fun y => some y) (some false)
def okPairS_con : Con := ⟨[.pair (i64) (i64)], [.d (.bool)], okPairS⟩
theorem okPairS_run (x : Dens [.pair (i64) (i64)]) : runFn (mkEnv [(95, teethS_con)] []) Tryz.f76 [.pair (i64) (i64)] [.d (.bool)] x = okPairS x := by kernel_rfl
theorem okPairS_ok : okPairS_con.ok Tryz.prog 76 := fn_ok (con := okPairS_con) (mkEnv_ok (cons := [(95, teethS_con)]) ⟨teethS_ok, trivial⟩ []) Tryz.func76 rfl (by kernel_rfl) (by exact trivial) (fun x y h => (okPairS_run x).trans h)

def okTrainSL_vars : Vars := [(0, .val (.slice (.pair (i64) (i64)))), (2, .val (.bool)), (3, .val (i64))]
def okTrainSL_step : List ((Int × Int)) × Bool × Int → Option (LRes × (List ((Int × Int)) × Bool × Int)) :=
fun x =>
  br (decide (x.snd.2 < (↑x.1.length : Int)))
    (ob (idx x.1 x.snd.2) fun y =>
      ob (okPairS (y.1, y.2)) fun y =>
        br (!y) (some (LRes.ret, x.1, false, x.snd.2))
          (some (LRes.next, x.1, x.snd.1, IntKind.i64.wrap (x.snd.2 + (1 : Int)))))
    (some (LRes.out, x.1, x.snd.1, x.snd.2))
def okTrainSL_fuel : List ((Int × Int)) × Bool × Int → Nat := fun s => (s.1.length - s.2.2.toNat) + 1
def okTrainSL : List ((Int × Int)) × Bool × Int → Option (Bool × (List ((Int × Int)) × Bool × Int)) := fun s => iter okTrainSL_step (okTrainSL_fuel s) s
def okTrainSL_L : LoopC := ⟨okTrainSL_vars, 0, .two okTrainSL⟩
noncomputable def okTrainSL_key : Nat := key (loopAt Tryz.f39 0)
theorem okTrainSL_stepok (x : okTrainSL_vars.den) : stepOf (mkEnv [(76, okPairS_con)] []) Tryz.f39.ntmps okTrainSL_vars 0 (loopAt Tryz.f39 0) x = okTrainSL_step x := by kernel_rfl
theorem okTrainSL_ok : LoopOK Tryz.prog Tryz.f39.ntmps okTrainSL_L (loopAt Tryz.f39 0)   := iter_loop (n := Tryz.f39.ntmps) (vs := okTrainSL_vars) (out := 0) (body := loopAt Tryz.f39 0) (mkEnv_ok (cons := [(76, okPairS_con)]) ⟨okPairS_ok, trivial⟩ []) okTrainSL_step okTrainSL_fuel (by exact trivial) okTrainSL_stepok

def okTrainS : List ((Int × Int)) → Option (Bool) :=
fun x =>
  ob (okTrainSL (x, false, (0 : Int))) fun r =>
    br r.1 (some (decide ((↑(List.length r.snd.1) : Int) ≤ (5 : Int)))) (some r.snd.snd.1)
def okTrainS_con : Con := ⟨[.slice (.pair (i64) (i64))], [.d (.bool)], okTrainS⟩
theorem okTrainS_run (x : Dens [.slice (.pair (i64) (i64))]) : runFn (mkEnv [] [(okTrainSL_key, okTrainSL_L)]) Tryz.f39 [.slice (.pair (i64) (i64))] [.d (.bool)] x = okTrainS x := by kernel_rfl
theorem okTrainS_ok : okTrainS_con.ok Tryz.prog 39 := fn_ok (con := okTrainS_con) (mkEnv_ok (cons := []) trivial [(okTrainSL_key, okTrainSL_L)]) Tryz.func39 rfl (by kernel_rfl) (by exact ⟨okTrainSL_ok, trivial⟩) (fun x y h => (okTrainS_run x).trans h)











def trainRatSL_vars : Vars := [(0, .val (.slice (.pair (i64) (i64)))), (2, .box 0 45 (.pair (i64) (i64))), (3, .val (.bool)), (4, .box 0 45 (.pair (i64) (i64))), (5, .val (i64))]
def trainRatSL_step : List ((Int × Int)) × (Int × Int) × Bool × (Int × Int) × Int → Option (LRes × (List ((Int × Int)) × (Int × Int) × Bool × (Int × Int) × Int)) :=
fun x =>
  br (decide (x.snd.snd.snd.2 < (↑x.1.length : Int)))
    (ob (idx x.1 x.snd.snd.snd.2) fun y =>
      ob (idx x.1 x.snd.snd.snd.2) fun y_1 =>
        ob (mkS (IntKind.i64.wrap ((0 : Int) - y.1), y_1.2)) fun y =>
          ob (mulS ((x.snd.snd.snd.fst.1, x.snd.snd.snd.fst.2), y.fst.1, y.fst.2)) fun y =>
            br (!y.2)
              (some
                (LRes.ret, x.1, ((0 : Int), (0 : Int)), false, (x.snd.snd.snd.fst.1, x.snd.snd.snd.fst.2),
                  x.snd.snd.snd.2))
              (some
                (LRes.next, x.1, (x.snd.fst.1, x.snd.fst.2), x.snd.snd.1, (y.fst.1, y.fst.2),
                  IntKind.i64.wrap (x.snd.snd.snd.2 + (1 : Int)))))
    (some
      (LRes.out, x.1, (x.snd.fst.1, x.snd.fst.2), x.snd.snd.1, (x.snd.snd.snd.fst.1, x.snd.snd.snd.fst.2),
        x.snd.snd.snd.2))
def trainRatSL_fuel : List ((Int × Int)) × (Int × Int) × Bool × (Int × Int) × Int → Nat := fun s => (s.1.length - s.2.2.2.2.toNat) + 1
def trainRatSL : List ((Int × Int)) × (Int × Int) × Bool × (Int × Int) × Int → Option (Bool × (List ((Int × Int)) × (Int × Int) × Bool × (Int × Int) × Int)) := fun s => iter trainRatSL_step (trainRatSL_fuel s) s
def trainRatSL_L : LoopC := ⟨trainRatSL_vars, 0, .two trainRatSL⟩
noncomputable def trainRatSL_key : Nat := key (loopAt Tryz.f41 0)
theorem trainRatSL_stepok (x : trainRatSL_vars.den) : stepOf (mkEnv [(77, mkS_con), (78, mulS_con)] []) Tryz.f41.ntmps trainRatSL_vars 0 (loopAt Tryz.f41 0) x = trainRatSL_step x := by kernel_rfl
theorem trainRatSL_ok : LoopOK Tryz.prog Tryz.f41.ntmps trainRatSL_L (loopAt Tryz.f41 0)   := iter_loop (n := Tryz.f41.ntmps) (vs := trainRatSL_vars) (out := 0) (body := loopAt Tryz.f41 0) (mkEnv_ok (cons := [(77, mkS_con), (78, mulS_con)]) ⟨mkS_ok, mulS_ok, trivial⟩ []) trainRatSL_step trainRatSL_fuel (by exact trivial) trainRatSL_stepok

def trainRatS : List ((Int × Int)) → Option ((Int × Int) × Bool) :=
fun x =>
  ob (wholeS (1 : Int)) fun y =>
    ob (trainRatSL (x, ((0 : Int), (0 : Int)), false, (y.1, y.2), (0 : Int))) fun r =>
      br r.1 (some ((r.snd.snd.snd.snd.fst.1, r.snd.snd.snd.snd.fst.2), true))
        (some ((r.snd.snd.fst.1, r.snd.snd.fst.2), r.snd.snd.snd.1))
def trainRatS_con : Con := ⟨[.slice (.pair (i64) (i64))], [.d (.pair (i64) (i64)), .d (.bool)], trainRatS⟩
theorem trainRatS_run (x : Dens [.slice (.pair (i64) (i64))]) : runFn (mkEnv [(73, wholeS_con)] [(trainRatSL_key, trainRatSL_L)]) Tryz.f41 [.slice (.pair (i64) (i64))] [.d (.pair (i64) (i64)), .d (.bool)] x = trainRatS x := by kernel_rfl
theorem trainRatS_ok : trainRatS_con.ok Tryz.prog 41 := fn_ok (con := trainRatS_con) (mkEnv_ok (cons := [(73, wholeS_con)]) ⟨wholeS_ok, trivial⟩ [(trainRatSL_key, trainRatSL_L)]) Tryz.func41 rfl (by kernel_rfl) (by exact ⟨trainRatSL_ok, trivial⟩) (fun x y h => (trainRatS_run x).trans h)











end Rx
end Go.Proofs.YtonbgpliomhboaaGreatDoor

namespace Go.Proofs.YtonbgpliomhboaaGreatDoor
namespace Rx
open Go

/-! ### Limits -/
/-! ### Trains -/
def okP (y : Int × Int) : Bool := (decide (6 ≤ y.1) && decide (y.1 ≤ 240)) && (decide (6 ≤ y.2) && decide (y.2 ≤ 240))
theorem validPairI_eq (y : Int × Int) : validPairI y = some (okP y) := by
  unfold validPairI okP
  simp only [toothed_eq, ob_s]
  cases (decide (6 ≤ y.1) && decide (y.1 ≤ 240)) <;> rfl
theorem okPairS_eq (y : Int × Int) : okPairS y = some (okP y) := by
  unfold okPairS
  rw [teeth_eq]
  exact validPairI_eq y
theorem okTrainS_eq {l : List (Int × Int)} (hl : l.length ≤ 4294967296) : okTrainS l = some (l.all okP && decide ((l.length : Int) ≤ 5)) := by
  obtain ⟨s, h1, h2, h3⟩ := all_loop (step := okTrainSL_step) (l := l) (fun i => (l, false, i)) okP (fun s => s.1 = l) (fun s => s.2.1 = false)
    (fun i y h0 h1 hy hp => by
      unfold okTrainSL_step
      dsimp only
      rw [br_t (by simpa using h1), hy]
      show ob (okPairS y) _ = _
      rw [okPairS_eq, hp]
      show some (LRes.next, l, false, IntKind.i64.wrap (i + 1)) = _
      rw [w64 (by omega) (by omega)])
    (fun i y h0 h1 hy hp => by
      unfold okTrainSL_step
      dsimp only
      rw [br_t (by simpa using h1), hy]
      show ∃ s, ob (okPairS y) _ = _ ∧ _
      rw [okPairS_eq, hp]
      exact ⟨_, rfl, rfl⟩)
    ⟨_, by unfold okTrainSL_step; dsimp only; rw [br_f (by simp)], rfl⟩ (n := l.length - (0 : Int).toNat + 1) (by simp)
  have h1' : okTrainSL (l, false, 0) = some (l.all okP, s) := h1
  unfold okTrainS
  rw [h1']
  cases ha : l.all okP with
  | true =>
    show some (decide ((s.1.length : Int) ≤ 5)) = _
    rw [h2 ha, Bool.true_and]
  | false =>
    show some s.2.1 = _
    rw [h3 ha, Bool.false_and]

end Rx
end Go.Proofs.YtonbgpliomhboaaGreatDoor
