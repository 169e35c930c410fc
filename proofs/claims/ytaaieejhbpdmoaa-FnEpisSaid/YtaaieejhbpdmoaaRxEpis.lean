/- What the functions of RxEpis come to, and their contracts. No conditions. -/
import Derived.Test.YtaaieejhbpdmoaaRxEnv
import Derived.Test.YtaaieejhbpdmoaaRxEpi
namespace Go.Proofs.Ytaaieejhbpdmoaa
namespace Rx
open Go

def eqEpi : (Int × Int × Int × Int) × (Int × Int × Int × Int) → Option (Bool) :=
fun x =>
  br (x.fst.1 != x.snd.1) (some false)
    (br (x.fst.snd.1 != x.snd.snd.1) (some false)
      (br (x.fst.snd.snd.1 != x.snd.snd.snd.1) (some false)
        (br (x.fst.snd.snd.2 != x.snd.snd.snd.2) (some false) (some true))))
def eqEpi_con : Con := ⟨[.pair (i64) (.pair (i64) (.pair (i64) (i64))), .pair (i64) (.pair (i64) (.pair (i64) (i64)))], [.d (.bool)], eqEpi⟩
theorem eqEpi_run (x : Dens [.pair (i64) (.pair (i64) (.pair (i64) (i64))), .pair (i64) (.pair (i64) (.pair (i64) (i64)))]) : runFn (mkEnv [] []) Try.f62 [.pair (i64) (.pair (i64) (.pair (i64) (i64))), .pair (i64) (.pair (i64) (.pair (i64) (i64)))] [.d (.bool)] x = eqEpi x := by kernel_rfl
theorem eqEpi_ok : eqEpi_con.ok Try.prog 62 := fn_ok (con := eqEpi_con) (mkEnv_ok (cons := []) trivial []) Try.func62 rfl (by kernel_rfl) (by exact trivial) (fun x y h => (eqEpi_run x).trans h)

def eqEpiSL_vars : Vars := [(0, .val (.slice (.pair (i64) (.pair (i64) (.pair (i64) (i64)))))), (1, .val (.slice (.pair (i64) (.pair (i64) (.pair (i64) (i64)))))), (4, .val (.bool)), (5, .val (i64))]
def eqEpiSL_step : List ((Int × Int × Int × Int)) × List ((Int × Int × Int × Int)) × Bool × Int → Option (LRes × (List ((Int × Int × Int × Int)) × List ((Int × Int × Int × Int)) × Bool × Int)) :=
fun x =>
  br (decide (x.snd.snd.2 < (↑x.1.length : Int)))
    (ob (idx x.1 x.snd.snd.2) fun y =>
      ob (idx x.snd.1 x.snd.snd.2) fun y_1 =>
        ob (eqEpi ((y.1, y.snd.1, y.snd.snd.1, y.snd.snd.2), y_1.1, y_1.snd.1, y_1.snd.snd.1, y_1.snd.snd.2)) fun y =>
          br (!y) (some (LRes.ret, x.1, x.snd.1, false, x.snd.snd.2))
            (some (LRes.next, x.1, x.snd.1, x.snd.snd.1, IntKind.i64.wrap (x.snd.snd.2 + (1 : Int)))))
    (some (LRes.out, x.1, x.snd.1, x.snd.snd.1, x.snd.snd.2))
def eqEpiSL_fuel : List ((Int × Int × Int × Int)) × List ((Int × Int × Int × Int)) × Bool × Int → Nat := fun s => (s.1.length - s.2.2.2.toNat) + 1
def eqEpiSL : List ((Int × Int × Int × Int)) × List ((Int × Int × Int × Int)) × Bool × Int → Option (Bool × (List ((Int × Int × Int × Int)) × List ((Int × Int × Int × Int)) × Bool × Int)) := fun s => iter eqEpiSL_step (eqEpiSL_fuel s) s
def eqEpiSL_L : LoopC := ⟨eqEpiSL_vars, 0, .two eqEpiSL⟩
noncomputable def eqEpiSL_key : Nat := key (loopAt Try.f30 0)
theorem eqEpiSL_stepok (x : eqEpiSL_vars.den) : stepOf (mkEnv [(62, eqEpi_con)] []) Try.f30.ntmps eqEpiSL_vars 0 (loopAt Try.f30 0) x = eqEpiSL_step x := by kernel_rfl
theorem eqEpiSL_ok : LoopOK Try.prog Try.f30.ntmps eqEpiSL_L (loopAt Try.f30 0)   := iter_loop (n := Try.f30.ntmps) (vs := eqEpiSL_vars) (out := 0) (body := loopAt Try.f30 0) (mkEnv_ok (cons := [(62, eqEpi_con)]) ⟨eqEpi_ok, trivial⟩ []) eqEpiSL_step eqEpiSL_fuel (by exact trivial) eqEpiSL_stepok

def eqEpiS : List ((Int × Int × Int × Int)) × List ((Int × Int × Int × Int)) → Option (Bool) :=
fun x =>
  br ((↑x.1.length : Int) != (↑x.2.length : Int)) (some false)
    (ob (eqEpiSL (x.1, x.2, false, (0 : Int))) fun r => br r.1 (some true) (some r.snd.snd.snd.1))
def eqEpiS_con : Con := ⟨[.slice (.pair (i64) (.pair (i64) (.pair (i64) (i64)))), .slice (.pair (i64) (.pair (i64) (.pair (i64) (i64))))], [.d (.bool)], eqEpiS⟩
theorem eqEpiS_run (x : Dens [.slice (.pair (i64) (.pair (i64) (.pair (i64) (i64)))), .slice (.pair (i64) (.pair (i64) (.pair (i64) (i64))))]) : runFn (mkEnv [] [(eqEpiSL_key, eqEpiSL_L)]) Try.f30 [.slice (.pair (i64) (.pair (i64) (.pair (i64) (i64)))), .slice (.pair (i64) (.pair (i64) (.pair (i64) (i64))))] [.d (.bool)] x = eqEpiS x := by kernel_rfl
theorem eqEpiS_ok : eqEpiS_con.ok Try.prog 30 := fn_ok (con := eqEpiS_con) (mkEnv_ok (cons := []) trivial [(eqEpiSL_key, eqEpiSL_L)]) Try.func30 rfl (by kernel_rfl) (by exact ⟨eqEpiSL_ok, trivial⟩) (fun x y h => (eqEpiS_run x).trans h)

def markEpiSL_vars : Vars := [(0, .row 2 25 (.pair (i64) (.pair (i64) (.pair (i64) (i64))))), (1, .val (i64)), (5, .val (i64))]
def markEpiSL_step : List ((Int × Int × Int × Int)) × Int × Int → Option (LRes × (List ((Int × Int × Int × Int)) × Int × Int)) :=
fun x =>
  br (decide (x.snd.2 < (↑x.1.length : Int)))
    (ob (idx x.1 x.snd.2) fun x_1 =>
      ob (x.1.get?Internal (Int.toNat x.snd.2)) fun x_2 =>
        ob (idx (x.1.set (Int.toNat x.snd.2) (x.snd.1, x_2.snd.1, x_2.snd.snd.1, x_2.snd.snd.2)) x.snd.2) fun x_3 =>
          ob
            ((x.1.set (Int.toNat x.snd.2) (x.snd.1, x_2.snd.1, x_2.snd.snd.1, x_2.snd.snd.2)).get?Internal
              (Int.toNat x.snd.2))
            fun x_4 =>
            ob
              (idx
                ((x.1.set (Int.toNat x.snd.2) (x.snd.1, x_2.snd.1, x_2.snd.snd.1, x_2.snd.snd.2)).set
                  (Int.toNat x.snd.2) (x_4.1, IntKind.i64.wrap (x.snd.1 + (1 : Int)), x_4.snd.snd.1, x_4.snd.snd.2))
                x.snd.2)
              fun x_5 =>
              ob
                (((x.1.set (Int.toNat x.snd.2) (x.snd.1, x_2.snd.1, x_2.snd.snd.1, x_2.snd.snd.2)).set
                      (Int.toNat x.snd.2)
                      (x_4.1, IntKind.i64.wrap (x.snd.1 + (1 : Int)), x_4.snd.snd.1, x_4.snd.snd.2)).get?Internal
                  (Int.toNat x.snd.2))
                fun x_6 =>
                ob
                  (idx
                    (((x.1.set (Int.toNat x.snd.2) (x.snd.1, x_2.snd.1, x_2.snd.snd.1, x_2.snd.snd.2)).set
                          (Int.toNat x.snd.2)
                          (x_4.1, IntKind.i64.wrap (x.snd.1 + (1 : Int)), x_4.snd.snd.1, x_4.snd.snd.2)).set
                      (Int.toNat x.snd.2)
                      (x_6.1, x_6.snd.1, IntKind.i64.wrap (IntKind.i64.wrap (x.snd.1 + (1 : Int)) + (1 : Int)),
                        x_6.snd.snd.2))
                    x.snd.2)
                  fun x_7 =>
                  ob
                    ((((x.1.set (Int.toNat x.snd.2) (x.snd.1, x_2.snd.1, x_2.snd.snd.1, x_2.snd.snd.2)).set
                              (Int.toNat x.snd.2)
                              (x_4.1, IntKind.i64.wrap (x.snd.1 + (1 : Int)), x_4.snd.snd.1, x_4.snd.snd.2)).set
                          (Int.toNat x.snd.2)
                          (x_6.1, x_6.snd.1, IntKind.i64.wrap (IntKind.i64.wrap (x.snd.1 + (1 : Int)) + (1 : Int)),
                            x_6.snd.snd.2)).get?Internal
                      (Int.toNat x.snd.2))
                    fun x_8 =>
                    some
                      (LRes.next,
                        (((x.1.set (Int.toNat x.snd.2) (x.snd.1, x_2.snd.1, x_2.snd.snd.1, x_2.snd.snd.2)).set
                                  (Int.toNat x.snd.2)
                                  (x_4.1, IntKind.i64.wrap (x.snd.1 + (1 : Int)), x_4.snd.snd.1, x_4.snd.snd.2)).set
                              (Int.toNat x.snd.2)
                              (x_6.1, x_6.snd.1, IntKind.i64.wrap (IntKind.i64.wrap (x.snd.1 + (1 : Int)) + (1 : Int)),
                                x_6.snd.snd.2)).set
                          (Int.toNat x.snd.2)
                          (x_8.1, x_8.snd.1, x_8.snd.snd.1,
                            IntKind.i64.wrap
                              (IntKind.i64.wrap (IntKind.i64.wrap (x.snd.1 + (1 : Int)) + (1 : Int)) + (1 : Int))),
                        IntKind.i64.wrap
                          (IntKind.i64.wrap
                              (IntKind.i64.wrap (IntKind.i64.wrap (x.snd.1 + (1 : Int)) + (1 : Int)) + (1 : Int)) +
                            (1 : Int)),
                        IntKind.i64.wrap (x.snd.2 + (1 : Int))))
    (some (LRes.out, x.1, x.snd.1, x.snd.2))
def markEpiSL_fuel : List ((Int × Int × Int × Int)) × Int × Int → Nat := fun s => (s.1.length - s.2.2.toNat) + 1
def markEpiSL : List ((Int × Int × Int × Int)) × Int × Int → Option (List ((Int × Int × Int × Int)) × Int × Int) := fun s => iterP markEpiSL_step (markEpiSL_fuel s) s
def markEpiSL_L : LoopC := ⟨markEpiSL_vars, 0, .plain markEpiSL⟩
noncomputable def markEpiSL_key : Nat := key (loopAt Try.f31 0)
theorem markEpiSL_stepok (x : markEpiSL_vars.den) : stepOf (mkEnv [] []) Try.f31.ntmps markEpiSL_vars 0 (loopAt Try.f31 0) x = markEpiSL_step x := by kernel_rfl
theorem markEpiSL_ok : LoopOK Try.prog Try.f31.ntmps markEpiSL_L (loopAt Try.f31 0)   := iterP_loop (n := Try.f31.ntmps) (vs := markEpiSL_vars) (out := 0) (body := loopAt Try.f31 0) (mkEnv_ok (cons := []) trivial []) markEpiSL_step markEpiSL_fuel (by exact trivial) markEpiSL_stepok

def markEpiS : List ((Int × Int × Int × Int)) × Int → Option ((Int) × (List ((Int × Int × Int × Int)) × Int)) :=
fun x => ob (markEpiSL (x.1, x.2, (0 : Int))) fun r => some (r.snd.1, r.1, x.2)
def markEpiS_con : MCon := ⟨[.v (.row 25 (.pair (i64) (.pair (i64) (.pair (i64) (i64))))), .v (.d (i64))], [.d (i64)], markEpiS⟩
theorem markEpiS_run (x : ADens [.v (.row 25 (.pair (i64) (.pair (i64) (.pair (i64) (i64))))), .v (.d (i64))]) : runFnM (mkEnv [] [(markEpiSL_key, markEpiSL_L)]) Try.f31 [.v (.row 25 (.pair (i64) (.pair (i64) (.pair (i64) (i64))))), .v (.d (i64))] [.d (i64)] x = markEpiS x := by kernel_rfl
theorem markEpiS_ok : markEpiS_con.ok Try.prog 31 := fnM_ok (con := markEpiS_con) (mkEnv_ok (cons := []) trivial [(markEpiSL_key, markEpiSL_L)]) Try.func31 rfl (by kernel_rfl) (by exact ⟨markEpiSL_ok, trivial⟩) (fun x y h => (markEpiS_run x).trans h)

def heldEpiSL_vars : Vars := [(0, .val (.slice (.pair (i64) (.pair (i64) (.pair (i64) (i64)))))), (1, .val (i64)), (4, .val (i64)), (5, .val (i64))]
def heldEpiSL_step : List ((Int × Int × Int × Int)) × Int × Int × Int → Option (LRes × (List ((Int × Int × Int × Int)) × Int × Int × Int)) :=
fun x =>
  br (decide (x.snd.snd.2 < (↑x.1.length : Int)))
    (ob (idx x.1 x.snd.snd.2) fun y =>
      br (y.1 != x.snd.1) (some (LRes.ret, x.1, x.snd.1, (-1 : Int), x.snd.snd.2))
        (ob (idx x.1 x.snd.snd.2) fun y =>
          br (y.snd.1 != IntKind.i64.wrap (x.snd.1 + (1 : Int)))
            (some (LRes.ret, x.1, IntKind.i64.wrap (x.snd.1 + (1 : Int)), (-1 : Int), x.snd.snd.2))
            (ob (idx x.1 x.snd.snd.2) fun y =>
              br (y.snd.snd.1 != IntKind.i64.wrap (IntKind.i64.wrap (x.snd.1 + (1 : Int)) + (1 : Int)))
                (some
                  (LRes.ret, x.1, IntKind.i64.wrap (IntKind.i64.wrap (x.snd.1 + (1 : Int)) + (1 : Int)), (-1 : Int),
                    x.snd.snd.2))
                (ob (idx x.1 x.snd.snd.2) fun y =>
                  br
                    (y.snd.snd.2 !=
                      IntKind.i64.wrap
                        (IntKind.i64.wrap (IntKind.i64.wrap (x.snd.1 + (1 : Int)) + (1 : Int)) + (1 : Int)))
                    (some
                      (LRes.ret, x.1,
                        IntKind.i64.wrap
                          (IntKind.i64.wrap (IntKind.i64.wrap (x.snd.1 + (1 : Int)) + (1 : Int)) + (1 : Int)),
                        (-1 : Int), x.snd.snd.2))
                    (some
                      (LRes.next, x.1,
                        IntKind.i64.wrap
                          (IntKind.i64.wrap
                              (IntKind.i64.wrap (IntKind.i64.wrap (x.snd.1 + (1 : Int)) + (1 : Int)) + (1 : Int)) +
                            (1 : Int)),
                        x.snd.snd.1, IntKind.i64.wrap (x.snd.snd.2 + (1 : Int))))))))
    (some (LRes.out, x.1, x.snd.1, x.snd.snd.1, x.snd.snd.2))
def heldEpiSL_fuel : List ((Int × Int × Int × Int)) × Int × Int × Int → Nat := fun s => (s.1.length - s.2.2.2.toNat) + 1
def heldEpiSL : List ((Int × Int × Int × Int)) × Int × Int × Int → Option (Bool × (List ((Int × Int × Int × Int)) × Int × Int × Int)) := fun s => iter heldEpiSL_step (heldEpiSL_fuel s) s
def heldEpiSL_L : LoopC := ⟨heldEpiSL_vars, 0, .two heldEpiSL⟩
noncomputable def heldEpiSL_key : Nat := key (loopAt Try.f32 0)
theorem heldEpiSL_stepok (x : heldEpiSL_vars.den) : stepOf (mkEnv [] []) Try.f32.ntmps heldEpiSL_vars 0 (loopAt Try.f32 0) x = heldEpiSL_step x := by kernel_rfl
theorem heldEpiSL_ok : LoopOK Try.prog Try.f32.ntmps heldEpiSL_L (loopAt Try.f32 0)   := iter_loop (n := Try.f32.ntmps) (vs := heldEpiSL_vars) (out := 0) (body := loopAt Try.f32 0) (mkEnv_ok (cons := []) trivial []) heldEpiSL_step heldEpiSL_fuel (by exact trivial) heldEpiSL_stepok

def heldEpiS : List ((Int × Int × Int × Int)) × Int → Option (Int) :=
fun x => ob (heldEpiSL (x.1, x.2, (0 : Int), (0 : Int))) fun r => br r.1 (some r.snd.snd.1) (some r.snd.snd.snd.1)
def heldEpiS_con : Con := ⟨[.slice (.pair (i64) (.pair (i64) (.pair (i64) (i64)))), i64], [.d (i64)], heldEpiS⟩
theorem heldEpiS_run (x : Dens [.slice (.pair (i64) (.pair (i64) (.pair (i64) (i64)))), i64]) : runFn (mkEnv [] [(heldEpiSL_key, heldEpiSL_L)]) Try.f32 [.slice (.pair (i64) (.pair (i64) (.pair (i64) (i64)))), i64] [.d (i64)] x = heldEpiS x := by kernel_rfl
theorem heldEpiS_ok : heldEpiS_con.ok Try.prog 32 := fn_ok (con := heldEpiS_con) (mkEnv_ok (cons := []) trivial [(heldEpiSL_key, heldEpiSL_L)]) Try.func32 rfl (by kernel_rfl) (by exact ⟨heldEpiSL_ok, trivial⟩) (fun x y h => (heldEpiS_run x).trans h)

def episIP_vars : Vars := [(1, .val (i64)), (2, .val (i64)), (3, .val (i64)), (4, .box 0 34 (.pair (i64) (i64))), (8, .row 0 25 (.pair (i64) (.pair (i64) (.pair (i64) (i64))))), (9, .val (i64)), (10, .row 0 25 (.pair (i64) (.pair (i64) (.pair (i64) (i64))))), (11, .val (i64)), (12, .val (i64))]
def episIP_step : Int × Int × Int × (Int × Int) × List ((Int × Int × Int × Int)) × Int × List ((Int × Int × Int × Int)) × Int × Int → Option (LRes × (Int × Int × Int × (Int × Int) × List ((Int × Int × Int × Int)) × Int × List ((Int × Int × Int × Int)) × Int × Int)) :=
fun x =>
  br (decide (x.snd.snd.snd.snd.snd.snd.snd.2 ≤ x.snd.1))
    (ob
      (validEpiI
        (x.snd.snd.snd.snd.snd.snd.snd.1,
          IntKind.i64.wrap
            (x.snd.snd.snd.snd.snd.snd.snd.1 + IntKind.i64.wrap ((2 : Int) * x.snd.snd.snd.snd.snd.snd.snd.2)),
          x.snd.snd.snd.snd.snd.snd.snd.2, x.snd.snd.1))
      fun y =>
      br (!y)
        (some
          (LRes.next, x.1, x.snd.1, x.snd.snd.1, (x.snd.snd.snd.fst.1, x.snd.snd.snd.fst.2), x.snd.snd.snd.snd.1,
            x.snd.snd.snd.snd.snd.1, x.snd.snd.snd.snd.snd.snd.1, x.snd.snd.snd.snd.snd.snd.snd.1,
            IntKind.i64.wrap (x.snd.snd.snd.snd.snd.snd.snd.2 + (1 : Int))))
        (br
          (IntKind.i64.wrap (x.snd.snd.snd.snd.snd.snd.snd.1 * x.snd.snd.snd.fst.2) !=
            IntKind.i64.wrap
              (x.snd.snd.snd.fst.1 *
                IntKind.i64.wrap
                  (x.snd.snd.snd.snd.snd.snd.snd.1 +
                    IntKind.i64.wrap
                      (x.snd.snd.snd.snd.snd.snd.snd.1 +
                        IntKind.i64.wrap ((2 : Int) * x.snd.snd.snd.snd.snd.snd.snd.2)))))
          (some
            (LRes.next, x.1, x.snd.1, x.snd.snd.1, (x.snd.snd.snd.fst.1, x.snd.snd.snd.fst.2), x.snd.snd.snd.snd.1,
              x.snd.snd.snd.snd.snd.1, x.snd.snd.snd.snd.snd.snd.1, x.snd.snd.snd.snd.snd.snd.snd.1,
              IntKind.i64.wrap (x.snd.snd.snd.snd.snd.snd.snd.2 + (1 : Int))))
          (br ((↑(List.length x.snd.snd.snd.snd.snd.snd.1) : Int) == (20 : Int))
            (some
              (LRes.ret, x.1, x.snd.1, x.snd.snd.1, (x.snd.snd.snd.fst.1, x.snd.snd.snd.fst.2), [], (5 : Int),
                x.snd.snd.snd.snd.snd.snd.1, x.snd.snd.snd.snd.snd.snd.snd.1, x.snd.snd.snd.snd.snd.snd.snd.2))
            (br
              (decide
                (List.length x.snd.snd.snd.snd.snd.snd.1 +
                    [(x.snd.snd.snd.snd.snd.snd.snd.1,
                          IntKind.i64.wrap
                            (x.snd.snd.snd.snd.snd.snd.snd.1 +
                              IntKind.i64.wrap ((2 : Int) * x.snd.snd.snd.snd.snd.snd.snd.2)),
                          x.snd.snd.snd.snd.snd.snd.snd.2, x.snd.snd.1)].length ≤
                  (4294967296 : Nat)))
              (some
                (LRes.next, x.1, x.snd.1, x.snd.snd.1, (x.snd.snd.snd.fst.1, x.snd.snd.snd.fst.2), x.snd.snd.snd.snd.1,
                  x.snd.snd.snd.snd.snd.1,
                  x.snd.snd.snd.snd.snd.snd.1 ++
                    [(x.snd.snd.snd.snd.snd.snd.snd.1,
                        IntKind.i64.wrap
                          (x.snd.snd.snd.snd.snd.snd.snd.1 +
                            IntKind.i64.wrap ((2 : Int) * x.snd.snd.snd.snd.snd.snd.snd.2)),
                        x.snd.snd.snd.snd.snd.snd.snd.2, x.snd.snd.1)],
                  x.snd.snd.snd.snd.snd.snd.snd.1, IntKind.i64.wrap (x.snd.snd.snd.snd.snd.snd.snd.2 + (1 : Int))))
              none))))
    (some
      (LRes.out, x.1, x.snd.1, x.snd.snd.1, (x.snd.snd.snd.fst.1, x.snd.snd.snd.fst.2), x.snd.snd.snd.snd.1,
        x.snd.snd.snd.snd.snd.1, x.snd.snd.snd.snd.snd.snd.1, x.snd.snd.snd.snd.snd.snd.snd.1,
        x.snd.snd.snd.snd.snd.snd.snd.2))
def episIP_fuel : Int × Int × Int × (Int × Int) × List ((Int × Int × Int × Int)) × Int × List ((Int × Int × Int × Int)) × Int × Int → Nat := fun s => (s.2.1 - s.2.2.2.2.2.2.2.2).toNat + 2
def episIP : Int × Int × Int × (Int × Int) × List ((Int × Int × Int × Int)) × Int × List ((Int × Int × Int × Int)) × Int × Int → Option (Bool × (Int × Int × Int × (Int × Int) × List ((Int × Int × Int × Int)) × Int × List ((Int × Int × Int × Int)) × Int × Int)) := fun s => iter episIP_step (episIP_fuel s) s
def episIP_L : LoopC := ⟨episIP_vars, 2, .two episIP⟩
noncomputable def episIP_key : Nat := key (loopIn (loopAt Try.f29 0) 0)
theorem episIP_stepok (x : episIP_vars.den) : stepOf (mkEnv [(16, validEpiI_con)] []) Try.f29.ntmps episIP_vars 2 (loopIn (loopAt Try.f29 0) 0) x = episIP_step x := by kernel_rfl
theorem episIP_ok : LoopOK Try.prog Try.f29.ntmps episIP_L (loopIn (loopAt Try.f29 0) 0)   := iter_loop (n := Try.f29.ntmps) (vs := episIP_vars) (out := 2) (body := loopIn (loopAt Try.f29 0) 0) (mkEnv_ok (cons := [(16, validEpiI_con)]) ⟨validEpiI_ok, trivial⟩ []) episIP_step episIP_fuel (by exact trivial) episIP_stepok

def episIS_vars : Vars := [(1, .val (i64)), (2, .val (i64)), (3, .val (i64)), (4, .box 0 34 (.pair (i64) (i64))), (8, .row 0 25 (.pair (i64) (.pair (i64) (.pair (i64) (i64))))), (9, .val (i64)), (10, .row 0 25 (.pair (i64) (.pair (i64) (.pair (i64) (i64))))), (11, .val (i64))]
def episIS_step : Int × Int × Int × (Int × Int) × List ((Int × Int × Int × Int)) × Int × List ((Int × Int × Int × Int)) × Int → Option (LRes × (Int × Int × Int × (Int × Int) × List ((Int × Int × Int × Int)) × Int × List ((Int × Int × Int × Int)) × Int)) :=
fun x =>
  br (decide (x.snd.snd.snd.snd.snd.snd.2 ≤ x.snd.1))
    (ob
      (episIP
        (x.1, x.snd.1, x.snd.snd.1, (x.snd.snd.snd.fst.1, x.snd.snd.snd.fst.2), x.snd.snd.snd.snd.1,
          x.snd.snd.snd.snd.snd.1, x.snd.snd.snd.snd.snd.snd.1, x.snd.snd.snd.snd.snd.snd.2, x.1))
      fun r =>
      br r.1
        (some
          (LRes.next, r.snd.1, r.snd.snd.1, r.snd.snd.snd.1, (r.snd.snd.snd.snd.fst.1, r.snd.snd.snd.snd.fst.2),
            r.snd.snd.snd.snd.snd.1, r.snd.snd.snd.snd.snd.snd.1, r.snd.snd.snd.snd.snd.snd.snd.1,
            IntKind.i64.wrap (r.snd.snd.snd.snd.snd.snd.snd.snd.1 + (1 : Int))))
        (some
          (LRes.ret, r.snd.1, r.snd.snd.1, r.snd.snd.snd.1, (r.snd.snd.snd.snd.fst.1, r.snd.snd.snd.snd.fst.2),
            r.snd.snd.snd.snd.snd.1, r.snd.snd.snd.snd.snd.snd.1, r.snd.snd.snd.snd.snd.snd.snd.1,
            r.snd.snd.snd.snd.snd.snd.snd.snd.1)))
    (some
      (LRes.out, x.1, x.snd.1, x.snd.snd.1, (x.snd.snd.snd.fst.1, x.snd.snd.snd.fst.2), x.snd.snd.snd.snd.1,
        x.snd.snd.snd.snd.snd.1, x.snd.snd.snd.snd.snd.snd.1, x.snd.snd.snd.snd.snd.snd.2))
def episIS_fuel : Int × Int × Int × (Int × Int) × List ((Int × Int × Int × Int)) × Int × List ((Int × Int × Int × Int)) × Int → Nat := fun s => (s.2.1 - s.2.2.2.2.2.2.2).toNat + 2
def episIS : Int × Int × Int × (Int × Int) × List ((Int × Int × Int × Int)) × Int × List ((Int × Int × Int × Int)) × Int → Option (Bool × (Int × Int × Int × (Int × Int) × List ((Int × Int × Int × Int)) × Int × List ((Int × Int × Int × Int)) × Int)) := fun s => iter episIS_step (episIS_fuel s) s
def episIS_L : LoopC := ⟨episIS_vars, 0, .two episIS⟩
noncomputable def episIS_key : Nat := key (loopAt Try.f29 0)
theorem episIS_stepok (x : episIS_vars.den) : stepOf (mkEnv [] [(episIP_key, episIP_L)]) Try.f29.ntmps episIS_vars 0 (loopAt Try.f29 0) x = episIS_step x := by kernel_rfl
theorem episIS_ok : LoopOK Try.prog Try.f29.ntmps episIS_L (loopAt Try.f29 0)   := iter_loop (n := Try.f29.ntmps) (vs := episIS_vars) (out := 0) (body := loopAt Try.f29 0) (mkEnv_ok (cons := []) trivial [(episIP_key, episIP_L)]) episIS_step episIS_fuel (by exact ⟨episIP_ok, trivial⟩) episIS_stepok

def episI : (Int × Int) × Int × Int × Int → Option (List ((Int × Int × Int × Int)) × Int) :=
fun x =>
  ob (validRatI (x.fst.1, x.fst.2)) fun y =>
    br (!y) (some ([], (1 : Int)))
      (ob (withinI (x.snd.1, (6 : Int), x.snd.snd.1)) fun y =>
        br (!y) (some ([], (2 : Int)))
          (br (decide ((240 : Int) < x.snd.snd.1)) (some ([], (2 : Int)))
            (ob (withinI (x.snd.snd.2, (1 : Int), (8 : Int))) fun y =>
              br (!y) (some ([], (2 : Int)))
                (ob (episIS (x.snd.1, x.snd.snd.1, x.snd.snd.2, (x.fst.1, x.fst.2), [], (0 : Int), [], x.snd.1))
                  fun r =>
                  br r.1 (some (r.snd.snd.snd.snd.snd.snd.snd.1, (0 : Int)))
                    (some (r.snd.snd.snd.snd.snd.1, r.snd.snd.snd.snd.snd.snd.1))))))
def episI_con : Con := ⟨[.pair (i64) (i64), i64, i64, i64], [.row 25 (.pair (i64) (.pair (i64) (.pair (i64) (i64)))), .d (i64)], episI⟩
theorem episI_run (x : Dens [.pair (i64) (i64), i64, i64, i64]) : runFn (mkEnv [(56, validRatI_con), (50, withinI_con)] [(episIS_key, episIS_L)]) Try.f29 [.pair (i64) (i64), i64, i64, i64] [.row 25 (.pair (i64) (.pair (i64) (.pair (i64) (i64)))), .d (i64)] x = episI x := by kernel_rfl
theorem episI_ok : episI_con.ok Try.prog 29 := fn_ok (con := episI_con) (mkEnv_ok (cons := [(56, validRatI_con), (50, withinI_con)]) ⟨validRatI_ok, withinI_ok, trivial⟩ [(episIS_key, episIS_L)]) Try.func29 rfl (by kernel_rfl) (by exact ⟨episIS_ok, trivial⟩) (fun x y h => (episI_run x).trans h)

def episSP_vars : Vars := [(1, .val (i64)), (2, .val (i64)), (3, .val (i64)), (4, .box 0 34 (.pair (i64) (i64))), (8, .row 0 25 (.pair (i64) (.pair (i64) (.pair (i64) (i64))))), (9, .val (i64)), (10, .row 0 25 (.pair (i64) (.pair (i64) (.pair (i64) (i64))))), (11, .val (i64)), (12, .val (i64))]
def episSP_step : Int × Int × Int × (Int × Int) × List ((Int × Int × Int × Int)) × Int × List ((Int × Int × Int × Int)) × Int × Int → Option (LRes × (Int × Int × Int × (Int × Int) × List ((Int × Int × Int × Int)) × Int × List ((Int × Int × Int × Int)) × Int × Int)) :=
fun x =>
  br (decide (x.snd.snd.snd.snd.snd.snd.snd.2 ≤ x.snd.1))
    (br
      (IntKind.i64.wrap
          (x.snd.snd.snd.fst.1 *
            IntKind.i64.wrap
              (x.snd.snd.snd.snd.snd.snd.snd.1 +
                IntKind.i64.wrap
                  (x.snd.snd.snd.snd.snd.snd.snd.1 +
                    IntKind.i64.wrap ((2 : Int) * x.snd.snd.snd.snd.snd.snd.snd.2)))) !=
        IntKind.i64.wrap (x.snd.snd.snd.fst.2 * x.snd.snd.snd.snd.snd.snd.snd.1))
      (some
        (LRes.next, x.1, x.snd.1, x.snd.snd.1, (x.snd.snd.snd.fst.1, x.snd.snd.snd.fst.2), x.snd.snd.snd.snd.1,
          x.snd.snd.snd.snd.snd.1, x.snd.snd.snd.snd.snd.snd.1, x.snd.snd.snd.snd.snd.snd.snd.1,
          IntKind.i64.wrap (x.snd.snd.snd.snd.snd.snd.snd.2 + (1 : Int))))
      (ob
        (okEpiS
          (x.snd.snd.snd.snd.snd.snd.snd.1,
            IntKind.i64.wrap
              (x.snd.snd.snd.snd.snd.snd.snd.1 + IntKind.i64.wrap ((2 : Int) * x.snd.snd.snd.snd.snd.snd.snd.2)),
            x.snd.snd.snd.snd.snd.snd.snd.2, x.snd.snd.1))
        fun y =>
        br (!y)
          (some
            (LRes.next, x.1, x.snd.1, x.snd.snd.1, (x.snd.snd.snd.fst.1, x.snd.snd.snd.fst.2), x.snd.snd.snd.snd.1,
              x.snd.snd.snd.snd.snd.1, x.snd.snd.snd.snd.snd.snd.1, x.snd.snd.snd.snd.snd.snd.snd.1,
              IntKind.i64.wrap (x.snd.snd.snd.snd.snd.snd.snd.2 + (1 : Int))))
          (br (decide ((20 : Int) ≤ (↑(List.length x.snd.snd.snd.snd.snd.snd.1) : Int)))
            (some
              (LRes.ret, x.1, x.snd.1, x.snd.snd.1, (x.snd.snd.snd.fst.1, x.snd.snd.snd.fst.2), [], (5 : Int),
                x.snd.snd.snd.snd.snd.snd.1, x.snd.snd.snd.snd.snd.snd.snd.1, x.snd.snd.snd.snd.snd.snd.snd.2))
            (br
              (decide
                (List.length x.snd.snd.snd.snd.snd.snd.1 +
                    [(x.snd.snd.snd.snd.snd.snd.snd.1,
                          IntKind.i64.wrap
                            (x.snd.snd.snd.snd.snd.snd.snd.1 +
                              IntKind.i64.wrap ((2 : Int) * x.snd.snd.snd.snd.snd.snd.snd.2)),
                          x.snd.snd.snd.snd.snd.snd.snd.2, x.snd.snd.1)].length ≤
                  (4294967296 : Nat)))
              (some
                (LRes.next, x.1, x.snd.1, x.snd.snd.1, (x.snd.snd.snd.fst.1, x.snd.snd.snd.fst.2), x.snd.snd.snd.snd.1,
                  x.snd.snd.snd.snd.snd.1,
                  x.snd.snd.snd.snd.snd.snd.1 ++
                    [(x.snd.snd.snd.snd.snd.snd.snd.1,
                        IntKind.i64.wrap
                          (x.snd.snd.snd.snd.snd.snd.snd.1 +
                            IntKind.i64.wrap ((2 : Int) * x.snd.snd.snd.snd.snd.snd.snd.2)),
                        x.snd.snd.snd.snd.snd.snd.snd.2, x.snd.snd.1)],
                  x.snd.snd.snd.snd.snd.snd.snd.1, IntKind.i64.wrap (x.snd.snd.snd.snd.snd.snd.snd.2 + (1 : Int))))
              none))))
    (some
      (LRes.out, x.1, x.snd.1, x.snd.snd.1, (x.snd.snd.snd.fst.1, x.snd.snd.snd.fst.2), x.snd.snd.snd.snd.1,
        x.snd.snd.snd.snd.snd.1, x.snd.snd.snd.snd.snd.snd.1, x.snd.snd.snd.snd.snd.snd.snd.1,
        x.snd.snd.snd.snd.snd.snd.snd.2))
def episSP_fuel : Int × Int × Int × (Int × Int) × List ((Int × Int × Int × Int)) × Int × List ((Int × Int × Int × Int)) × Int × Int → Nat := fun s => (s.2.1 - s.2.2.2.2.2.2.2.2).toNat + 2
def episSP : Int × Int × Int × (Int × Int) × List ((Int × Int × Int × Int)) × Int × List ((Int × Int × Int × Int)) × Int × Int → Option (Bool × (Int × Int × Int × (Int × Int) × List ((Int × Int × Int × Int)) × Int × List ((Int × Int × Int × Int)) × Int × Int)) := fun s => iter episSP_step (episSP_fuel s) s
def episSP_L : LoopC := ⟨episSP_vars, 2, .two episSP⟩
noncomputable def episSP_key : Nat := key (loopIn (loopAt Try.f28 0) 0)
theorem episSP_stepok (x : episSP_vars.den) : stepOf (mkEnv [(45, okEpiS_con)] []) Try.f28.ntmps episSP_vars 2 (loopIn (loopAt Try.f28 0) 0) x = episSP_step x := by kernel_rfl
theorem episSP_ok : LoopOK Try.prog Try.f28.ntmps episSP_L (loopIn (loopAt Try.f28 0) 0)   := iter_loop (n := Try.f28.ntmps) (vs := episSP_vars) (out := 2) (body := loopIn (loopAt Try.f28 0) 0) (mkEnv_ok (cons := [(45, okEpiS_con)]) ⟨okEpiS_ok, trivial⟩ []) episSP_step episSP_fuel (by exact trivial) episSP_stepok

def episSS_vars : Vars := [(1, .val (i64)), (2, .val (i64)), (3, .val (i64)), (4, .box 0 34 (.pair (i64) (i64))), (8, .row 0 25 (.pair (i64) (.pair (i64) (.pair (i64) (i64))))), (9, .val (i64)), (10, .row 0 25 (.pair (i64) (.pair (i64) (.pair (i64) (i64))))), (11, .val (i64))]
def episSS_step : Int × Int × Int × (Int × Int) × List ((Int × Int × Int × Int)) × Int × List ((Int × Int × Int × Int)) × Int → Option (LRes × (Int × Int × Int × (Int × Int) × List ((Int × Int × Int × Int)) × Int × List ((Int × Int × Int × Int)) × Int)) :=
fun x =>
  br (decide (x.snd.snd.snd.snd.snd.snd.2 ≤ x.snd.1))
    (ob
      (episSP
        (x.1, x.snd.1, x.snd.snd.1, (x.snd.snd.snd.fst.1, x.snd.snd.snd.fst.2), x.snd.snd.snd.snd.1,
          x.snd.snd.snd.snd.snd.1, x.snd.snd.snd.snd.snd.snd.1, x.snd.snd.snd.snd.snd.snd.2, x.1))
      fun r =>
      br r.1
        (some
          (LRes.next, r.snd.1, r.snd.snd.1, r.snd.snd.snd.1, (r.snd.snd.snd.snd.fst.1, r.snd.snd.snd.snd.fst.2),
            r.snd.snd.snd.snd.snd.1, r.snd.snd.snd.snd.snd.snd.1, r.snd.snd.snd.snd.snd.snd.snd.1,
            IntKind.i64.wrap (r.snd.snd.snd.snd.snd.snd.snd.snd.1 + (1 : Int))))
        (some
          (LRes.ret, r.snd.1, r.snd.snd.1, r.snd.snd.snd.1, (r.snd.snd.snd.snd.fst.1, r.snd.snd.snd.snd.fst.2),
            r.snd.snd.snd.snd.snd.1, r.snd.snd.snd.snd.snd.snd.1, r.snd.snd.snd.snd.snd.snd.snd.1,
            r.snd.snd.snd.snd.snd.snd.snd.snd.1)))
    (some
      (LRes.out, x.1, x.snd.1, x.snd.snd.1, (x.snd.snd.snd.fst.1, x.snd.snd.snd.fst.2), x.snd.snd.snd.snd.1,
        x.snd.snd.snd.snd.snd.1, x.snd.snd.snd.snd.snd.snd.1, x.snd.snd.snd.snd.snd.snd.2))
def episSS_fuel : Int × Int × Int × (Int × Int) × List ((Int × Int × Int × Int)) × Int × List ((Int × Int × Int × Int)) × Int → Nat := fun s => (s.2.1 - s.2.2.2.2.2.2.2).toNat + 2
def episSS : Int × Int × Int × (Int × Int) × List ((Int × Int × Int × Int)) × Int × List ((Int × Int × Int × Int)) × Int → Option (Bool × (Int × Int × Int × (Int × Int) × List ((Int × Int × Int × Int)) × Int × List ((Int × Int × Int × Int)) × Int)) := fun s => iter episSS_step (episSS_fuel s) s
def episSS_L : LoopC := ⟨episSS_vars, 0, .two episSS⟩
noncomputable def episSS_key : Nat := key (loopAt Try.f28 0)
theorem episSS_stepok (x : episSS_vars.den) : stepOf (mkEnv [] [(episSP_key, episSP_L)]) Try.f28.ntmps episSS_vars 0 (loopAt Try.f28 0) x = episSS_step x := by kernel_rfl
theorem episSS_ok : LoopOK Try.prog Try.f28.ntmps episSS_L (loopAt Try.f28 0)   := iter_loop (n := Try.f28.ntmps) (vs := episSS_vars) (out := 0) (body := loopAt Try.f28 0) (mkEnv_ok (cons := []) trivial [(episSP_key, episSP_L)]) episSS_step episSS_fuel (by exact ⟨episSP_ok, trivial⟩) episSS_stepok

def episS : (Int × Int) × Int × Int × Int → Option (List ((Int × Int × Int × Int)) × Int) :=
fun x =>
  ob (okRatS (x.fst.1, x.fst.2)) fun y =>
    br (!y) (some ([], (1 : Int)))
      (ob (inS (x.snd.1, (6 : Int), x.snd.snd.1)) fun y =>
        br (!y) (some ([], (2 : Int)))
          (br (decide ((240 : Int) < x.snd.snd.1)) (some ([], (2 : Int)))
            (ob (inS (x.snd.snd.2, (1 : Int), (8 : Int))) fun y =>
              br (!y) (some ([], (2 : Int)))
                (ob (episSS (x.snd.1, x.snd.snd.1, x.snd.snd.2, (x.fst.1, x.fst.2), [], (0 : Int), [], x.snd.1))
                  fun r =>
                  br r.1 (some (r.snd.snd.snd.snd.snd.snd.snd.1, (0 : Int)))
                    (some (r.snd.snd.snd.snd.snd.1, r.snd.snd.snd.snd.snd.snd.1))))))
def episS_con : Con := ⟨[.pair (i64) (i64), i64, i64, i64], [.row 25 (.pair (i64) (.pair (i64) (.pair (i64) (i64)))), .d (i64)], episS⟩
theorem episS_run (x : Dens [.pair (i64) (i64), i64, i64, i64]) : runFn (mkEnv [(53, okRatS_con), (47, inS_con)] [(episSS_key, episSS_L)]) Try.f28 [.pair (i64) (i64), i64, i64, i64] [.row 25 (.pair (i64) (.pair (i64) (.pair (i64) (i64)))), .d (i64)] x = episS x := by kernel_rfl
theorem episS_ok : episS_con.ok Try.prog 28 := fn_ok (con := episS_con) (mkEnv_ok (cons := [(53, okRatS_con), (47, inS_con)]) ⟨okRatS_ok, inS_ok, trivial⟩ [(episSS_key, episSS_L)]) Try.func28 rfl (by kernel_rfl) (by exact ⟨episSS_ok, trivial⟩) (fun x y h => (episS_run x).trans h)

def lawEpis : (Int × Int) × Int × Int × Int → Option (Bool) :=
fun x =>
  ob (toRatL (x.fst.1, x.fst.2)) fun y =>
    ob (episS ((y.1, y.2), x.snd.1, x.snd.snd.1, x.snd.snd.2)) fun y =>
      ob (toRatL (x.fst.1, x.fst.2)) fun y_1 =>
        ob (episI ((y_1.1, y_1.2), x.snd.1, x.snd.snd.1, x.snd.snd.2)) fun y_2 =>
          ob (eqEpiS (y_2.1, y.1)) fun y_3 =>
            br (!y_3) (some false)
              (br (y_2.2 != y.2) (some false)
                (ob (markEpiS (y_2.1, (1 : Int))) fun y_4 =>
                  ob (heldEpiS (y_4.snd.1, (1 : Int))) fun y_5 =>
                    br (decide (y_5 < (0 : Int))) (some false)
                      (br (y_5 != y_4.1) (some false)
                        (ob (toRatL (x.fst.1, x.fst.2)) fun y_6 =>
                          ob (episI ((y_6.1, y_6.2), x.snd.1, x.snd.snd.1, x.snd.snd.2)) fun y_7 =>
                            ob (eqEpiS (y_7.1, y.1)) fun y_8 =>
                              br (!y_8) (some false)
                                (br (y_7.2 != y.2) (some false)
                                  (ob (heldEpiS (y_4.snd.1, (1 : Int))) fun y =>
                                    br (decide (y < (0 : Int))) (some false)
                                      (br (y != y_4.1) (some false) (some true))))))))
def lawEpis_con : Con := ⟨[.pair (i64) (i64), i64, i64, i64], [.d (.bool)], lawEpis⟩
theorem lawEpis_run (x : Dens [.pair (i64) (i64), i64, i64, i64]) : runFn (mkEnvM [(23, toRatL_con), (28, episS_con), (29, episI_con), (30, eqEpiS_con), (32, heldEpiS_con)] [(31, markEpiS_con)] []) Try.f7 [.pair (i64) (i64), i64, i64, i64] [.d (.bool)] x = lawEpis x := by kernel_rfl
theorem lawEpis_ok : lawEpis_con.ok Try.prog 7 := fn_ok (con := lawEpis_con) (mkEnvM_ok (cons := [(23, toRatL_con), (28, episS_con), (29, episI_con), (30, eqEpiS_con), (32, heldEpiS_con)]) (mcons := [(31, markEpiS_con)]) ⟨toRatL_ok, episS_ok, episI_ok, eqEpiS_ok, heldEpiS_ok, trivial⟩ ⟨markEpiS_ok, trivial⟩ []) Try.func7 rfl (by kernel_rfl) (by exact trivial) (fun x y h => (lawEpis_run x).trans h)

end Rx
end Go.Proofs.Ytaaieejhbpdmoaa
