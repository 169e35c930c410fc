/- What the functions of RxPlates come to, and their contracts. No conditions. -/
import Derived.Test.YtblonadjjbmmnaaRxEnv
import Derived.Test.YtblonadjjbmmnaaRxSites
namespace Go.Proofs.Ytblonadjjbmmnaa
namespace Rx
open Go

def markTextL_vars : Vars := [(0, .val (i64)), (3, .val (.str))]
def markTextL_step : Int × ByteArray → Option (LRes × (Int × ByteArray)) :=
fun x =>
  br (decide ((0 : Int) < x.1))
    (br
      (decide
        ((bytesOf [IntKind.u8.wrap (IntKind.i64.wrap ((48 : Int) + x.1.tmod (10 : Int)))]).size + x.2.size ≤
          (9223372036854775807 : Nat)))
      (some
        (LRes.next, IntKind.i64.wrap (x.1.tdiv (10 : Int)),
          bytesOf [IntKind.u8.wrap (IntKind.i64.wrap ((48 : Int) + x.1.tmod (10 : Int)))] ++ x.2))
      none)
    (some (LRes.out, x.1, x.2))
def markTextL_fuel : Int × ByteArray → Nat := fun s => s.1.toNat + 1
def markTextL : Int × ByteArray → Option (Int × ByteArray) := fun s => iterP markTextL_step (markTextL_fuel s) s
def markTextL_L : LoopC := ⟨markTextL_vars, 0, .plain markTextL⟩
noncomputable def markTextL_key : Nat := key (loopAt Try.f98 0)
theorem markTextL_stepok (x : markTextL_vars.den) : stepOf (mkEnv [] []) Try.f98.ntmps markTextL_vars 0 (loopAt Try.f98 0) x = markTextL_step x := by kernel_rfl
theorem markTextL_ok : LoopOK Try.prog Try.f98.ntmps markTextL_L (loopAt Try.f98 0)   := iterP_loop (n := Try.f98.ntmps) (vs := markTextL_vars) (out := 0) (body := loopAt Try.f98 0) (mkEnv_ok (cons := []) trivial []) markTextL_step markTextL_fuel (by exact trivial) markTextL_stepok

def markText : Int → Option (ByteArray) :=
fun x =>
  br (decide (x ≤ (0 : Int))) (some (⟨⟨[(109 : UInt8), (48 : UInt8)]⟩⟩ : ByteArray))
    (ob (markTextL (x, (⟨⟨[]⟩⟩ : ByteArray))) fun r =>
      br (decide ((⟨⟨[(109 : UInt8)]⟩⟩ : ByteArray).size + ByteArray.size r.2 ≤ (9223372036854775807 : Nat)))
        (some ((⟨⟨[(109 : UInt8)]⟩⟩ : ByteArray) ++ r.2)) none)
def markText_con : Con := ⟨[i64], [.d (.str)], markText⟩
theorem markText_run (x : Dens [i64]) : runFn (mkEnv [] [(markTextL_key, markTextL_L)]) Try.f98 [i64] [.d (.str)] x = markText x := by kernel_rfl
theorem markText_ok : markText_con.ok Try.prog 98 := fn_ok (con := markText_con) (mkEnv_ok (cons := []) trivial [(markTextL_key, markTextL_L)]) Try.func98 rfl (by kernel_rfl) (by exact ⟨markTextL_ok, trivial⟩) (fun x y h => (markText_run x).trans h)

def eqIntSL_vars : Vars := [(0, .val (.slice (i64))), (1, .val (.slice (i64))), (4, .val (.bool)), (5, .val (i64))]
def eqIntSL_step : List (Int) × List (Int) × Bool × Int → Option (LRes × (List (Int) × List (Int) × Bool × Int)) :=
fun x =>
  br (decide (x.snd.snd.2 < (↑x.1.length : Int)))
    (ob (idx x.1 x.snd.snd.2) fun y =>
      ob (idx x.snd.1 x.snd.snd.2) fun y_1 =>
        br (y != y_1) (some (LRes.ret, x.1, x.snd.1, false, x.snd.snd.2))
          (some (LRes.next, x.1, x.snd.1, x.snd.snd.1, IntKind.i64.wrap (x.snd.snd.2 + (1 : Int)))))
    (some (LRes.out, x.1, x.snd.1, x.snd.snd.1, x.snd.snd.2))
def eqIntSL_fuel : List (Int) × List (Int) × Bool × Int → Nat := fun s => (s.1.length - s.2.2.2.toNat) + 1
def eqIntSL : List (Int) × List (Int) × Bool × Int → Option (Bool × (List (Int) × List (Int) × Bool × Int)) := fun s => iter eqIntSL_step (eqIntSL_fuel s) s
def eqIntSL_L : LoopC := ⟨eqIntSL_vars, 0, .two eqIntSL⟩
noncomputable def eqIntSL_key : Nat := key (loopAt Try.f29 0)
theorem eqIntSL_stepok (x : eqIntSL_vars.den) : stepOf (mkEnv [] []) Try.f29.ntmps eqIntSL_vars 0 (loopAt Try.f29 0) x = eqIntSL_step x := by kernel_rfl
theorem eqIntSL_ok : LoopOK Try.prog Try.f29.ntmps eqIntSL_L (loopAt Try.f29 0)   := iter_loop (n := Try.f29.ntmps) (vs := eqIntSL_vars) (out := 0) (body := loopAt Try.f29 0) (mkEnv_ok (cons := []) trivial []) eqIntSL_step eqIntSL_fuel (by exact trivial) eqIntSL_stepok

def eqIntS : List (Int) × List (Int) → Option (Bool) :=
fun x =>
  br ((↑x.1.length : Int) != (↑x.2.length : Int)) (some false)
    (ob (eqIntSL (x.1, x.2, false, (0 : Int))) fun r => br r.1 (some true) (some r.snd.snd.snd.1))
def eqIntS_con : Con := ⟨[.slice (i64), .slice (i64)], [.d (.bool)], eqIntS⟩
theorem eqIntS_run (x : Dens [.slice (i64), .slice (i64)]) : runFn (mkEnv [] [(eqIntSL_key, eqIntSL_L)]) Try.f29 [.slice (i64), .slice (i64)] [.d (.bool)] x = eqIntS x := by kernel_rfl
theorem eqIntS_ok : eqIntS_con.ok Try.prog 29 := fn_ok (con := eqIntS_con) (mkEnv_ok (cons := []) trivial [(eqIntSL_key, eqIntSL_L)]) Try.func29 rfl (by kernel_rfl) (by exact ⟨eqIntSL_ok, trivial⟩) (fun x y h => (eqIntS_run x).trans h)

def markIntSL_vars : Vars := [(0, .row 2 2 (i64)), (1, .val (i64)), (5, .val (i64))]
def markIntSL_step : List (Int) × Int × Int → Option (LRes × (List (Int) × Int × Int)) :=
fun x =>
  br (decide (x.snd.2 < (↑x.1.length : Int)))
    (ob (idx x.1 x.snd.2) fun x_1 =>
      ob (x.1.get?Internal (Int.toNat x.snd.2)) fun x_2 =>
        some
          (LRes.next, x.1.set (Int.toNat x.snd.2) x.snd.1, IntKind.i64.wrap (x.snd.1 + (1 : Int)),
            IntKind.i64.wrap (x.snd.2 + (1 : Int))))
    (some (LRes.out, x.1, x.snd.1, x.snd.2))
def markIntSL_fuel : List (Int) × Int × Int → Nat := fun s => (s.1.length - s.2.2.toNat) + 1
def markIntSL : List (Int) × Int × Int → Option (List (Int) × Int × Int) := fun s => iterP markIntSL_step (markIntSL_fuel s) s
def markIntSL_L : LoopC := ⟨markIntSL_vars, 0, .plain markIntSL⟩
noncomputable def markIntSL_key : Nat := key (loopAt Try.f31 0)
theorem markIntSL_stepok (x : markIntSL_vars.den) : stepOf (mkEnv [] []) Try.f31.ntmps markIntSL_vars 0 (loopAt Try.f31 0) x = markIntSL_step x := by kernel_rfl
theorem markIntSL_ok : LoopOK Try.prog Try.f31.ntmps markIntSL_L (loopAt Try.f31 0)   := iterP_loop (n := Try.f31.ntmps) (vs := markIntSL_vars) (out := 0) (body := loopAt Try.f31 0) (mkEnv_ok (cons := []) trivial []) markIntSL_step markIntSL_fuel (by exact trivial) markIntSL_stepok

def markIntS : List (Int) × Int → Option ((Int) × (List (Int) × Int)) :=
fun x => ob (markIntSL (x.1, x.2, (0 : Int))) fun r => some (r.snd.1, r.1, x.2)
def markIntS_con : MCon := ⟨[.v (.row 2 (i64)), .v (.d (i64))], [.d (i64)], markIntS⟩
theorem markIntS_run (x : ADens [.v (.row 2 (i64)), .v (.d (i64))]) : runFnM (mkEnv [] [(markIntSL_key, markIntSL_L)]) Try.f31 [.v (.row 2 (i64)), .v (.d (i64))] [.d (i64)] x = markIntS x := by kernel_rfl
theorem markIntS_ok : markIntS_con.ok Try.prog 31 := fnM_ok (con := markIntS_con) (mkEnv_ok (cons := []) trivial [(markIntSL_key, markIntSL_L)]) Try.func31 rfl (by kernel_rfl) (by exact ⟨markIntSL_ok, trivial⟩) (fun x y h => (markIntS_run x).trans h)

def heldIntSL_vars : Vars := [(0, .val (.slice (i64))), (1, .val (i64)), (4, .val (i64)), (5, .val (i64))]
def heldIntSL_step : List (Int) × Int × Int × Int → Option (LRes × (List (Int) × Int × Int × Int)) :=
fun x =>
  br (decide (x.snd.snd.2 < (↑x.1.length : Int)))
    (ob (idx x.1 x.snd.snd.2) fun y =>
      br (y != x.snd.1) (some (LRes.ret, x.1, x.snd.1, (-1 : Int), x.snd.snd.2))
        (some
          (LRes.next, x.1, IntKind.i64.wrap (x.snd.1 + (1 : Int)), x.snd.snd.1,
            IntKind.i64.wrap (x.snd.snd.2 + (1 : Int)))))
    (some (LRes.out, x.1, x.snd.1, x.snd.snd.1, x.snd.snd.2))
def heldIntSL_fuel : List (Int) × Int × Int × Int → Nat := fun s => (s.1.length - s.2.2.2.toNat) + 1
def heldIntSL : List (Int) × Int × Int × Int → Option (Bool × (List (Int) × Int × Int × Int)) := fun s => iter heldIntSL_step (heldIntSL_fuel s) s
def heldIntSL_L : LoopC := ⟨heldIntSL_vars, 0, .two heldIntSL⟩
noncomputable def heldIntSL_key : Nat := key (loopAt Try.f32 0)
theorem heldIntSL_stepok (x : heldIntSL_vars.den) : stepOf (mkEnv [] []) Try.f32.ntmps heldIntSL_vars 0 (loopAt Try.f32 0) x = heldIntSL_step x := by kernel_rfl
theorem heldIntSL_ok : LoopOK Try.prog Try.f32.ntmps heldIntSL_L (loopAt Try.f32 0)   := iter_loop (n := Try.f32.ntmps) (vs := heldIntSL_vars) (out := 0) (body := loopAt Try.f32 0) (mkEnv_ok (cons := []) trivial []) heldIntSL_step heldIntSL_fuel (by exact trivial) heldIntSL_stepok

def heldIntS : List (Int) × Int → Option (Int) :=
fun x => ob (heldIntSL (x.1, x.2, (0 : Int), (0 : Int))) fun r => br r.1 (some r.snd.snd.1) (some r.snd.snd.snd.1)
def heldIntS_con : Con := ⟨[.slice (i64), i64], [.d (i64)], heldIntS⟩
theorem heldIntS_run (x : Dens [.slice (i64), i64]) : runFn (mkEnv [] [(heldIntSL_key, heldIntSL_L)]) Try.f32 [.slice (i64), i64] [.d (i64)] x = heldIntS x := by kernel_rfl
theorem heldIntS_ok : heldIntS_con.ok Try.prog 32 := fn_ok (con := heldIntS_con) (mkEnv_ok (cons := []) trivial [(heldIntSL_key, heldIntSL_L)]) Try.func32 rfl (by kernel_rfl) (by exact ⟨heldIntSL_ok, trivial⟩) (fun x y h => (heldIntS_run x).trans h)

def markSiteSL_vars : Vars := [(0, .row 2 72 (.pair (.str) (.pair (.pair (i64) (i64)) (.pair (i64) (i64))))), (1, .val (i64)), (5, .val (i64))]
def markSiteSL_step : List ((ByteArray × (Int × Int) × Int × Int)) × Int × Int → Option (LRes × (List ((ByteArray × (Int × Int) × Int × Int)) × Int × Int)) :=
fun x =>
  br (decide (x.snd.2 < (↑x.1.length : Int)))
    (ob (markText x.snd.1) fun y =>
      ob (idx x.1 x.snd.2) fun x_1 =>
        ob (x.1.get?Internal (Int.toNat x.snd.2)) fun x_2 =>
          ob
            (idx (x.1.set (Int.toNat x.snd.2) (y, (x_2.snd.fst.1, x_2.snd.fst.2), x_2.snd.snd.1, x_2.snd.snd.2))
              x.snd.2)
            fun x_3 =>
            ob
              ((x.1.set (Int.toNat x.snd.2)
                    (y, (x_2.snd.fst.1, x_2.snd.fst.2), x_2.snd.snd.1, x_2.snd.snd.2)).get?Internal
                (Int.toNat x.snd.2))
              fun x_4 =>
              ob
                (idx
                  ((x.1.set (Int.toNat x.snd.2) (y, (x_2.snd.fst.1, x_2.snd.fst.2), x_2.snd.snd.1, x_2.snd.snd.2)).set
                    (Int.toNat x.snd.2)
                    (x_4.1, (IntKind.i64.wrap (x.snd.1 + (1 : Int)), x_4.snd.fst.2), x_4.snd.snd.1, x_4.snd.snd.2))
                  x.snd.2)
                fun x_5 =>
                ob
                  (((x.1.set (Int.toNat x.snd.2) (y, (x_2.snd.fst.1, x_2.snd.fst.2), x_2.snd.snd.1, x_2.snd.snd.2)).set
                        (Int.toNat x.snd.2)
                        (x_4.1, (IntKind.i64.wrap (x.snd.1 + (1 : Int)), x_4.snd.fst.2), x_4.snd.snd.1,
                          x_4.snd.snd.2)).get?Internal
                    (Int.toNat x.snd.2))
                  fun x_6 =>
                  ob
                    (idx
                      (((x.1.set (Int.toNat x.snd.2)
                                (y, (x_2.snd.fst.1, x_2.snd.fst.2), x_2.snd.snd.1, x_2.snd.snd.2)).set
                            (Int.toNat x.snd.2)
                            (x_4.1, (IntKind.i64.wrap (x.snd.1 + (1 : Int)), x_4.snd.fst.2), x_4.snd.snd.1,
                              x_4.snd.snd.2)).set
                        (Int.toNat x.snd.2)
                        (x_6.1, (x_6.snd.fst.1, IntKind.i64.wrap (IntKind.i64.wrap (x.snd.1 + (1 : Int)) + (1 : Int))),
                          x_6.snd.snd.1, x_6.snd.snd.2))
                      x.snd.2)
                    fun x_7 =>
                    ob
                      ((((x.1.set (Int.toNat x.snd.2)
                                    (y, (x_2.snd.fst.1, x_2.snd.fst.2), x_2.snd.snd.1, x_2.snd.snd.2)).set
                                (Int.toNat x.snd.2)
                                (x_4.1, (IntKind.i64.wrap (x.snd.1 + (1 : Int)), x_4.snd.fst.2), x_4.snd.snd.1,
                                  x_4.snd.snd.2)).set
                            (Int.toNat x.snd.2)
                            (x_6.1,
                              (x_6.snd.fst.1, IntKind.i64.wrap (IntKind.i64.wrap (x.snd.1 + (1 : Int)) + (1 : Int))),
                              x_6.snd.snd.1, x_6.snd.snd.2)).get?Internal
                        (Int.toNat x.snd.2))
                      fun x_8 =>
                      ob
                        (idx
                          ((((x.1.set (Int.toNat x.snd.2)
                                        (y, (x_2.snd.fst.1, x_2.snd.fst.2), x_2.snd.snd.1, x_2.snd.snd.2)).set
                                    (Int.toNat x.snd.2)
                                    (x_4.1, (IntKind.i64.wrap (x.snd.1 + (1 : Int)), x_4.snd.fst.2), x_4.snd.snd.1,
                                      x_4.snd.snd.2)).set
                                (Int.toNat x.snd.2)
                                (x_6.1,
                                  (x_6.snd.fst.1,
                                    IntKind.i64.wrap (IntKind.i64.wrap (x.snd.1 + (1 : Int)) + (1 : Int))),
                                  x_6.snd.snd.1, x_6.snd.snd.2)).set
                            (Int.toNat x.snd.2)
                            (x_8.1, (x_8.snd.fst.1, x_8.snd.fst.2),
                              IntKind.i64.wrap
                                (IntKind.i64.wrap (IntKind.i64.wrap (x.snd.1 + (1 : Int)) + (1 : Int)) + (1 : Int)),
                              x_8.snd.snd.2))
                          x.snd.2)
                        fun x_9 =>
                        ob
                          (((((x.1.set (Int.toNat x.snd.2)
                                            (y, (x_2.snd.fst.1, x_2.snd.fst.2), x_2.snd.snd.1, x_2.snd.snd.2)).set
                                        (Int.toNat x.snd.2)
                                        (x_4.1, (IntKind.i64.wrap (x.snd.1 + (1 : Int)), x_4.snd.fst.2), x_4.snd.snd.1,
                                          x_4.snd.snd.2)).set
                                    (Int.toNat x.snd.2)
                                    (x_6.1,
                                      (x_6.snd.fst.1,
                                        IntKind.i64.wrap (IntKind.i64.wrap (x.snd.1 + (1 : Int)) + (1 : Int))),
                                      x_6.snd.snd.1, x_6.snd.snd.2)).set
                                (Int.toNat x.snd.2)
                                (x_8.1, (x_8.snd.fst.1, x_8.snd.fst.2),
                                  IntKind.i64.wrap
                                    (IntKind.i64.wrap (IntKind.i64.wrap (x.snd.1 + (1 : Int)) + (1 : Int)) + (1 : Int)),
                                  x_8.snd.snd.2)).get?Internal
                            (Int.toNat x.snd.2))
                          fun x_10 =>
                          some
                            (LRes.next,
                              ((((x.1.set (Int.toNat x.snd.2)
                                                (y, (x_2.snd.fst.1, x_2.snd.fst.2), x_2.snd.snd.1, x_2.snd.snd.2)).set
                                            (Int.toNat x.snd.2)
                                            (x_4.1, (IntKind.i64.wrap (x.snd.1 + (1 : Int)), x_4.snd.fst.2),
                                              x_4.snd.snd.1, x_4.snd.snd.2)).set
                                        (Int.toNat x.snd.2)
                                        (x_6.1,
                                          (x_6.snd.fst.1,
                                            IntKind.i64.wrap (IntKind.i64.wrap (x.snd.1 + (1 : Int)) + (1 : Int))),
                                          x_6.snd.snd.1, x_6.snd.snd.2)).set
                                    (Int.toNat x.snd.2)
                                    (x_8.1, (x_8.snd.fst.1, x_8.snd.fst.2),
                                      IntKind.i64.wrap
                                        (IntKind.i64.wrap (IntKind.i64.wrap (x.snd.1 + (1 : Int)) + (1 : Int)) +
                                          (1 : Int)),
                                      x_8.snd.snd.2)).set
                                (Int.toNat x.snd.2)
                                (x_10.1, (x_10.snd.fst.1, x_10.snd.fst.2), x_10.snd.snd.1,
                                  IntKind.i64.wrap
                                    (IntKind.i64.wrap
                                        (IntKind.i64.wrap (IntKind.i64.wrap (x.snd.1 + (1 : Int)) + (1 : Int)) +
                                          (1 : Int)) +
                                      (1 : Int))),
                              IntKind.i64.wrap
                                (IntKind.i64.wrap
                                    (IntKind.i64.wrap
                                        (IntKind.i64.wrap (IntKind.i64.wrap (x.snd.1 + (1 : Int)) + (1 : Int)) +
                                          (1 : Int)) +
                                      (1 : Int)) +
                                  (1 : Int)),
                              IntKind.i64.wrap (x.snd.2 + (1 : Int))))
    (some (LRes.out, x.1, x.snd.1, x.snd.2))
def markSiteSL_fuel : List ((ByteArray × (Int × Int) × Int × Int)) × Int × Int → Nat := fun s => (s.1.length - s.2.2.toNat) + 1
def markSiteSL : List ((ByteArray × (Int × Int) × Int × Int)) × Int × Int → Option (List ((ByteArray × (Int × Int) × Int × Int)) × Int × Int) := fun s => iterP markSiteSL_step (markSiteSL_fuel s) s
def markSiteSL_L : LoopC := ⟨markSiteSL_vars, 0, .plain markSiteSL⟩
noncomputable def markSiteSL_key : Nat := key (loopAt Try.f69 0)
theorem markSiteSL_stepok (x : markSiteSL_vars.den) : stepOf (mkEnv [(98, markText_con)] []) Try.f69.ntmps markSiteSL_vars 0 (loopAt Try.f69 0) x = markSiteSL_step x := by kernel_rfl
theorem markSiteSL_ok : LoopOK Try.prog Try.f69.ntmps markSiteSL_L (loopAt Try.f69 0)   := iterP_loop (n := Try.f69.ntmps) (vs := markSiteSL_vars) (out := 0) (body := loopAt Try.f69 0) (mkEnv_ok (cons := [(98, markText_con)]) ⟨markText_ok, trivial⟩ []) markSiteSL_step markSiteSL_fuel (by exact trivial) markSiteSL_stepok

def markSiteS : List ((ByteArray × (Int × Int) × Int × Int)) × Int → Option ((Int) × (List ((ByteArray × (Int × Int) × Int × Int)) × Int)) :=
fun x => ob (markSiteSL (x.1, x.2, (0 : Int))) fun r => some (r.snd.1, r.1, x.2)
def markSiteS_con : MCon := ⟨[.v (.row 72 (.pair (.str) (.pair (.pair (i64) (i64)) (.pair (i64) (i64))))), .v (.d (i64))], [.d (i64)], markSiteS⟩
theorem markSiteS_run (x : ADens [.v (.row 72 (.pair (.str) (.pair (.pair (i64) (i64)) (.pair (i64) (i64))))), .v (.d (i64))]) : runFnM (mkEnv [(98, markText_con)] [(markSiteSL_key, markSiteSL_L)]) Try.f69 [.v (.row 72 (.pair (.str) (.pair (.pair (i64) (i64)) (.pair (i64) (i64))))), .v (.d (i64))] [.d (i64)] x = markSiteS x := by kernel_rfl
theorem markSiteS_ok : markSiteS_con.ok Try.prog 69 := fnM_ok (con := markSiteS_con) (mkEnv_ok (cons := [(98, markText_con)]) ⟨markText_ok, trivial⟩ [(markSiteSL_key, markSiteSL_L)]) Try.func69 rfl (by kernel_rfl) (by exact ⟨markSiteSL_ok, trivial⟩) (fun x y h => (markSiteS_run x).trans h)

def markPlate : (Int × Int × Int × Int × List ((ByteArray × (Int × Int) × Int × Int))) × Int → Option ((Int) × ((Int × Int × Int × Int × List ((ByteArray × (Int × Int) × Int × Int))) × Int)) :=
fun x =>
  ob (markSiteS (x.fst.snd.snd.snd.2, x.2)) fun y =>
    some (y.1, (x.fst.1, x.fst.snd.1, x.fst.snd.snd.1, x.fst.snd.snd.snd.1, y.snd.1), x.2)
def markPlate_con : MCon := ⟨[.v (.pair (.d (i64)) (.pair (.d (i64)) (.pair (.d (i64)) (.pair (.d (i64)) (.row 72 (.pair (.str) (.pair (.pair (i64) (i64)) (.pair (i64) (i64))))))))), .v (.d (i64))], [.d (i64)], markPlate⟩
theorem markPlate_run (x : ADens [.v (.pair (.d (i64)) (.pair (.d (i64)) (.pair (.d (i64)) (.pair (.d (i64)) (.row 72 (.pair (.str) (.pair (.pair (i64) (i64)) (.pair (i64) (i64))))))))), .v (.d (i64))]) : runFnM (mkEnvM [] [(69, markSiteS_con)] []) Try.f30 [.v (.pair (.d (i64)) (.pair (.d (i64)) (.pair (.d (i64)) (.pair (.d (i64)) (.row 72 (.pair (.str) (.pair (.pair (i64) (i64)) (.pair (i64) (i64))))))))), .v (.d (i64))] [.d (i64)] x = markPlate x := by kernel_rfl
theorem markPlate_ok : markPlate_con.ok Try.prog 30 := fnM_ok (con := markPlate_con) (mkEnvM_ok (cons := []) (mcons := [(69, markSiteS_con)]) trivial ⟨markSiteS_ok, trivial⟩ []) Try.func30 rfl (by kernel_rfl) (by exact trivial) (fun x y h => (markPlate_run x).trans h)

def heldSiteSL_vars : Vars := [(0, .val (.slice (.pair (.str) (.pair (.pair (i64) (i64)) (.pair (i64) (i64)))))), (1, .val (i64)), (4, .val (i64)), (5, .val (i64))]
def heldSiteSL_step : List ((ByteArray × (Int × Int) × Int × Int)) × Int × Int × Int → Option (LRes × (List ((ByteArray × (Int × Int) × Int × Int)) × Int × Int × Int)) :=
fun x =>
  br (decide (x.snd.snd.2 < (↑x.1.length : Int)))
    (ob (idx x.1 x.snd.snd.2) fun y =>
      ob (markText x.snd.1) fun y_1 =>
        br (!ByteArray.toList y.1 == ByteArray.toList y_1) (some (LRes.ret, x.1, x.snd.1, (-1 : Int), x.snd.snd.2))
          (ob (idx x.1 x.snd.snd.2) fun y =>
            br (y.snd.fst.1 != IntKind.i64.wrap (x.snd.1 + (1 : Int)))
              (some (LRes.ret, x.1, IntKind.i64.wrap (x.snd.1 + (1 : Int)), (-1 : Int), x.snd.snd.2))
              (ob (idx x.1 x.snd.snd.2) fun y =>
                br (y.snd.fst.2 != IntKind.i64.wrap (IntKind.i64.wrap (x.snd.1 + (1 : Int)) + (1 : Int)))
                  (some
                    (LRes.ret, x.1, IntKind.i64.wrap (IntKind.i64.wrap (x.snd.1 + (1 : Int)) + (1 : Int)), (-1 : Int),
                      x.snd.snd.2))
                  (ob (idx x.1 x.snd.snd.2) fun y =>
                    br
                      (y.snd.snd.1 !=
                        IntKind.i64.wrap
                          (IntKind.i64.wrap (IntKind.i64.wrap (x.snd.1 + (1 : Int)) + (1 : Int)) + (1 : Int)))
                      (some
                        (LRes.ret, x.1,
                          IntKind.i64.wrap
                            (IntKind.i64.wrap (IntKind.i64.wrap (x.snd.1 + (1 : Int)) + (1 : Int)) + (1 : Int)),
                          (-1 : Int), x.snd.snd.2))
                      (ob (idx x.1 x.snd.snd.2) fun y =>
                        br
                          (y.snd.snd.2 !=
                            IntKind.i64.wrap
                              (IntKind.i64.wrap
                                  (IntKind.i64.wrap (IntKind.i64.wrap (x.snd.1 + (1 : Int)) + (1 : Int)) + (1 : Int)) +
                                (1 : Int)))
                          (some
                            (LRes.ret, x.1,
                              IntKind.i64.wrap
                                (IntKind.i64.wrap
                                    (IntKind.i64.wrap (IntKind.i64.wrap (x.snd.1 + (1 : Int)) + (1 : Int)) +
                                      (1 : Int)) +
                                  (1 : Int)),
                              (-1 : Int), x.snd.snd.2))
                          (some
                            (LRes.next, x.1,
                              IntKind.i64.wrap
                                (IntKind.i64.wrap
                                    (IntKind.i64.wrap
                                        (IntKind.i64.wrap (IntKind.i64.wrap (x.snd.1 + (1 : Int)) + (1 : Int)) +
                                          (1 : Int)) +
                                      (1 : Int)) +
                                  (1 : Int)),
                              x.snd.snd.1, IntKind.i64.wrap (x.snd.snd.2 + (1 : Int)))))))))
    (some (LRes.out, x.1, x.snd.1, x.snd.snd.1, x.snd.snd.2))
def heldSiteSL_fuel : List ((ByteArray × (Int × Int) × Int × Int)) × Int × Int × Int → Nat := fun s => (s.1.length - s.2.2.2.toNat) + 1
def heldSiteSL : List ((ByteArray × (Int × Int) × Int × Int)) × Int × Int × Int → Option (Bool × (List ((ByteArray × (Int × Int) × Int × Int)) × Int × Int × Int)) := fun s => iter heldSiteSL_step (heldSiteSL_fuel s) s
def heldSiteSL_L : LoopC := ⟨heldSiteSL_vars, 0, .two heldSiteSL⟩
noncomputable def heldSiteSL_key : Nat := key (loopAt Try.f78 0)
theorem heldSiteSL_stepok (x : heldSiteSL_vars.den) : stepOf (mkEnv [(98, markText_con)] []) Try.f78.ntmps heldSiteSL_vars 0 (loopAt Try.f78 0) x = heldSiteSL_step x := by kernel_rfl
theorem heldSiteSL_ok : LoopOK Try.prog Try.f78.ntmps heldSiteSL_L (loopAt Try.f78 0)   := iter_loop (n := Try.f78.ntmps) (vs := heldSiteSL_vars) (out := 0) (body := loopAt Try.f78 0) (mkEnv_ok (cons := [(98, markText_con)]) ⟨markText_ok, trivial⟩ []) heldSiteSL_step heldSiteSL_fuel (by exact trivial) heldSiteSL_stepok

def heldSiteS : List ((ByteArray × (Int × Int) × Int × Int)) × Int → Option (Int) :=
fun x => ob (heldSiteSL (x.1, x.2, (0 : Int), (0 : Int))) fun r => br r.1 (some r.snd.snd.1) (some r.snd.snd.snd.1)
def heldSiteS_con : Con := ⟨[.slice (.pair (.str) (.pair (.pair (i64) (i64)) (.pair (i64) (i64)))), i64], [.d (i64)], heldSiteS⟩
theorem heldSiteS_run (x : Dens [.slice (.pair (.str) (.pair (.pair (i64) (i64)) (.pair (i64) (i64)))), i64]) : runFn (mkEnv [(98, markText_con)] [(heldSiteSL_key, heldSiteSL_L)]) Try.f78 [.slice (.pair (.str) (.pair (.pair (i64) (i64)) (.pair (i64) (i64)))), i64] [.d (i64)] x = heldSiteS x := by kernel_rfl
theorem heldSiteS_ok : heldSiteS_con.ok Try.prog 78 := fn_ok (con := heldSiteS_con) (mkEnv_ok (cons := [(98, markText_con)]) ⟨markText_ok, trivial⟩ [(heldSiteSL_key, heldSiteSL_L)]) Try.func78 rfl (by kernel_rfl) (by exact ⟨heldSiteSL_ok, trivial⟩) (fun x y h => (heldSiteS_run x).trans h)

def heldPlate : (Int × Int × Int × Int × List ((ByteArray × (Int × Int) × Int × Int))) × Int → Option (Int) :=
fun x => ob (heldSiteS (x.fst.snd.snd.snd.2, x.2)) fun y => br (decide (y < (0 : Int))) (some (-1 : Int)) (some y)
def heldPlate_con : Con := ⟨[.pair (i64) (.pair (i64) (.pair (i64) (.pair (i64) (.slice (.pair (.str) (.pair (.pair (i64) (i64)) (.pair (i64) (i64)))))))), i64], [.d (i64)], heldPlate⟩
theorem heldPlate_run (x : Dens [.pair (i64) (.pair (i64) (.pair (i64) (.pair (i64) (.slice (.pair (.str) (.pair (.pair (i64) (i64)) (.pair (i64) (i64)))))))), i64]) : runFn (mkEnv [(78, heldSiteS_con)] []) Try.f37 [.pair (i64) (.pair (i64) (.pair (i64) (.pair (i64) (.slice (.pair (.str) (.pair (.pair (i64) (i64)) (.pair (i64) (i64)))))))), i64] [.d (i64)] x = heldPlate x := by kernel_rfl
theorem heldPlate_ok : heldPlate_con.ok Try.prog 37 := fn_ok (con := heldPlate_con) (mkEnv_ok (cons := [(78, heldSiteS_con)]) ⟨heldSiteS_ok, trivial⟩ []) Try.func37 rfl (by kernel_rfl) (by exact trivial) (fun x y h => (heldPlate_run x).trans h)

def minP : Int × Int → Option (Int) :=
fun x => br (decide (x.1 < x.2)) (some x.1) (some x.2)
def minP_con : Con := ⟨[i64, i64], [.d (i64)], minP⟩
theorem minP_run (x : Dens [i64, i64]) : runFn (mkEnv [] []) Try.f68 [i64, i64] [.d (i64)] x = minP x := by kernel_rfl
theorem minP_ok : minP_con.ok Try.prog 68 := fn_ok (con := minP_con) (mkEnv_ok (cons := []) trivial []) Try.func68 rfl (by kernel_rfl) (by exact trivial) (fun x y h => (minP_run x).trans h)

def outIL_vars : Vars := [(1, .box 0 29 (.pair (i64) (.pair (i64) (.pair (i64) (.pair (i64) (.slice (.pair (.str) (.pair (.pair (i64) (i64)) (.pair (i64) (i64)))))))))), (4, .row 0 2 (i64)), (11, .val (.slice (.pair (.str) (.pair (.pair (i64) (i64)) (.pair (i64) (i64)))))), (12, .val (i64)), (13, .val (i64))]
def outIL_step : (Int × Int × Int × Int × List ((ByteArray × (Int × Int) × Int × Int))) × List (Int) × List ((ByteArray × (Int × Int) × Int × Int)) × Int × Int → Option (LRes × ((Int × Int × Int × Int × List ((ByteArray × (Int × Int) × Int × Int))) × List (Int) × List ((ByteArray × (Int × Int) × Int × Int)) × Int × Int)) :=
fun x =>
  br (decide (x.snd.snd.snd.2 < x.snd.snd.snd.1))
    (ob (idx x.snd.snd.1 x.snd.snd.snd.2) fun y =>
      br
        (decide
          (br
              (decide
                (IntKind.i64.wrap (x.fst.snd.1 - y.snd.fst.2) <
                  br
                    (decide
                      (y.snd.fst.2 <
                        br (decide (IntKind.i64.wrap (x.fst.1 - y.snd.fst.1) < y.snd.fst.1))
                          (IntKind.i64.wrap (x.fst.1 - y.snd.fst.1)) y.snd.fst.1))
                    y.snd.fst.2
                    (br (decide (IntKind.i64.wrap (x.fst.1 - y.snd.fst.1) < y.snd.fst.1))
                      (IntKind.i64.wrap (x.fst.1 - y.snd.fst.1)) y.snd.fst.1)))
              (IntKind.i64.wrap (x.fst.snd.1 - y.snd.fst.2))
              (br
                (decide
                  (y.snd.fst.2 <
                    br (decide (IntKind.i64.wrap (x.fst.1 - y.snd.fst.1) < y.snd.fst.1))
                      (IntKind.i64.wrap (x.fst.1 - y.snd.fst.1)) y.snd.fst.1))
                y.snd.fst.2
                (br (decide (IntKind.i64.wrap (x.fst.1 - y.snd.fst.1) < y.snd.fst.1))
                  (IntKind.i64.wrap (x.fst.1 - y.snd.fst.1)) y.snd.fst.1)) <
            IntKind.i64.wrap (y.snd.snd.2 + x.fst.snd.snd.1)))
        (br (decide (List.length x.snd.1 + [x.snd.snd.snd.2].length ≤ (4294967296 : Nat)))
          (some
            (LRes.next, (x.fst.1, x.fst.snd.1, x.fst.snd.snd.1, x.fst.snd.snd.snd.1, x.fst.snd.snd.snd.2),
              x.snd.1 ++ [x.snd.snd.snd.2], x.snd.snd.1, x.snd.snd.snd.1,
              IntKind.i64.wrap (x.snd.snd.snd.2 + (1 : Int))))
          none)
        (some
          (LRes.next, (x.fst.1, x.fst.snd.1, x.fst.snd.snd.1, x.fst.snd.snd.snd.1, x.fst.snd.snd.snd.2), x.snd.1,
            x.snd.snd.1, x.snd.snd.snd.1, IntKind.i64.wrap (x.snd.snd.snd.2 + (1 : Int)))))
    (some
      (LRes.out, (x.fst.1, x.fst.snd.1, x.fst.snd.snd.1, x.fst.snd.snd.snd.1, x.fst.snd.snd.snd.2), x.snd.1,
        x.snd.snd.1, x.snd.snd.snd.1, x.snd.snd.snd.2))
def outIL_fuel : (Int × Int × Int × Int × List ((ByteArray × (Int × Int) × Int × Int))) × List (Int) × List ((ByteArray × (Int × Int) × Int × Int)) × Int × Int → Nat := fun s => (s.2.2.2.1 - s.2.2.2.2).toNat + 1
def outIL : (Int × Int × Int × Int × List ((ByteArray × (Int × Int) × Int × Int))) × List (Int) × List ((ByteArray × (Int × Int) × Int × Int)) × Int × Int → Option ((Int × Int × Int × Int × List ((ByteArray × (Int × Int) × Int × Int))) × List (Int) × List ((ByteArray × (Int × Int) × Int × Int)) × Int × Int) := fun s => iterP outIL_step (outIL_fuel s) s
def outIL_L : LoopC := ⟨outIL_vars, 0, .plain outIL⟩
noncomputable def outIL_key : Nat := key (loopAt Try.f28 0)
theorem outIL_stepok (x : outIL_vars.den) : stepOf (mkEnv [] []) Try.f28.ntmps outIL_vars 0 (loopAt Try.f28 0) x = outIL_step x := by kernel_rfl
theorem outIL_ok : LoopOK Try.prog Try.f28.ntmps outIL_L (loopAt Try.f28 0)   := iterP_loop (n := Try.f28.ntmps) (vs := outIL_vars) (out := 0) (body := loopAt Try.f28 0) (mkEnv_ok (cons := []) trivial []) outIL_step outIL_fuel (by exact trivial) outIL_stepok

def outI : (Int × Int × Int × Int × List ((ByteArray × (Int × Int) × Int × Int))) → Option (List (Int) × Int) :=
fun x =>
  ob (validPlateI (x.1, x.snd.1, x.snd.snd.1, x.snd.snd.snd.1, x.snd.snd.snd.2)) fun y =>
    br (!y) (some ([], (1 : Int)))
      (ob
        (outIL
          ((x.1, x.snd.1, x.snd.snd.1, x.snd.snd.snd.1, x.snd.snd.snd.2), [], x.snd.snd.snd.2,
            (↑(List.length x.snd.snd.snd.2) : Int), (0 : Int)))
        fun r => some (r.snd.1, (0 : Int)))
def outI_con : Con := ⟨[.pair (i64) (.pair (i64) (.pair (i64) (.pair (i64) (.slice (.pair (.str) (.pair (.pair (i64) (i64)) (.pair (i64) (i64))))))))], [.row 2 (i64), .d (i64)], outI⟩
theorem outI_run (x : Dens [.pair (i64) (.pair (i64) (.pair (i64) (.pair (i64) (.slice (.pair (.str) (.pair (.pair (i64) (i64)) (.pair (i64) (i64))))))))]) : runFn (mkEnv [(19, validPlateI_con)] [(outIL_key, outIL_L)]) Try.f28 [.pair (i64) (.pair (i64) (.pair (i64) (.pair (i64) (.slice (.pair (.str) (.pair (.pair (i64) (i64)) (.pair (i64) (i64))))))))] [.row 2 (i64), .d (i64)] x = outI x := by kernel_rfl
theorem outI_ok : outI_con.ok Try.prog 28 := fn_ok (con := outI_con) (mkEnv_ok (cons := [(19, validPlateI_con)]) ⟨validPlateI_ok, trivial⟩ [(outIL_key, outIL_L)]) Try.func28 rfl (by kernel_rfl) (by exact ⟨outIL_ok, trivial⟩) (fun x y h => (outI_run x).trans h)

def outSL_vars : Vars := [(1, .box 0 29 (.pair (i64) (.pair (i64) (.pair (i64) (.pair (i64) (.slice (.pair (.str) (.pair (.pair (i64) (i64)) (.pair (i64) (i64)))))))))), (4, .row 0 2 (i64)), (5, .val (i64))]
def outSL_step : (Int × Int × Int × Int × List ((ByteArray × (Int × Int) × Int × Int))) × List (Int) × Int → Option (LRes × ((Int × Int × Int × Int × List ((ByteArray × (Int × Int) × Int × Int))) × List (Int) × Int)) :=
fun x =>
  br (decide (x.snd.2 < (↑(List.length x.fst.snd.snd.snd.2) : Int)))
    (ob (idx x.fst.snd.snd.snd.2 x.snd.2) fun y =>
      ob (minP (y.snd.fst.1, IntKind.i64.wrap (x.fst.1 - y.snd.fst.1))) fun y_1 =>
        ob (minP (y.snd.fst.2, IntKind.i64.wrap (x.fst.snd.1 - y.snd.fst.2))) fun y_2 =>
          ob (minP (y_1, y_2)) fun y_3 =>
            br (decide (y_3 < IntKind.i64.wrap (y.snd.snd.2 + x.fst.snd.snd.1)))
              (br (decide (List.length x.snd.1 + [x.snd.2].length ≤ (4294967296 : Nat)))
                (some
                  (LRes.next, (x.fst.1, x.fst.snd.1, x.fst.snd.snd.1, x.fst.snd.snd.snd.1, x.fst.snd.snd.snd.2),
                    x.snd.1 ++ [x.snd.2], IntKind.i64.wrap (x.snd.2 + (1 : Int))))
                none)
              (some
                (LRes.next, (x.fst.1, x.fst.snd.1, x.fst.snd.snd.1, x.fst.snd.snd.snd.1, x.fst.snd.snd.snd.2), x.snd.1,
                  IntKind.i64.wrap (x.snd.2 + (1 : Int)))))
    (some
      (LRes.out, (x.fst.1, x.fst.snd.1, x.fst.snd.snd.1, x.fst.snd.snd.snd.1, x.fst.snd.snd.snd.2), x.snd.1, x.snd.2))
def outSL_fuel : (Int × Int × Int × Int × List ((ByteArray × (Int × Int) × Int × Int))) × List (Int) × Int → Nat := fun s => (s.1.2.2.2.2.length - s.2.2.toNat) + 1
def outSL : (Int × Int × Int × Int × List ((ByteArray × (Int × Int) × Int × Int))) × List (Int) × Int → Option ((Int × Int × Int × Int × List ((ByteArray × (Int × Int) × Int × Int))) × List (Int) × Int) := fun s => iterP outSL_step (outSL_fuel s) s
def outSL_L : LoopC := ⟨outSL_vars, 0, .plain outSL⟩
noncomputable def outSL_key : Nat := key (loopAt Try.f27 0)
theorem outSL_stepok (x : outSL_vars.den) : stepOf (mkEnv [(68, minP_con)] []) Try.f27.ntmps outSL_vars 0 (loopAt Try.f27 0) x = outSL_step x := by kernel_rfl
theorem outSL_ok : LoopOK Try.prog Try.f27.ntmps outSL_L (loopAt Try.f27 0)   := iterP_loop (n := Try.f27.ntmps) (vs := outSL_vars) (out := 0) (body := loopAt Try.f27 0) (mkEnv_ok (cons := [(68, minP_con)]) ⟨minP_ok, trivial⟩ []) outSL_step outSL_fuel (by exact trivial) outSL_stepok

def outS : (Int × Int × Int × Int × List ((ByteArray × (Int × Int) × Int × Int))) → Option (List (Int) × Int) :=
fun x =>
  ob (okPlateS (x.1, x.snd.1, x.snd.snd.1, x.snd.snd.snd.1, x.snd.snd.snd.2)) fun y =>
    br (!y) (some ([], (1 : Int)))
      (ob (outSL ((x.1, x.snd.1, x.snd.snd.1, x.snd.snd.snd.1, x.snd.snd.snd.2), [], (0 : Int))) fun r =>
        some (r.snd.1, (0 : Int)))
def outS_con : Con := ⟨[.pair (i64) (.pair (i64) (.pair (i64) (.pair (i64) (.slice (.pair (.str) (.pair (.pair (i64) (i64)) (.pair (i64) (i64))))))))], [.row 2 (i64), .d (i64)], outS⟩
theorem outS_run (x : Dens [.pair (i64) (.pair (i64) (.pair (i64) (.pair (i64) (.slice (.pair (.str) (.pair (.pair (i64) (i64)) (.pair (i64) (i64))))))))]) : runFn (mkEnv [(49, okPlateS_con)] [(outSL_key, outSL_L)]) Try.f27 [.pair (i64) (.pair (i64) (.pair (i64) (.pair (i64) (.slice (.pair (.str) (.pair (.pair (i64) (i64)) (.pair (i64) (i64))))))))] [.row 2 (i64), .d (i64)] x = outS x := by kernel_rfl
theorem outS_ok : outS_con.ok Try.prog 27 := fn_ok (con := outS_con) (mkEnv_ok (cons := [(49, okPlateS_con)]) ⟨okPlateS_ok, trivial⟩ [(outSL_key, outSL_L)]) Try.func27 rfl (by kernel_rfl) (by exact ⟨outSL_ok, trivial⟩) (fun x y h => (outS_run x).trans h)

def lawOut : (Int × Int × Int × Int × List ((ByteArray × (Int × Int) × Int × Int))) → Option (Bool) :=
fun x =>
  ob (szPlateL ((x.1, x.snd.1, x.snd.snd.1, x.snd.snd.snd.1, x.snd.snd.snd.2), (1048576 : Int))) fun y =>
    br (decide (y < (0 : Int))) (some true)
      (ob (toPlateR (x.1, x.snd.1, x.snd.snd.1, x.snd.snd.snd.1, x.snd.snd.snd.2)) fun y =>
        ob (outS (y.1, y.snd.1, y.snd.snd.1, y.snd.snd.snd.1, y.snd.snd.snd.2)) fun y =>
          ob (toPlateR (x.1, x.snd.1, x.snd.snd.1, x.snd.snd.snd.1, x.snd.snd.snd.2)) fun y_1 =>
            ob (outI (y_1.1, y_1.snd.1, y_1.snd.snd.1, y_1.snd.snd.snd.1, y_1.snd.snd.snd.2)) fun y_2 =>
              ob (eqIntS (y_2.1, y.1)) fun y_3 =>
                br (!y_3) (some false)
                  (br (y_2.2 != y.2) (some false)
                    (ob (toPlateR (x.1, x.snd.1, x.snd.snd.1, x.snd.snd.snd.1, x.snd.snd.snd.2)) fun y_4 =>
                      ob
                        (eqPlateL
                          ((y_1.1, y_1.snd.1, y_1.snd.snd.1, y_1.snd.snd.snd.1, y_1.snd.snd.snd.2), y_4.1, y_4.snd.1,
                            y_4.snd.snd.1, y_4.snd.snd.snd.1, y_4.snd.snd.snd.2))
                        fun y_5 =>
                        br (!y_5) (some false)
                          (ob
                            (markPlate
                              ((y_1.1, y_1.snd.1, y_1.snd.snd.1, y_1.snd.snd.snd.1, y_1.snd.snd.snd.2), (1 : Int)))
                            fun y_6 =>
                            br (decide (y_6.1 < (0 : Int))) (some false)
                              (ob (eqIntS (y_2.1, y.1)) fun y_7 =>
                                br (!y_7) (some false)
                                  (br (y_2.2 != y.2) (some false)
                                    (ob (markIntS (y_2.1, (1 : Int))) fun y_8 =>
                                      ob (heldIntS (y_8.snd.1, (1 : Int))) fun y_9 =>
                                        br (decide (y_9 < (0 : Int))) (some false)
                                          (br (y_9 != y_8.1) (some false)
                                            (ob (toPlateR (x.1, x.snd.1, x.snd.snd.1, x.snd.snd.snd.1, x.snd.snd.snd.2))
                                              fun y_10 =>
                                              ob
                                                (outI
                                                  (y_10.1, y_10.snd.1, y_10.snd.snd.1, y_10.snd.snd.snd.1,
                                                    y_10.snd.snd.snd.2))
                                                fun y_11 =>
                                                ob (eqIntS (y_11.1, y.1)) fun y_12 =>
                                                  br (!y_12) (some false)
                                                    (br (y_11.2 != y.2) (some false)
                                                      (ob (heldIntS (y_8.snd.1, (1 : Int))) fun y =>
                                                        br (decide (y < (0 : Int))) (some false)
                                                          (br (y != y_8.1) (some false) (some true)))))))))))))
def lawOut_con : Con := ⟨[.pair (i64) (.pair (i64) (.pair (i64) (.pair (i64) (.slice (.pair (.str) (.pair (.pair (i64) (i64)) (.pair (i64) (i64))))))))], [.d (.bool)], lawOut⟩
theorem lawOut_run (x : Dens [.pair (i64) (.pair (i64) (.pair (i64) (.pair (i64) (.slice (.pair (.str) (.pair (.pair (i64) (i64)) (.pair (i64) (i64))))))))]) : runFn (mkEnvM [(13, szPlateL_con), (15, toPlateR_con), (27, outS_con), (28, outI_con), (29, eqIntS_con), (17, eqPlateL_con), (32, heldIntS_con)] [(30, markPlate_con), (31, markIntS_con)] []) Try.f7 [.pair (i64) (.pair (i64) (.pair (i64) (.pair (i64) (.slice (.pair (.str) (.pair (.pair (i64) (i64)) (.pair (i64) (i64))))))))] [.d (.bool)] x = lawOut x := by kernel_rfl
theorem lawOut_ok : lawOut_con.ok Try.prog 7 := fn_ok (con := lawOut_con) (mkEnvM_ok (cons := [(13, szPlateL_con), (15, toPlateR_con), (27, outS_con), (28, outI_con), (29, eqIntS_con), (17, eqPlateL_con), (32, heldIntS_con)]) (mcons := [(30, markPlate_con), (31, markIntS_con)]) ⟨szPlateL_ok, toPlateR_ok, outS_ok, outI_ok, eqIntS_ok, eqPlateL_ok, heldIntS_ok, trivial⟩ ⟨markPlate_ok, markIntS_ok, trivial⟩ []) Try.func7 rfl (by kernel_rfl) (by exact trivial) (fun x y h => (lawOut_run x).trans h)

def cloneS_t : Bool × (List ((ByteArray × (Int × Int) × Int × Int))) → Option (List ((ByteArray × (Int × Int) × Int × Int))) :=
fun x => br x.1 (some []) (br (decide ((0 : Nat) + x.2.length ≤ (4294967296 : Nat))) (some ([] ++ x.2)) none)
def cloneS : List ((ByteArray × (Int × Int) × Int × Int)) → Option (List ((ByteArray × (Int × Int) × Int × Int))) := fun x => cloneS_t (false, x)
def cloneS_con : Con := ⟨[.slice (.pair (.str) (.pair (.pair (i64) (i64)) (.pair (i64) (i64))))], [.row 72 (.pair (.str) (.pair (.pair (i64) (i64)) (.pair (i64) (i64))))], cloneS⟩
theorem cloneS_run (x : Bool × Dens [.slice (.pair (.str) (.pair (.pair (i64) (i64)) (.pair (i64) (i64))))]) : runFnN (mkEnv [] []) Try.f77 [.slice (.pair (.str) (.pair (.pair (i64) (i64)) (.pair (i64) (i64))))] [.row 72 (.pair (.str) (.pair (.pair (i64) (i64)) (.pair (i64) (i64))))] x.1 x.2 = cloneS_t x := by kernel_rfl
theorem cloneS_nil (x : Dens [.slice (.pair (.str) (.pair (.pair (i64) (i64)) (.pair (i64) (i64))))]) (h : nil1 [.slice (.pair (.str) (.pair (.pair (i64) (i64)) (.pair (i64) (i64))))] x) : cloneS_t (true, x) = cloneS x := by
  have h : x = [] := h
  subst h
  rfl
theorem cloneS_ok : cloneS_con.ok Try.prog 77 := fn_okN (con := cloneS_con) (mkEnv_ok (cons := []) trivial []) Try.func77 rfl (by kernel_rfl) (by exact trivial) (fun b x y hn h => (cloneS_run (b, x)).trans (match b, hn with | false, _ => h | true, hn => (cloneS_nil x (hn rfl)).trans h))

def mirIL_vars : Vars := [(1, .boxR 29 (.pair (.d (i64)) (.pair (.d (i64)) (.pair (.d (i64)) (.pair (.d (i64)) (.row 72 (.pair (.str) (.pair (.pair (i64) (i64)) (.pair (i64) (i64)))))))))), (2, .box 0 29 (.pair (i64) (.pair (i64) (.pair (i64) (.pair (i64) (.slice (.pair (.str) (.pair (.pair (i64) (i64)) (.pair (i64) (i64)))))))))), (15, .val (i64)), (16, .val (i64))]
def mirIL_step : (Int × Int × Int × Int × List ((ByteArray × (Int × Int) × Int × Int))) × (Int × Int × Int × Int × List ((ByteArray × (Int × Int) × Int × Int))) × Int × Int → Option (LRes × ((Int × Int × Int × Int × List ((ByteArray × (Int × Int) × Int × Int))) × (Int × Int × Int × Int × List ((ByteArray × (Int × Int) × Int × Int))) × Int × Int)) :=
fun x =>
  br (decide (x.snd.snd.2 < x.snd.snd.1))
    (ob (idx x.fst.snd.snd.snd.2 x.snd.snd.2) fun x_1 =>
      ob (List.get?Internal x.fst.snd.snd.snd.2 (Int.toNat x.snd.snd.2)) fun x_2 =>
        ob (idx x.fst.snd.snd.snd.2 x.snd.snd.2) fun x_3 =>
          ob (List.get?Internal x.fst.snd.snd.snd.2 (Int.toNat x.snd.snd.2)) fun x_4 =>
            some
              (LRes.next,
                (x.fst.1, x.fst.snd.1, x.fst.snd.snd.1, x.fst.snd.snd.snd.1,
                  List.set x.fst.snd.snd.snd.2 (Int.toNat x.snd.snd.2)
                    (x_4.1, (IntKind.i64.wrap (x.fst.1 - x_2.snd.fst.1), x_4.snd.fst.2), x_4.snd.snd.1, x_4.snd.snd.2)),
                (x.snd.fst.1, x.snd.fst.snd.1, x.snd.fst.snd.snd.1, x.snd.fst.snd.snd.snd.1, x.snd.fst.snd.snd.snd.2),
                x.snd.snd.1, IntKind.i64.wrap (x.snd.snd.2 + (1 : Int))))
    (some
      (LRes.out, (x.fst.1, x.fst.snd.1, x.fst.snd.snd.1, x.fst.snd.snd.snd.1, x.fst.snd.snd.snd.2),
        (x.snd.fst.1, x.snd.fst.snd.1, x.snd.fst.snd.snd.1, x.snd.fst.snd.snd.snd.1, x.snd.fst.snd.snd.snd.2),
        x.snd.snd.1, x.snd.snd.2))
def mirIL_fuel : (Int × Int × Int × Int × List ((ByteArray × (Int × Int) × Int × Int))) × (Int × Int × Int × Int × List ((ByteArray × (Int × Int) × Int × Int))) × Int × Int → Nat := fun s => (s.2.2.1 - s.2.2.2).toNat + 1
def mirIL : (Int × Int × Int × Int × List ((ByteArray × (Int × Int) × Int × Int))) × (Int × Int × Int × Int × List ((ByteArray × (Int × Int) × Int × Int))) × Int × Int → Option ((Int × Int × Int × Int × List ((ByteArray × (Int × Int) × Int × Int))) × (Int × Int × Int × Int × List ((ByteArray × (Int × Int) × Int × Int))) × Int × Int) := fun s => iterP mirIL_step (mirIL_fuel s) s
def mirIL_L : LoopC := ⟨mirIL_vars, 0, .plain mirIL⟩
noncomputable def mirIL_key : Nat := key (loopAt Try.f36 0)
theorem mirIL_stepok (x : mirIL_vars.den) : stepOf (mkEnv [] []) Try.f36.ntmps mirIL_vars 0 (loopAt Try.f36 0) x = mirIL_step x := by kernel_rfl
theorem mirIL_ok : LoopOK Try.prog Try.f36.ntmps mirIL_L (loopAt Try.f36 0)   := iterP_loop (n := Try.f36.ntmps) (vs := mirIL_vars) (out := 0) (body := loopAt Try.f36 0) (mkEnv_ok (cons := []) trivial []) mirIL_step mirIL_fuel (by exact trivial) mirIL_stepok

def mirI : (Int × Int × Int × Int × List ((ByteArray × (Int × Int) × Int × Int))) → Option ((Int × Int × Int × Int × List ((ByteArray × (Int × Int) × Int × Int))) × Int) :=
fun x =>
  ob (validPlateI (x.1, x.snd.1, x.snd.snd.1, x.snd.snd.snd.1, x.snd.snd.snd.2)) fun y =>
    br (!y) (some (((0 : Int), (0 : Int), (0 : Int), (0 : Int), []), (1 : Int)))
      (ob (cloneS x.snd.snd.snd.2) fun y =>
        ob
          (mirIL
            ((x.1, x.snd.1, x.snd.snd.1, x.snd.snd.snd.1, y), ((0 : Int), (0 : Int), (0 : Int), (0 : Int), []),
              (↑(List.length y) : Int), (0 : Int)))
          fun r => some ((r.fst.1, r.fst.snd.1, r.fst.snd.snd.1, r.fst.snd.snd.snd.1, r.fst.snd.snd.snd.2), (0 : Int)))
def mirI_con : Con := ⟨[.pair (i64) (.pair (i64) (.pair (i64) (.pair (i64) (.slice (.pair (.str) (.pair (.pair (i64) (i64)) (.pair (i64) (i64))))))))], [.pair (.d (i64)) (.pair (.d (i64)) (.pair (.d (i64)) (.pair (.d (i64)) (.row 72 (.pair (.str) (.pair (.pair (i64) (i64)) (.pair (i64) (i64)))))))), .d (i64)], mirI⟩
theorem mirI_run (x : Dens [.pair (i64) (.pair (i64) (.pair (i64) (.pair (i64) (.slice (.pair (.str) (.pair (.pair (i64) (i64)) (.pair (i64) (i64))))))))]) : runFn (mkEnv [(19, validPlateI_con), (77, cloneS_con)] [(mirIL_key, mirIL_L)]) Try.f36 [.pair (i64) (.pair (i64) (.pair (i64) (.pair (i64) (.slice (.pair (.str) (.pair (.pair (i64) (i64)) (.pair (i64) (i64))))))))] [.pair (.d (i64)) (.pair (.d (i64)) (.pair (.d (i64)) (.pair (.d (i64)) (.row 72 (.pair (.str) (.pair (.pair (i64) (i64)) (.pair (i64) (i64)))))))), .d (i64)] x = mirI x := by kernel_rfl
theorem mirI_ok : mirI_con.ok Try.prog 36 := fn_ok (con := mirI_con) (mkEnv_ok (cons := [(19, validPlateI_con), (77, cloneS_con)]) ⟨validPlateI_ok, cloneS_ok, trivial⟩ [(mirIL_key, mirIL_L)]) Try.func36 rfl (by kernel_rfl) (by exact ⟨mirIL_ok, trivial⟩) (fun x y h => (mirI_run x).trans h)

def turnIL_vars : Vars := [(1, .boxR 29 (.pair (.d (i64)) (.pair (.d (i64)) (.pair (.d (i64)) (.pair (.d (i64)) (.row 72 (.pair (.str) (.pair (.pair (i64) (i64)) (.pair (i64) (i64)))))))))), (2, .box 0 29 (.pair (i64) (.pair (i64) (.pair (i64) (.pair (i64) (.slice (.pair (.str) (.pair (.pair (i64) (i64)) (.pair (i64) (i64)))))))))), (15, .same 1 (.pair (.d (i64)) (.pair (.d (i64)) (.pair (.d (i64)) (.pair (.d (i64)) (.row 72 (.pair (.str) (.pair (.pair (i64) (i64)) (.pair (i64) (i64))))))))) 0), (16, .val (i64)), (17, .val (i64))]
def turnIL_step : (Int × Int × Int × Int × List ((ByteArray × (Int × Int) × Int × Int))) × (Int × Int × Int × Int × List ((ByteArray × (Int × Int) × Int × Int))) × Unit × Int × Int → Option (LRes × ((Int × Int × Int × Int × List ((ByteArray × (Int × Int) × Int × Int))) × (Int × Int × Int × Int × List ((ByteArray × (Int × Int) × Int × Int))) × Unit × Int × Int)) :=
fun x =>
  br (decide (x.snd.snd.snd.2 < x.snd.snd.snd.1))
    (ob (idx x.fst.snd.snd.snd.2 x.snd.snd.snd.2) fun x_1 =>
      ob (List.get?Internal x.fst.snd.snd.snd.2 (Int.toNat x.snd.snd.snd.2)) fun x_2 =>
        ob (idx x.fst.snd.snd.snd.2 x.snd.snd.snd.2) fun x_3 =>
          ob (List.get?Internal x.fst.snd.snd.snd.2 (Int.toNat x.snd.snd.snd.2)) fun x_4 =>
            some
              (LRes.next,
                (x.fst.1, x.fst.snd.1, x.fst.snd.snd.1, x.fst.snd.snd.snd.1,
                  List.set x.fst.snd.snd.snd.2 (Int.toNat x.snd.snd.snd.2)
                    (x_4.1, (IntKind.i64.wrap (x.fst.snd.1 - x_2.snd.fst.2), x_2.snd.fst.1), x_4.snd.snd.1,
                      x_4.snd.snd.2)),
                (x.snd.fst.1, x.snd.fst.snd.1, x.snd.fst.snd.snd.1, x.snd.fst.snd.snd.snd.1, x.snd.fst.snd.snd.snd.2),
                PUnit.unit, x.snd.snd.snd.1, IntKind.i64.wrap (x.snd.snd.snd.2 + (1 : Int))))
    (some
      (LRes.out, (x.fst.1, x.fst.snd.1, x.fst.snd.snd.1, x.fst.snd.snd.snd.1, x.fst.snd.snd.snd.2),
        (x.snd.fst.1, x.snd.fst.snd.1, x.snd.fst.snd.snd.1, x.snd.fst.snd.snd.snd.1, x.snd.fst.snd.snd.snd.2),
        PUnit.unit, x.snd.snd.snd.1, x.snd.snd.snd.2))
def turnIL_fuel : (Int × Int × Int × Int × List ((ByteArray × (Int × Int) × Int × Int))) × (Int × Int × Int × Int × List ((ByteArray × (Int × Int) × Int × Int))) × Unit × Int × Int → Nat := fun s => (s.2.2.2.1 - s.2.2.2.2).toNat + 1
def turnIL : (Int × Int × Int × Int × List ((ByteArray × (Int × Int) × Int × Int))) × (Int × Int × Int × Int × List ((ByteArray × (Int × Int) × Int × Int))) × Unit × Int × Int → Option ((Int × Int × Int × Int × List ((ByteArray × (Int × Int) × Int × Int))) × (Int × Int × Int × Int × List ((ByteArray × (Int × Int) × Int × Int))) × Unit × Int × Int) := fun s => iterP turnIL_step (turnIL_fuel s) s
def turnIL_L : LoopC := ⟨turnIL_vars, 0, .plain turnIL⟩
noncomputable def turnIL_key : Nat := key (loopAt Try.f39 0)
theorem turnIL_stepok (x : turnIL_vars.den) : stepOf (mkEnv [] []) Try.f39.ntmps turnIL_vars 0 (loopAt Try.f39 0) x = turnIL_step x := by kernel_rfl
theorem turnIL_ok : LoopOK Try.prog Try.f39.ntmps turnIL_L (loopAt Try.f39 0)   := iterP_loop (n := Try.f39.ntmps) (vs := turnIL_vars) (out := 0) (body := loopAt Try.f39 0) (mkEnv_ok (cons := []) trivial []) turnIL_step turnIL_fuel (by exact trivial) turnIL_stepok

def turnPI : (Int × Int × Int × Int × List ((ByteArray × (Int × Int) × Int × Int))) → Option ((Int × Int × Int × Int × List ((ByteArray × (Int × Int) × Int × Int))) × Int) :=
fun x =>
  ob (validPlateI (x.1, x.snd.1, x.snd.snd.1, x.snd.snd.snd.1, x.snd.snd.snd.2)) fun y =>
    br (!y) (some (((0 : Int), (0 : Int), (0 : Int), (0 : Int), []), (1 : Int)))
      (ob (cloneS x.snd.snd.snd.2) fun y =>
        ob
          (turnIL
            ((x.1, x.snd.1, x.snd.snd.1, x.snd.snd.snd.1, y), ((0 : Int), (0 : Int), (0 : Int), (0 : Int), []),
              PUnit.unit, (↑(List.length y) : Int), (0 : Int)))
          fun r => some ((r.fst.snd.1, r.fst.1, r.fst.snd.snd.1, r.fst.snd.snd.snd.1, r.fst.snd.snd.snd.2), (0 : Int)))
def turnPI_con : Con := ⟨[.pair (i64) (.pair (i64) (.pair (i64) (.pair (i64) (.slice (.pair (.str) (.pair (.pair (i64) (i64)) (.pair (i64) (i64))))))))], [.pair (.d (i64)) (.pair (.d (i64)) (.pair (.d (i64)) (.pair (.d (i64)) (.row 72 (.pair (.str) (.pair (.pair (i64) (i64)) (.pair (i64) (i64)))))))), .d (i64)], turnPI⟩
theorem turnPI_run (x : Dens [.pair (i64) (.pair (i64) (.pair (i64) (.pair (i64) (.slice (.pair (.str) (.pair (.pair (i64) (i64)) (.pair (i64) (i64))))))))]) : runFn (mkEnv [(19, validPlateI_con), (77, cloneS_con)] [(turnIL_key, turnIL_L)]) Try.f39 [.pair (i64) (.pair (i64) (.pair (i64) (.pair (i64) (.slice (.pair (.str) (.pair (.pair (i64) (i64)) (.pair (i64) (i64))))))))] [.pair (.d (i64)) (.pair (.d (i64)) (.pair (.d (i64)) (.pair (.d (i64)) (.row 72 (.pair (.str) (.pair (.pair (i64) (i64)) (.pair (i64) (i64)))))))), .d (i64)] x = turnPI x := by kernel_rfl
theorem turnPI_ok : turnPI_con.ok Try.prog 39 := fn_ok (con := turnPI_con) (mkEnv_ok (cons := [(19, validPlateI_con), (77, cloneS_con)]) ⟨validPlateI_ok, cloneS_ok, trivial⟩ [(turnIL_key, turnIL_L)]) Try.func39 rfl (by kernel_rfl) (by exact ⟨turnIL_ok, trivial⟩) (fun x y h => (turnPI_run x).trans h)

def movSL_vars : Vars := [(1, .val (i64)), (2, .box 0 29 (.pair (i64) (.pair (i64) (.pair (i64) (.pair (i64) (.slice (.pair (.str) (.pair (.pair (i64) (i64)) (.pair (i64) (i64)))))))))), (4, .box 0 29 (.pair (i64) (.pair (i64) (.pair (i64) (.pair (i64) (.slice (.pair (.str) (.pair (.pair (i64) (i64)) (.pair (i64) (i64)))))))))), (5, .boxR 29 (.pair (.d (i64)) (.pair (.d (i64)) (.pair (.d (i64)) (.pair (.d (i64)) (.row 72 (.pair (.str) (.pair (.pair (i64) (i64)) (.pair (i64) (i64)))))))))), (6, .val (i64))]
def movSL_step : Int × (Int × Int × Int × Int × List ((ByteArray × (Int × Int) × Int × Int))) × (Int × Int × Int × Int × List ((ByteArray × (Int × Int) × Int × Int))) × (Int × Int × Int × Int × List ((ByteArray × (Int × Int) × Int × Int))) × Int → Option (LRes × (Int × (Int × Int × Int × Int × List ((ByteArray × (Int × Int) × Int × Int))) × (Int × Int × Int × Int × List ((ByteArray × (Int × Int) × Int × Int))) × (Int × Int × Int × Int × List ((ByteArray × (Int × Int) × Int × Int))) × Int)) :=
fun x =>
  br (decide (x.snd.snd.snd.2 < (↑(List.length x.snd.fst.snd.snd.snd.2) : Int)))
    (ob (idx x.snd.fst.snd.snd.snd.2 x.snd.snd.snd.2) fun y =>
      br (x.1 == (1 : Int))
        (br
          (decide
            (List.length x.snd.snd.snd.fst.snd.snd.snd.2 +
                [(y.1, (IntKind.i64.wrap (x.snd.fst.1 - y.snd.fst.1), y.snd.fst.2), y.snd.snd.1, y.snd.snd.2)].length ≤
              (4294967296 : Nat)))
          (some
            (LRes.next, x.1,
              (x.snd.fst.1, x.snd.fst.snd.1, x.snd.fst.snd.snd.1, x.snd.fst.snd.snd.snd.1, x.snd.fst.snd.snd.snd.2),
              (x.snd.snd.fst.1, x.snd.snd.fst.snd.1, x.snd.snd.fst.snd.snd.1, x.snd.snd.fst.snd.snd.snd.1,
                x.snd.snd.fst.snd.snd.snd.2),
              (x.snd.snd.snd.fst.1, x.snd.snd.snd.fst.snd.1, x.snd.snd.snd.fst.snd.snd.1,
                x.snd.snd.snd.fst.snd.snd.snd.1,
                x.snd.snd.snd.fst.snd.snd.snd.2 ++
                  [(y.1, (IntKind.i64.wrap (x.snd.fst.1 - y.snd.fst.1), y.snd.fst.2), y.snd.snd.1, y.snd.snd.2)]),
              IntKind.i64.wrap (x.snd.snd.snd.2 + (1 : Int))))
          none)
        (br (x.1 == (2 : Int))
          (br
            (decide
              (List.length x.snd.snd.snd.fst.snd.snd.snd.2 +
                  [(y.1, (IntKind.i64.wrap (x.snd.fst.snd.1 - y.snd.fst.2), y.snd.fst.1), y.snd.snd.1,
                        y.snd.snd.2)].length ≤
                (4294967296 : Nat)))
            (some
              (LRes.next, x.1,
                (x.snd.fst.1, x.snd.fst.snd.1, x.snd.fst.snd.snd.1, x.snd.fst.snd.snd.snd.1, x.snd.fst.snd.snd.snd.2),
                (x.snd.snd.fst.1, x.snd.snd.fst.snd.1, x.snd.snd.fst.snd.snd.1, x.snd.snd.fst.snd.snd.snd.1,
                  x.snd.snd.fst.snd.snd.snd.2),
                (x.snd.snd.snd.fst.1, x.snd.snd.snd.fst.snd.1, x.snd.snd.snd.fst.snd.snd.1,
                  x.snd.snd.snd.fst.snd.snd.snd.1,
                  x.snd.snd.snd.fst.snd.snd.snd.2 ++
                    [(y.1, (IntKind.i64.wrap (x.snd.fst.snd.1 - y.snd.fst.2), y.snd.fst.1), y.snd.snd.1, y.snd.snd.2)]),
                IntKind.i64.wrap (x.snd.snd.snd.2 + (1 : Int))))
            none)
          (br
            (decide
              (List.length x.snd.snd.snd.fst.snd.snd.snd.2 +
                  [(y.1, (y.snd.fst.1, y.snd.fst.2), y.snd.snd.1, y.snd.snd.2)].length ≤
                (4294967296 : Nat)))
            (some
              (LRes.next, x.1,
                (x.snd.fst.1, x.snd.fst.snd.1, x.snd.fst.snd.snd.1, x.snd.fst.snd.snd.snd.1, x.snd.fst.snd.snd.snd.2),
                (x.snd.snd.fst.1, x.snd.snd.fst.snd.1, x.snd.snd.fst.snd.snd.1, x.snd.snd.fst.snd.snd.snd.1,
                  x.snd.snd.fst.snd.snd.snd.2),
                (x.snd.snd.snd.fst.1, x.snd.snd.snd.fst.snd.1, x.snd.snd.snd.fst.snd.snd.1,
                  x.snd.snd.snd.fst.snd.snd.snd.1,
                  x.snd.snd.snd.fst.snd.snd.snd.2 ++ [(y.1, (y.snd.fst.1, y.snd.fst.2), y.snd.snd.1, y.snd.snd.2)]),
                IntKind.i64.wrap (x.snd.snd.snd.2 + (1 : Int))))
            none)))
    (some
      (LRes.out, x.1,
        (x.snd.fst.1, x.snd.fst.snd.1, x.snd.fst.snd.snd.1, x.snd.fst.snd.snd.snd.1, x.snd.fst.snd.snd.snd.2),
        (x.snd.snd.fst.1, x.snd.snd.fst.snd.1, x.snd.snd.fst.snd.snd.1, x.snd.snd.fst.snd.snd.snd.1,
          x.snd.snd.fst.snd.snd.snd.2),
        (x.snd.snd.snd.fst.1, x.snd.snd.snd.fst.snd.1, x.snd.snd.snd.fst.snd.snd.1, x.snd.snd.snd.fst.snd.snd.snd.1,
          x.snd.snd.snd.fst.snd.snd.snd.2),
        x.snd.snd.snd.2))
def movSL_fuel : Int × (Int × Int × Int × Int × List ((ByteArray × (Int × Int) × Int × Int))) × (Int × Int × Int × Int × List ((ByteArray × (Int × Int) × Int × Int))) × (Int × Int × Int × Int × List ((ByteArray × (Int × Int) × Int × Int))) × Int → Nat := fun s => (s.2.1.2.2.2.2.length - s.2.2.2.2.toNat) + 1
def movSL : Int × (Int × Int × Int × Int × List ((ByteArray × (Int × Int) × Int × Int))) × (Int × Int × Int × Int × List ((ByteArray × (Int × Int) × Int × Int))) × (Int × Int × Int × Int × List ((ByteArray × (Int × Int) × Int × Int))) × Int → Option (Int × (Int × Int × Int × Int × List ((ByteArray × (Int × Int) × Int × Int))) × (Int × Int × Int × Int × List ((ByteArray × (Int × Int) × Int × Int))) × (Int × Int × Int × Int × List ((ByteArray × (Int × Int) × Int × Int))) × Int) := fun s => iterP movSL_step (movSL_fuel s) s
def movSL_L : LoopC := ⟨movSL_vars, 0, .plain movSL⟩
noncomputable def movSL_key : Nat := key (loopAt Try.f76 0)
theorem movSL_stepok (x : movSL_vars.den) : stepOf (mkEnv [] []) Try.f76.ntmps movSL_vars 0 (loopAt Try.f76 0) x = movSL_step x := by kernel_rfl
theorem movSL_ok : LoopOK Try.prog Try.f76.ntmps movSL_L (loopAt Try.f76 0)   := iterP_loop (n := Try.f76.ntmps) (vs := movSL_vars) (out := 0) (body := loopAt Try.f76 0) (mkEnv_ok (cons := []) trivial []) movSL_step movSL_fuel (by exact trivial) movSL_stepok

def movS : (Int × Int × Int × Int × List ((ByteArray × (Int × Int) × Int × Int))) × Int → Option ((Int × Int × Int × Int × List ((ByteArray × (Int × Int) × Int × Int)))) :=
fun x =>
  br (x.2 == (2 : Int))
    (ob
      (movSL
        (x.2, (x.fst.1, x.fst.snd.1, x.fst.snd.snd.1, x.fst.snd.snd.snd.1, x.fst.snd.snd.snd.2),
          ((0 : Int), (0 : Int), (0 : Int), (0 : Int), []),
          (x.fst.snd.1, x.fst.1, x.fst.snd.snd.1, x.fst.snd.snd.snd.1, []), (0 : Int)))
      fun r =>
      some
        (r.snd.snd.snd.fst.1, r.snd.snd.snd.fst.snd.1, r.snd.snd.snd.fst.snd.snd.1, r.snd.snd.snd.fst.snd.snd.snd.1,
          r.snd.snd.snd.fst.snd.snd.snd.2))
    (ob
      (movSL
        (x.2, (x.fst.1, x.fst.snd.1, x.fst.snd.snd.1, x.fst.snd.snd.snd.1, x.fst.snd.snd.snd.2),
          ((0 : Int), (0 : Int), (0 : Int), (0 : Int), []),
          (x.fst.1, x.fst.snd.1, x.fst.snd.snd.1, x.fst.snd.snd.snd.1, []), (0 : Int)))
      fun r =>
      some
        (r.snd.snd.snd.fst.1, r.snd.snd.snd.fst.snd.1, r.snd.snd.snd.fst.snd.snd.1, r.snd.snd.snd.fst.snd.snd.snd.1,
          r.snd.snd.snd.fst.snd.snd.snd.2))
def movS_con : Con := ⟨[.pair (i64) (.pair (i64) (.pair (i64) (.pair (i64) (.slice (.pair (.str) (.pair (.pair (i64) (i64)) (.pair (i64) (i64)))))))), i64], [.pair (.d (i64)) (.pair (.d (i64)) (.pair (.d (i64)) (.pair (.d (i64)) (.row 72 (.pair (.str) (.pair (.pair (i64) (i64)) (.pair (i64) (i64))))))))], movS⟩
theorem movS_run (x : Dens [.pair (i64) (.pair (i64) (.pair (i64) (.pair (i64) (.slice (.pair (.str) (.pair (.pair (i64) (i64)) (.pair (i64) (i64)))))))), i64]) : runFn (mkEnv [] [(movSL_key, movSL_L)]) Try.f76 [.pair (i64) (.pair (i64) (.pair (i64) (.pair (i64) (.slice (.pair (.str) (.pair (.pair (i64) (i64)) (.pair (i64) (i64)))))))), i64] [.pair (.d (i64)) (.pair (.d (i64)) (.pair (.d (i64)) (.pair (.d (i64)) (.row 72 (.pair (.str) (.pair (.pair (i64) (i64)) (.pair (i64) (i64))))))))] x = movS x := by kernel_rfl
theorem movS_ok : movS_con.ok Try.prog 76 := fn_ok (con := movS_con) (mkEnv_ok (cons := []) trivial [(movSL_key, movSL_L)]) Try.func76 rfl (by kernel_rfl) (by exact ⟨movSL_ok, trivial⟩) (fun x y h => (movS_run x).trans h)

def mirS : (Int × Int × Int × Int × List ((ByteArray × (Int × Int) × Int × Int))) → Option ((Int × Int × Int × Int × List ((ByteArray × (Int × Int) × Int × Int))) × Int) :=
fun x =>
  ob (okPlateS (x.1, x.snd.1, x.snd.snd.1, x.snd.snd.snd.1, x.snd.snd.snd.2)) fun y =>
    br (!y) (some (((0 : Int), (0 : Int), (0 : Int), (0 : Int), []), (1 : Int)))
      (ob (movS ((x.1, x.snd.1, x.snd.snd.1, x.snd.snd.snd.1, x.snd.snd.snd.2), (1 : Int))) fun y =>
        some ((y.1, y.snd.1, y.snd.snd.1, y.snd.snd.snd.1, y.snd.snd.snd.2), (0 : Int)))
def mirS_con : Con := ⟨[.pair (i64) (.pair (i64) (.pair (i64) (.pair (i64) (.slice (.pair (.str) (.pair (.pair (i64) (i64)) (.pair (i64) (i64))))))))], [.pair (.d (i64)) (.pair (.d (i64)) (.pair (.d (i64)) (.pair (.d (i64)) (.row 72 (.pair (.str) (.pair (.pair (i64) (i64)) (.pair (i64) (i64)))))))), .d (i64)], mirS⟩
theorem mirS_run (x : Dens [.pair (i64) (.pair (i64) (.pair (i64) (.pair (i64) (.slice (.pair (.str) (.pair (.pair (i64) (i64)) (.pair (i64) (i64))))))))]) : runFn (mkEnv [(49, okPlateS_con), (76, movS_con)] []) Try.f35 [.pair (i64) (.pair (i64) (.pair (i64) (.pair (i64) (.slice (.pair (.str) (.pair (.pair (i64) (i64)) (.pair (i64) (i64))))))))] [.pair (.d (i64)) (.pair (.d (i64)) (.pair (.d (i64)) (.pair (.d (i64)) (.row 72 (.pair (.str) (.pair (.pair (i64) (i64)) (.pair (i64) (i64)))))))), .d (i64)] x = mirS x := by kernel_rfl
theorem mirS_ok : mirS_con.ok Try.prog 35 := fn_ok (con := mirS_con) (mkEnv_ok (cons := [(49, okPlateS_con), (76, movS_con)]) ⟨okPlateS_ok, movS_ok, trivial⟩ []) Try.func35 rfl (by kernel_rfl) (by exact trivial) (fun x y h => (mirS_run x).trans h)

def turnPS : (Int × Int × Int × Int × List ((ByteArray × (Int × Int) × Int × Int))) → Option ((Int × Int × Int × Int × List ((ByteArray × (Int × Int) × Int × Int))) × Int) :=
fun x =>
  ob (okPlateS (x.1, x.snd.1, x.snd.snd.1, x.snd.snd.snd.1, x.snd.snd.snd.2)) fun y =>
    br (!y) (some (((0 : Int), (0 : Int), (0 : Int), (0 : Int), []), (1 : Int)))
      (ob (movS ((x.1, x.snd.1, x.snd.snd.1, x.snd.snd.snd.1, x.snd.snd.snd.2), (2 : Int))) fun y =>
        some ((y.1, y.snd.1, y.snd.snd.1, y.snd.snd.snd.1, y.snd.snd.snd.2), (0 : Int)))
def turnPS_con : Con := ⟨[.pair (i64) (.pair (i64) (.pair (i64) (.pair (i64) (.slice (.pair (.str) (.pair (.pair (i64) (i64)) (.pair (i64) (i64))))))))], [.pair (.d (i64)) (.pair (.d (i64)) (.pair (.d (i64)) (.pair (.d (i64)) (.row 72 (.pair (.str) (.pair (.pair (i64) (i64)) (.pair (i64) (i64)))))))), .d (i64)], turnPS⟩
theorem turnPS_run (x : Dens [.pair (i64) (.pair (i64) (.pair (i64) (.pair (i64) (.slice (.pair (.str) (.pair (.pair (i64) (i64)) (.pair (i64) (i64))))))))]) : runFn (mkEnv [(49, okPlateS_con), (76, movS_con)] []) Try.f38 [.pair (i64) (.pair (i64) (.pair (i64) (.pair (i64) (.slice (.pair (.str) (.pair (.pair (i64) (i64)) (.pair (i64) (i64))))))))] [.pair (.d (i64)) (.pair (.d (i64)) (.pair (.d (i64)) (.pair (.d (i64)) (.row 72 (.pair (.str) (.pair (.pair (i64) (i64)) (.pair (i64) (i64)))))))), .d (i64)] x = turnPS x := by kernel_rfl
theorem turnPS_ok : turnPS_con.ok Try.prog 38 := fn_ok (con := turnPS_con) (mkEnv_ok (cons := [(49, okPlateS_con), (76, movS_con)]) ⟨okPlateS_ok, movS_ok, trivial⟩ []) Try.func38 rfl (by kernel_rfl) (by exact trivial) (fun x y h => (turnPS_run x).trans h)

def lawMir : (Int × Int × Int × Int × List ((ByteArray × (Int × Int) × Int × Int))) → Option (Bool) :=
fun x =>
  ob (szPlateL ((x.1, x.snd.1, x.snd.snd.1, x.snd.snd.snd.1, x.snd.snd.snd.2), (1048576 : Int))) fun y =>
    br (decide (y < (0 : Int))) (some true)
      (ob (toPlateR (x.1, x.snd.1, x.snd.snd.1, x.snd.snd.snd.1, x.snd.snd.snd.2)) fun y =>
        ob (mirS (y.1, y.snd.1, y.snd.snd.1, y.snd.snd.snd.1, y.snd.snd.snd.2)) fun y =>
          ob (toPlateR (x.1, x.snd.1, x.snd.snd.1, x.snd.snd.snd.1, x.snd.snd.snd.2)) fun y_1 =>
            ob (mirI (y_1.1, y_1.snd.1, y_1.snd.snd.1, y_1.snd.snd.snd.1, y_1.snd.snd.snd.2)) fun y_2 =>
              ob
                (eqPlateL
                  ((y_2.fst.1, y_2.fst.snd.1, y_2.fst.snd.snd.1, y_2.fst.snd.snd.snd.1, y_2.fst.snd.snd.snd.2), y.fst.1,
                    y.fst.snd.1, y.fst.snd.snd.1, y.fst.snd.snd.snd.1, y.fst.snd.snd.snd.2))
                fun y_3 =>
                br (!y_3) (some false)
                  (br (y_2.2 != y.2) (some false)
                    (ob (toPlateR (x.1, x.snd.1, x.snd.snd.1, x.snd.snd.snd.1, x.snd.snd.snd.2)) fun y_4 =>
                      ob
                        (eqPlateL
                          ((y_1.1, y_1.snd.1, y_1.snd.snd.1, y_1.snd.snd.snd.1, y_1.snd.snd.snd.2), y_4.1, y_4.snd.1,
                            y_4.snd.snd.1, y_4.snd.snd.snd.1, y_4.snd.snd.snd.2))
                        fun y_5 =>
                        br (!y_5) (some false)
                          (ob
                            (markPlate
                              ((y_1.1, y_1.snd.1, y_1.snd.snd.1, y_1.snd.snd.snd.1, y_1.snd.snd.snd.2), (1 : Int)))
                            fun y_6 =>
                            br (decide (y_6.1 < (0 : Int))) (some false)
                              (ob
                                (eqPlateL
                                  ((y_2.fst.1, y_2.fst.snd.1, y_2.fst.snd.snd.1, y_2.fst.snd.snd.snd.1,
                                      y_2.fst.snd.snd.snd.2),
                                    y.fst.1, y.fst.snd.1, y.fst.snd.snd.1, y.fst.snd.snd.snd.1, y.fst.snd.snd.snd.2))
                                fun y_7 =>
                                br (!y_7) (some false)
                                  (br (y_2.2 != y.2) (some false)
                                    (ob
                                      (markPlate
                                        ((y_2.fst.1, y_2.fst.snd.1, y_2.fst.snd.snd.1, y_2.fst.snd.snd.snd.1,
                                            y_2.fst.snd.snd.snd.2),
                                          (1 : Int)))
                                      fun y_8 =>
                                      ob
                                        (heldPlate
                                          ((y_2.fst.1, y_2.fst.snd.1, y_2.fst.snd.snd.1, y_2.fst.snd.snd.snd.1,
                                              y_8.snd.fst.snd.snd.snd.2),
                                            (1 : Int)))
                                        fun y_9 =>
                                        br (decide (y_9 < (0 : Int))) (some false)
                                          (br (y_9 != y_8.1) (some false)
                                            (ob (toPlateR (x.1, x.snd.1, x.snd.snd.1, x.snd.snd.snd.1, x.snd.snd.snd.2))
                                              fun y_10 =>
                                              ob
                                                (mirI
                                                  (y_10.1, y_10.snd.1, y_10.snd.snd.1, y_10.snd.snd.snd.1,
                                                    y_10.snd.snd.snd.2))
                                                fun y_11 =>
                                                ob
                                                  (eqPlateL
                                                    ((y_11.fst.1, y_11.fst.snd.1, y_11.fst.snd.snd.1,
                                                        y_11.fst.snd.snd.snd.1, y_11.fst.snd.snd.snd.2),
                                                      y.fst.1, y.fst.snd.1, y.fst.snd.snd.1, y.fst.snd.snd.snd.1,
                                                      y.fst.snd.snd.snd.2))
                                                  fun y_12 =>
                                                  br (!y_12) (some false)
                                                    (br (y_11.2 != y.2) (some false)
                                                      (ob
                                                        (heldPlate
                                                          ((y_2.fst.1, y_2.fst.snd.1, y_2.fst.snd.snd.1,
                                                              y_2.fst.snd.snd.snd.1, y_8.snd.fst.snd.snd.snd.2),
                                                            (1 : Int)))
                                                        fun y =>
                                                        br (decide (y < (0 : Int))) (some false)
                                                          (br (y != y_8.1) (some false) (some true)))))))))))))
def lawMir_con : Con := ⟨[.pair (i64) (.pair (i64) (.pair (i64) (.pair (i64) (.slice (.pair (.str) (.pair (.pair (i64) (i64)) (.pair (i64) (i64))))))))], [.d (.bool)], lawMir⟩
theorem lawMir_run (x : Dens [.pair (i64) (.pair (i64) (.pair (i64) (.pair (i64) (.slice (.pair (.str) (.pair (.pair (i64) (i64)) (.pair (i64) (i64))))))))]) : runFn (mkEnvM [(13, szPlateL_con), (15, toPlateR_con), (35, mirS_con), (36, mirI_con), (17, eqPlateL_con), (37, heldPlate_con)] [(30, markPlate_con)] []) Try.f9 [.pair (i64) (.pair (i64) (.pair (i64) (.pair (i64) (.slice (.pair (.str) (.pair (.pair (i64) (i64)) (.pair (i64) (i64))))))))] [.d (.bool)] x = lawMir x := by kernel_rfl
theorem lawMir_ok : lawMir_con.ok Try.prog 9 := fn_ok (con := lawMir_con) (mkEnvM_ok (cons := [(13, szPlateL_con), (15, toPlateR_con), (35, mirS_con), (36, mirI_con), (17, eqPlateL_con), (37, heldPlate_con)]) (mcons := [(30, markPlate_con)]) ⟨szPlateL_ok, toPlateR_ok, mirS_ok, mirI_ok, eqPlateL_ok, heldPlate_ok, trivial⟩ ⟨markPlate_ok, trivial⟩ []) Try.func9 rfl (by kernel_rfl) (by exact trivial) (fun x y h => (lawMir_run x).trans h)

def lawTurn : (Int × Int × Int × Int × List ((ByteArray × (Int × Int) × Int × Int))) → Option (Bool) :=
fun x =>
  ob (szPlateL ((x.1, x.snd.1, x.snd.snd.1, x.snd.snd.snd.1, x.snd.snd.snd.2), (1048576 : Int))) fun y =>
    br (decide (y < (0 : Int))) (some true)
      (ob (toPlateR (x.1, x.snd.1, x.snd.snd.1, x.snd.snd.snd.1, x.snd.snd.snd.2)) fun y =>
        ob (turnPS (y.1, y.snd.1, y.snd.snd.1, y.snd.snd.snd.1, y.snd.snd.snd.2)) fun y =>
          ob (toPlateR (x.1, x.snd.1, x.snd.snd.1, x.snd.snd.snd.1, x.snd.snd.snd.2)) fun y_1 =>
            ob (turnPI (y_1.1, y_1.snd.1, y_1.snd.snd.1, y_1.snd.snd.snd.1, y_1.snd.snd.snd.2)) fun y_2 =>
              ob
                (eqPlateL
                  ((y_2.fst.1, y_2.fst.snd.1, y_2.fst.snd.snd.1, y_2.fst.snd.snd.snd.1, y_2.fst.snd.snd.snd.2), y.fst.1,
                    y.fst.snd.1, y.fst.snd.snd.1, y.fst.snd.snd.snd.1, y.fst.snd.snd.snd.2))
                fun y_3 =>
                br (!y_3) (some false)
                  (br (y_2.2 != y.2) (some false)
                    (ob (toPlateR (x.1, x.snd.1, x.snd.snd.1, x.snd.snd.snd.1, x.snd.snd.snd.2)) fun y_4 =>
                      ob
                        (eqPlateL
                          ((y_1.1, y_1.snd.1, y_1.snd.snd.1, y_1.snd.snd.snd.1, y_1.snd.snd.snd.2), y_4.1, y_4.snd.1,
                            y_4.snd.snd.1, y_4.snd.snd.snd.1, y_4.snd.snd.snd.2))
                        fun y_5 =>
                        br (!y_5) (some false)
                          (ob
                            (markPlate
                              ((y_1.1, y_1.snd.1, y_1.snd.snd.1, y_1.snd.snd.snd.1, y_1.snd.snd.snd.2), (1 : Int)))
                            fun y_6 =>
                            br (decide (y_6.1 < (0 : Int))) (some false)
                              (ob
                                (eqPlateL
                                  ((y_2.fst.1, y_2.fst.snd.1, y_2.fst.snd.snd.1, y_2.fst.snd.snd.snd.1,
                                      y_2.fst.snd.snd.snd.2),
                                    y.fst.1, y.fst.snd.1, y.fst.snd.snd.1, y.fst.snd.snd.snd.1, y.fst.snd.snd.snd.2))
                                fun y_7 =>
                                br (!y_7) (some false)
                                  (br (y_2.2 != y.2) (some false)
                                    (ob
                                      (markPlate
                                        ((y_2.fst.1, y_2.fst.snd.1, y_2.fst.snd.snd.1, y_2.fst.snd.snd.snd.1,
                                            y_2.fst.snd.snd.snd.2),
                                          (1 : Int)))
                                      fun y_8 =>
                                      ob
                                        (heldPlate
                                          ((y_2.fst.1, y_2.fst.snd.1, y_2.fst.snd.snd.1, y_2.fst.snd.snd.snd.1,
                                              y_8.snd.fst.snd.snd.snd.2),
                                            (1 : Int)))
                                        fun y_9 =>
                                        br (decide (y_9 < (0 : Int))) (some false)
                                          (br (y_9 != y_8.1) (some false)
                                            (ob (toPlateR (x.1, x.snd.1, x.snd.snd.1, x.snd.snd.snd.1, x.snd.snd.snd.2))
                                              fun y_10 =>
                                              ob
                                                (turnPI
                                                  (y_10.1, y_10.snd.1, y_10.snd.snd.1, y_10.snd.snd.snd.1,
                                                    y_10.snd.snd.snd.2))
                                                fun y_11 =>
                                                ob
                                                  (eqPlateL
                                                    ((y_11.fst.1, y_11.fst.snd.1, y_11.fst.snd.snd.1,
                                                        y_11.fst.snd.snd.snd.1, y_11.fst.snd.snd.snd.2),
                                                      y.fst.1, y.fst.snd.1, y.fst.snd.snd.1, y.fst.snd.snd.snd.1,
                                                      y.fst.snd.snd.snd.2))
                                                  fun y_12 =>
                                                  br (!y_12) (some false)
                                                    (br (y_11.2 != y.2) (some false)
                                                      (ob
                                                        (heldPlate
                                                          ((y_2.fst.1, y_2.fst.snd.1, y_2.fst.snd.snd.1,
                                                              y_2.fst.snd.snd.snd.1, y_8.snd.fst.snd.snd.snd.2),
                                                            (1 : Int)))
                                                        fun y =>
                                                        br (decide (y < (0 : Int))) (some false)
                                                          (br (y != y_8.1) (some false) (some true)))))))))))))
def lawTurn_con : Con := ⟨[.pair (i64) (.pair (i64) (.pair (i64) (.pair (i64) (.slice (.pair (.str) (.pair (.pair (i64) (i64)) (.pair (i64) (i64))))))))], [.d (.bool)], lawTurn⟩
theorem lawTurn_run (x : Dens [.pair (i64) (.pair (i64) (.pair (i64) (.pair (i64) (.slice (.pair (.str) (.pair (.pair (i64) (i64)) (.pair (i64) (i64))))))))]) : runFn (mkEnvM [(13, szPlateL_con), (15, toPlateR_con), (38, turnPS_con), (39, turnPI_con), (17, eqPlateL_con), (37, heldPlate_con)] [(30, markPlate_con)] []) Try.f10 [.pair (i64) (.pair (i64) (.pair (i64) (.pair (i64) (.slice (.pair (.str) (.pair (.pair (i64) (i64)) (.pair (i64) (i64))))))))] [.d (.bool)] x = lawTurn x := by kernel_rfl
theorem lawTurn_ok : lawTurn_con.ok Try.prog 10 := fn_ok (con := lawTurn_con) (mkEnvM_ok (cons := [(13, szPlateL_con), (15, toPlateR_con), (38, turnPS_con), (39, turnPI_con), (17, eqPlateL_con), (37, heldPlate_con)]) (mcons := [(30, markPlate_con)]) ⟨szPlateL_ok, toPlateR_ok, turnPS_ok, turnPI_ok, eqPlateL_ok, heldPlate_ok, trivial⟩ ⟨markPlate_ok, trivial⟩ []) Try.func10 rfl (by kernel_rfl) (by exact trivial) (fun x y h => (lawTurn_run x).trans h)

end Rx
end Go.Proofs.Ytblonadjjbmmnaa
