/- What the functions of RxBeTr come to, and their contracts. No conditions. -/
import Derived.Test.YthfgpnpoocepeaaRxEnv
import Derived.Test.YthfgpnpoocepeaaRxBest
import Derived.Test.YthfgpnpoocepeaaRxSearchS
import Derived.Test.YthfgpnpoocepeaaRxPMark
namespace Go.Proofs.Ythfgpnpoocepeaa
namespace Rx
open Go

noncomputable section
def eqFoundB : (List ((Int × Int)) × (Int × Int)) × (List ((Int × Int)) × (Int × Int)) → Option (Bool) :=
fun x =>
  ob (eqPairS (x.fst.1, x.snd.1)) fun y =>
    br (!y) (some false)
      (ob (eqRatLT ((x.fst.snd.1, x.fst.snd.2), x.snd.snd.1, x.snd.snd.2)) fun y => br (!y) (some false) (some true))
def eqFoundB_con : Con := ⟨[.pair (.slice (.pair (i64) (i64))) (.pair (i64) (i64)), .pair (.slice (.pair (i64) (i64))) (.pair (i64) (i64))], [.d (.bool)], eqFoundB⟩
theorem eqFoundB_run (x : Dens [.pair (.slice (.pair (i64) (i64))) (.pair (i64) (i64)), .pair (.slice (.pair (i64) (i64))) (.pair (i64) (i64))]) : runFn (mkEnv [(46, eqPairS_con), (47, eqRatLT_con)] []) Try.f19 [.pair (.slice (.pair (i64) (i64))) (.pair (i64) (i64)), .pair (.slice (.pair (i64) (i64))) (.pair (i64) (i64))] [.d (.bool)] x = eqFoundB x := by kernel_rfl
theorem eqFoundB_ok : eqFoundB_con.ok Try.prog 19 := fn_ok (con := eqFoundB_con) (mkEnv_ok (cons := [(46, eqPairS_con), (47, eqRatLT_con)]) ⟨eqPairS_ok, eqRatLT_ok, trivial⟩ []) Try.func19 rfl (by kernel_rfl) (by exact trivial) (fun x y h => (eqFoundB_run x).trans h)

def markFoundB : (List ((Int × Int)) × (Int × Int)) × Int → Option ((Int) × ((List ((Int × Int)) × (Int × Int)) × Int)) :=
fun x => ob (markPairX (x.fst.1, x.2)) fun y => some (y.1, (y.snd.1, x.fst.2), x.2)
def markFoundB_con : MCon := ⟨[.v (.pair (.row 66 (.pair (i64) (i64))) (.d (.pair (i64) (i64)))), .v (.d (i64))], [.d (i64)], markFoundB⟩
theorem markFoundB_run (x : ADens [.v (.pair (.row 66 (.pair (i64) (i64))) (.d (.pair (i64) (i64)))), .v (.d (i64))]) : runFnM (mkEnvM [] [(48, markPairX_con)] []) Try.f20 [.v (.pair (.row 66 (.pair (i64) (i64))) (.d (.pair (i64) (i64)))), .v (.d (i64))] [.d (i64)] x = markFoundB x := by kernel_rfl
theorem markFoundB_ok : markFoundB_con.ok Try.prog 20 := fnM_ok (con := markFoundB_con) (mkEnvM_ok (cons := []) (mcons := [(48, markPairX_con)]) trivial ⟨markPairX_ok, trivial⟩ []) Try.func20 rfl (by kernel_rfl) (by exact trivial) (fun x y h => (markFoundB_run x).trans h)

def heldFoundB : (List ((Int × Int)) × (Int × Int)) × Int → Option (Int) :=
fun x => ob (heldPairX (x.fst.1, x.2)) fun y => br (decide (y < (0 : Int))) (some (-1 : Int)) (some y)
def heldFoundB_con : Con := ⟨[.pair (.slice (.pair (i64) (i64))) (.pair (i64) (i64)), i64], [.d (i64)], heldFoundB⟩
theorem heldFoundB_run (x : Dens [.pair (.slice (.pair (i64) (i64))) (.pair (i64) (i64)), i64]) : runFn (mkEnv [(49, heldPairX_con)] []) Try.f21 [.pair (.slice (.pair (i64) (i64))) (.pair (i64) (i64)), i64] [.d (i64)] x = heldFoundB x := by kernel_rfl
theorem heldFoundB_ok : heldFoundB_con.ok Try.prog 21 := fn_ok (con := heldFoundB_con) (mkEnv_ok (cons := [(49, heldPairX_con)]) ⟨heldPairX_ok, trivial⟩ []) Try.func21 rfl (by kernel_rfl) (by exact trivial) (fun x y h => (heldFoundB_run x).trans h)

def lawBeTr : (Int × Int) × (Int × Int × Int × Int × Int) → Option (Bool) :=
fun x =>
  ob (toRatLT (x.fst.1, x.fst.2)) fun y =>
    ob (toLimL (x.snd.1, x.snd.snd.1, x.snd.snd.snd.1, x.snd.snd.snd.snd.1, x.snd.snd.snd.snd.2)) fun y_1 =>
      ob (bestTS ((y.1, y.2), y_1.1, y_1.snd.1, y_1.snd.snd.1, y_1.snd.snd.snd.1, y_1.snd.snd.snd.2)) fun y =>
        ob (toRatLT (x.fst.1, x.fst.2)) fun y_2 =>
          ob (toLimL (x.snd.1, x.snd.snd.1, x.snd.snd.snd.1, x.snd.snd.snd.snd.1, x.snd.snd.snd.snd.2)) fun y_3 =>
            ob (bestTI ((y_2.1, y_2.2), y_3.1, y_3.snd.1, y_3.snd.snd.1, y_3.snd.snd.snd.1, y_3.snd.snd.snd.2))
              fun y_4 =>
              ob (eqFoundB ((y_4.fst.1, y_4.fst.snd.1, y_4.fst.snd.2), y.fst.1, y.fst.snd.1, y.fst.snd.2)) fun y_5 =>
                br (!y_5) (some false)
                  (br (y_4.2 != y.2) (some false)
                    (ob (markFoundB ((y_4.fst.1, y_4.fst.snd.1, y_4.fst.snd.2), (1 : Int))) fun y_6 =>
                      ob (heldFoundB ((y_6.snd.fst.1, y_4.fst.snd.1, y_4.fst.snd.2), (1 : Int))) fun y_7 =>
                        br (decide (y_7 < (0 : Int))) (some false)
                          (br (y_7 != y_6.1) (some false)
                            (ob (toRatLT (x.fst.1, x.fst.2)) fun y_8 =>
                              ob
                                (toLimL
                                  (x.snd.1, x.snd.snd.1, x.snd.snd.snd.1, x.snd.snd.snd.snd.1, x.snd.snd.snd.snd.2))
                                fun y_9 =>
                                ob
                                  (bestTI
                                    ((y_8.1, y_8.2), y_9.1, y_9.snd.1, y_9.snd.snd.1, y_9.snd.snd.snd.1,
                                      y_9.snd.snd.snd.2))
                                  fun y_10 =>
                                  ob
                                    (eqFoundB
                                      ((y_10.fst.1, y_10.fst.snd.1, y_10.fst.snd.2), y.fst.1, y.fst.snd.1, y.fst.snd.2))
                                    fun y_11 =>
                                    br (!y_11) (some false)
                                      (br (y_10.2 != y.2) (some false)
                                        (ob (heldFoundB ((y_6.snd.fst.1, y_4.fst.snd.1, y_4.fst.snd.2), (1 : Int)))
                                          fun y =>
                                          br (decide (y < (0 : Int))) (some false)
                                            (br (y != y_6.1) (some false) (some true))))))))
def lawBeTr_con : Con := ⟨[.pair (i64) (i64), .pair (i64) (.pair (i64) (.pair (i64) (.pair (i64) (i64))))], [.d (.bool)], lawBeTr⟩
theorem lawBeTr_run (x : Dens [.pair (i64) (i64), .pair (i64) (.pair (i64) (.pair (i64) (.pair (i64) (i64))))]) : runFn (mkEnvM [(17, toRatLT_con), (18, toLimL_con), (16, bestTS_con), (8, bestTI_con), (19, eqFoundB_con), (21, heldFoundB_con)] [(20, markFoundB_con)] []) Try.f4 [.pair (i64) (i64), .pair (i64) (.pair (i64) (.pair (i64) (.pair (i64) (i64))))] [.d (.bool)] x = lawBeTr x := by kernel_rfl
theorem lawBeTr_ok : lawBeTr_con.ok Try.prog 4 := fn_ok (con := lawBeTr_con) (mkEnvM_ok (cons := [(17, toRatLT_con), (18, toLimL_con), (16, bestTS_con), (8, bestTI_con), (19, eqFoundB_con), (21, heldFoundB_con)]) (mcons := [(20, markFoundB_con)]) ⟨toRatLT_ok, toLimL_ok, bestTS_ok, bestTI_ok, eqFoundB_ok, heldFoundB_ok, trivial⟩ ⟨markFoundB_ok, trivial⟩ []) Try.func4 rfl (by kernel_rfl) (by exact trivial) (fun x y h => (lawBeTr_run x).trans h)

end
end Rx
end Go.Proofs.Ythfgpnpoocepeaa
