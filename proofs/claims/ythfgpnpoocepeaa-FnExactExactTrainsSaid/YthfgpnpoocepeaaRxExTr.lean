/- What the functions of RxExTr come to, and their contracts. No conditions. -/
import Derived.Test.YthfgpnpoocepeaaRxEnv
import Derived.Test.YthfgpnpoocepeaaRxSearch
import Derived.Test.YthfgpnpoocepeaaRxSearchS
import Derived.Test.YthfgpnpoocepeaaRxPMark
namespace Go.Proofs.Ythfgpnpoocepeaa
namespace Rx
open Go

noncomputable section
def eqPairSSL_vars : Vars := [(0, .val (.slice (.slice (.pair (i64) (i64))))), (1, .val (.slice (.slice (.pair (i64) (i64))))), (4, .val (.bool)), (5, .val (i64))]
def eqPairSSL_step : List (List ((Int × Int))) × List (List ((Int × Int))) × Bool × Int → Option (LRes × (List (List ((Int × Int))) × List (List ((Int × Int))) × Bool × Int)) :=
fun x =>
  br (decide (x.snd.snd.2 < (↑x.1.length : Int)))
    (ob (idx x.1 x.snd.snd.2) fun y =>
      ob (idx x.snd.1 x.snd.snd.2) fun y_1 =>
        ob (eqPairS (y, y_1)) fun y =>
          br (!y) (some (LRes.ret, x.1, x.snd.1, false, x.snd.snd.2))
            (some (LRes.next, x.1, x.snd.1, x.snd.snd.1, IntKind.i64.wrap (x.snd.snd.2 + (1 : Int)))))
    (some (LRes.out, x.1, x.snd.1, x.snd.snd.1, x.snd.snd.2))
def eqPairSSL_fuel : List (List ((Int × Int))) × List (List ((Int × Int))) × Bool × Int → Nat := fun s => (s.1.length - s.2.2.2.toNat) + 1
def eqPairSSL : List (List ((Int × Int))) × List (List ((Int × Int))) × Bool × Int → Option (Bool × (List (List ((Int × Int))) × List (List ((Int × Int))) × Bool × Int)) := fun s => iter eqPairSSL_step (eqPairSSL_fuel s) s
def eqPairSSL_L : LoopC := ⟨eqPairSSL_vars, 0, .two eqPairSSL⟩
noncomputable def eqPairSSL_key : Nat := key (loopAt Try.f24 0)
theorem eqPairSSL_stepok (x : eqPairSSL_vars.den) : stepOf (mkEnv [(46, eqPairS_con)] []) Try.f24.ntmps eqPairSSL_vars 0 (loopAt Try.f24 0) x = eqPairSSL_step x := by kernel_rfl
theorem eqPairSSL_ok : LoopOK Try.prog Try.f24.ntmps eqPairSSL_L (loopAt Try.f24 0)   := iter_loop (n := Try.f24.ntmps) (vs := eqPairSSL_vars) (out := 0) (body := loopAt Try.f24 0) (mkEnv_ok (cons := [(46, eqPairS_con)]) ⟨eqPairS_ok, trivial⟩ []) eqPairSSL_step eqPairSSL_fuel (by exact trivial) eqPairSSL_stepok

def eqPairSS : List (List ((Int × Int))) × List (List ((Int × Int))) → Option (Bool) :=
fun x =>
  br ((↑x.1.length : Int) != (↑x.2.length : Int)) (some false)
    (ob (eqPairSSL (x.1, x.2, false, (0 : Int))) fun r => br r.1 (some true) (some r.snd.snd.snd.1))
def eqPairSS_con : Con := ⟨[.slice (.slice (.pair (i64) (i64))), .slice (.slice (.pair (i64) (i64)))], [.d (.bool)], eqPairSS⟩
theorem eqPairSS_run (x : Dens [.slice (.slice (.pair (i64) (i64))), .slice (.slice (.pair (i64) (i64)))]) : runFn (mkEnv [] [(eqPairSSL_key, eqPairSSL_L)]) Try.f24 [.slice (.slice (.pair (i64) (i64))), .slice (.slice (.pair (i64) (i64)))] [.d (.bool)] x = eqPairSS x := by kernel_rfl
theorem eqPairSS_ok : eqPairSS_con.ok Try.prog 24 := fn_ok (con := eqPairSS_con) (mkEnv_ok (cons := []) trivial [(eqPairSSL_key, eqPairSSL_L)]) Try.func24 rfl (by kernel_rfl) (by exact ⟨eqPairSSL_ok, trivial⟩) (fun x y h => (eqPairSS_run x).trans h)

def markPairSSL_vars : Vars := [(0, .deep 2 28 (.row 66 (.pair (i64) (i64)))), (1, .val (i64)), (5, .val (i64))]
def markPairSSL_step : List (List ((Int × Int))) × Int × Int → Option (LRes × (List (List ((Int × Int))) × Int × Int)) :=
fun x =>
  br (decide (x.snd.2 < (↑x.1.length : Int)))
    (ob (idx x.1 x.snd.2) fun x_1 =>
      ob (x.1.get?Internal (Int.toNat x.snd.2)) fun x_2 =>
        ob (markPairX (x_2, x.snd.1)) fun y =>
          some (LRes.next, x.1.set (Int.toNat x.snd.2) y.snd.1, y.1, IntKind.i64.wrap (x.snd.2 + (1 : Int))))
    (some (LRes.out, x.1, x.snd.1, x.snd.2))
def markPairSSL_fuel : List (List ((Int × Int))) × Int × Int → Nat := fun s => (s.1.length - s.2.2.toNat) + 1
def markPairSSL : List (List ((Int × Int))) × Int × Int → Option (List (List ((Int × Int))) × Int × Int) := fun s => iterP markPairSSL_step (markPairSSL_fuel s) s
def markPairSSL_L : LoopC := ⟨markPairSSL_vars, 0, .plain markPairSSL⟩
noncomputable def markPairSSL_key : Nat := key (loopAt Try.f25 0)
theorem markPairSSL_stepok (x : markPairSSL_vars.den) : stepOf (deepE [(28, .row 66 (.pair (i64) (i64)))] (mkEnvM [] [(48, markPairX_con)] [])) Try.f25.ntmps markPairSSL_vars 0 (loopAt Try.f25 0) x = markPairSSL_step x := by kernel_rfl
theorem markPairSSL_ok : LoopOK Try.prog Try.f25.ntmps markPairSSL_L (loopAt Try.f25 0)   := iterP_loop (n := Try.f25.ntmps) (vs := markPairSSL_vars) (out := 0) (body := loopAt Try.f25 0) (deepE_ok (d := [(28, .row 66 (.pair (i64) (i64)))]) (mkEnvM_ok (cons := []) (mcons := [(48, markPairX_con)]) trivial ⟨markPairX_ok, trivial⟩ [])) markPairSSL_step markPairSSL_fuel (by exact trivial) markPairSSL_stepok

def markPairSS : List (List ((Int × Int))) × Int → Option ((Int) × (List (List ((Int × Int))) × Int)) :=
fun x => ob (markPairSSL (x.1, x.2, (0 : Int))) fun r => some (r.snd.1, r.1, x.2)
def markPairSS_con : MCon := ⟨[.v (.deep 28 (.row 66 (.pair (i64) (i64)))), .v (.d (i64))], [.d (i64)], markPairSS⟩
theorem markPairSS_run (x : ADens [.v (.deep 28 (.row 66 (.pair (i64) (i64)))), .v (.d (i64))]) : runFnM (deepE [(28, .row 66 (.pair (i64) (i64)))] (mkEnvM [] [(48, markPairX_con)] [(markPairSSL_key, markPairSSL_L)])) Try.f25 [.v (.deep 28 (.row 66 (.pair (i64) (i64)))), .v (.d (i64))] [.d (i64)] x = markPairSS x := by kernel_rfl
theorem markPairSS_ok : markPairSS_con.ok Try.prog 25 := fnM_ok (con := markPairSS_con) (deepE_ok (d := [(28, .row 66 (.pair (i64) (i64)))]) (mkEnvM_ok (cons := []) (mcons := [(48, markPairX_con)]) trivial ⟨markPairX_ok, trivial⟩ [(markPairSSL_key, markPairSSL_L)])) Try.func25 rfl (by kernel_rfl) (by exact ⟨markPairSSL_ok, trivial⟩) (fun x y h => (markPairSS_run x).trans h)

def heldPairSSL_vars : Vars := [(0, .val (.slice (.slice (.pair (i64) (i64))))), (1, .val (i64)), (4, .val (i64)), (5, .val (i64))]
def heldPairSSL_step : List (List ((Int × Int))) × Int × Int × Int → Option (LRes × (List (List ((Int × Int))) × Int × Int × Int)) :=
fun x =>
  br (decide (x.snd.snd.2 < (↑x.1.length : Int)))
    (ob (idx x.1 x.snd.snd.2) fun y =>
      ob (heldPairX (y, x.snd.1)) fun y =>
        br (decide (y < (0 : Int))) (some (LRes.ret, x.1, y, (-1 : Int), x.snd.snd.2))
          (some (LRes.next, x.1, y, x.snd.snd.1, IntKind.i64.wrap (x.snd.snd.2 + (1 : Int)))))
    (some (LRes.out, x.1, x.snd.1, x.snd.snd.1, x.snd.snd.2))
def heldPairSSL_fuel : List (List ((Int × Int))) × Int × Int × Int → Nat := fun s => (s.1.length - s.2.2.2.toNat) + 1
def heldPairSSL : List (List ((Int × Int))) × Int × Int × Int → Option (Bool × (List (List ((Int × Int))) × Int × Int × Int)) := fun s => iter heldPairSSL_step (heldPairSSL_fuel s) s
def heldPairSSL_L : LoopC := ⟨heldPairSSL_vars, 0, .two heldPairSSL⟩
noncomputable def heldPairSSL_key : Nat := key (loopAt Try.f26 0)
theorem heldPairSSL_stepok (x : heldPairSSL_vars.den) : stepOf (mkEnv [(49, heldPairX_con)] []) Try.f26.ntmps heldPairSSL_vars 0 (loopAt Try.f26 0) x = heldPairSSL_step x := by kernel_rfl
theorem heldPairSSL_ok : LoopOK Try.prog Try.f26.ntmps heldPairSSL_L (loopAt Try.f26 0)   := iter_loop (n := Try.f26.ntmps) (vs := heldPairSSL_vars) (out := 0) (body := loopAt Try.f26 0) (mkEnv_ok (cons := [(49, heldPairX_con)]) ⟨heldPairX_ok, trivial⟩ []) heldPairSSL_step heldPairSSL_fuel (by exact trivial) heldPairSSL_stepok

def heldPairSS : List (List ((Int × Int))) × Int → Option (Int) :=
fun x => ob (heldPairSSL (x.1, x.2, (0 : Int), (0 : Int))) fun r => br r.1 (some r.snd.snd.1) (some r.snd.snd.snd.1)
def heldPairSS_con : Con := ⟨[.slice (.slice (.pair (i64) (i64))), i64], [.d (i64)], heldPairSS⟩
theorem heldPairSS_run (x : Dens [.slice (.slice (.pair (i64) (i64))), i64]) : runFn (mkEnv [(49, heldPairX_con)] [(heldPairSSL_key, heldPairSSL_L)]) Try.f26 [.slice (.slice (.pair (i64) (i64))), i64] [.d (i64)] x = heldPairSS x := by kernel_rfl
theorem heldPairSS_ok : heldPairSS_con.ok Try.prog 26 := fn_ok (con := heldPairSS_con) (mkEnv_ok (cons := [(49, heldPairX_con)]) ⟨heldPairX_ok, trivial⟩ [(heldPairSSL_key, heldPairSSL_L)]) Try.func26 rfl (by kernel_rfl) (by exact ⟨heldPairSSL_ok, trivial⟩) (fun x y h => (heldPairSS_run x).trans h)

def lawExTr : (Int × Int) × (Int × Int × Int × Int × Int) → Option (Bool) :=
fun x =>
  ob (toRatLT (x.fst.1, x.fst.2)) fun y =>
    ob (toLimL (x.snd.1, x.snd.snd.1, x.snd.snd.snd.1, x.snd.snd.snd.snd.1, x.snd.snd.snd.snd.2)) fun y_1 =>
      ob (exactTS ((y.1, y.2), y_1.1, y_1.snd.1, y_1.snd.snd.1, y_1.snd.snd.snd.1, y_1.snd.snd.snd.2)) fun y =>
        ob (toRatLT (x.fst.1, x.fst.2)) fun y_2 =>
          ob (toLimL (x.snd.1, x.snd.snd.1, x.snd.snd.snd.1, x.snd.snd.snd.snd.1, x.snd.snd.snd.snd.2)) fun y_3 =>
            ob (exactI ((y_2.1, y_2.2), y_3.1, y_3.snd.1, y_3.snd.snd.1, y_3.snd.snd.snd.1, y_3.snd.snd.snd.2))
              fun y_4 =>
              ob (eqPairSS (y_4.1, y.1)) fun y_5 =>
                br (!y_5) (some false)
                  (br (y_4.2 != y.2) (some false)
                    (ob (markPairSS (y_4.1, (1 : Int))) fun y_6 =>
                      ob (heldPairSS (y_6.snd.1, (1 : Int))) fun y_7 =>
                        br (decide (y_7 < (0 : Int))) (some false)
                          (br (y_7 != y_6.1) (some false)
                            (ob (toRatLT (x.fst.1, x.fst.2)) fun y_8 =>
                              ob
                                (toLimL
                                  (x.snd.1, x.snd.snd.1, x.snd.snd.snd.1, x.snd.snd.snd.snd.1, x.snd.snd.snd.snd.2))
                                fun y_9 =>
                                ob
                                  (exactI
                                    ((y_8.1, y_8.2), y_9.1, y_9.snd.1, y_9.snd.snd.1, y_9.snd.snd.snd.1,
                                      y_9.snd.snd.snd.2))
                                  fun y_10 =>
                                  ob (eqPairSS (y_10.1, y.1)) fun y_11 =>
                                    br (!y_11) (some false)
                                      (br (y_10.2 != y.2) (some false)
                                        (ob (heldPairSS (y_6.snd.1, (1 : Int))) fun y =>
                                          br (decide (y < (0 : Int))) (some false)
                                            (br (y != y_6.1) (some false) (some true))))))))
def lawExTr_con : Con := ⟨[.pair (i64) (i64), .pair (i64) (.pair (i64) (.pair (i64) (.pair (i64) (i64))))], [.d (.bool)], lawExTr⟩
theorem lawExTr_run (x : Dens [.pair (i64) (i64), .pair (i64) (.pair (i64) (.pair (i64) (.pair (i64) (i64))))]) : runFn (mkEnvM [(17, toRatLT_con), (18, toLimL_con), (22, exactTS_con), (23, exactI_con), (24, eqPairSS_con), (26, heldPairSS_con)] [(25, markPairSS_con)] []) Try.f5 [.pair (i64) (i64), .pair (i64) (.pair (i64) (.pair (i64) (.pair (i64) (i64))))] [.d (.bool)] x = lawExTr x := by kernel_rfl
theorem lawExTr_ok : lawExTr_con.ok Try.prog 5 := fn_ok (con := lawExTr_con) (mkEnvM_ok (cons := [(17, toRatLT_con), (18, toLimL_con), (22, exactTS_con), (23, exactI_con), (24, eqPairSS_con), (26, heldPairSS_con)]) (mcons := [(25, markPairSS_con)]) ⟨toRatLT_ok, toLimL_ok, exactTS_ok, exactI_ok, eqPairSS_ok, heldPairSS_ok, trivial⟩ ⟨markPairSS_ok, trivial⟩ []) Try.func5 rfl (by kernel_rfl) (by exact trivial) (fun x y h => (lawExTr_run x).trans h)

end
end Rx
end Go.Proofs.Ythfgpnpoocepeaa
