/- What the functions of RxFaults come to, and their contracts. No conditions. -/
import Derived.Test.YtaaieejhbpdmoaaRxEnv
import Derived.Test.YtaaieejhbpdmoaaRxEpi
import Derived.Test.YtaaieejhbpdmoaaRxStr
namespace Go.Proofs.Ytaaieejhbpdmoaa
namespace Rx
open Go

def lawFaults : (Int × Int × Int × Int) → Option (Bool) :=
fun x =>
  ob (toEpiL (x.1, x.snd.1, x.snd.snd.1, x.snd.snd.2)) fun y =>
    ob (faultsS (y.1, y.snd.1, y.snd.snd.1, y.snd.snd.2)) fun y =>
      ob (toEpiL (x.1, x.snd.1, x.snd.snd.1, x.snd.snd.2)) fun y_1 =>
        ob (faultsI (y_1.1, y_1.snd.1, y_1.snd.snd.1, y_1.snd.snd.2)) fun y_2 =>
          ob (eqStrS (y_2, y)) fun y_3 =>
            br (!y_3) (some false)
              (ob (markStrS (y_2, (1 : Int))) fun y_4 =>
                ob (heldStrS (y_4.snd.1, (1 : Int))) fun y_5 =>
                  br (decide (y_5 < (0 : Int))) (some false)
                    (br (y_5 != y_4.1) (some false)
                      (ob (toEpiL (x.1, x.snd.1, x.snd.snd.1, x.snd.snd.2)) fun y_6 =>
                        ob (faultsI (y_6.1, y_6.snd.1, y_6.snd.snd.1, y_6.snd.snd.2)) fun y_7 =>
                          ob (eqStrS (y_7, y)) fun y =>
                            br (!y) (some false)
                              (ob (heldStrS (y_4.snd.1, (1 : Int))) fun y =>
                                br (decide (y < (0 : Int))) (some false) (br (y != y_4.1) (some false) (some true))))))
def lawFaults_con : Con := ⟨[.pair (i64) (.pair (i64) (.pair (i64) (i64)))], [.d (.bool)], lawFaults⟩
theorem lawFaults_run (x : Dens [.pair (i64) (.pair (i64) (.pair (i64) (i64)))]) : runFn (mkEnvM [(15, toEpiL_con), (17, faultsS_con), (18, faultsI_con), (19, eqStrS_con), (21, heldStrS_con)] [(20, markStrS_con)] []) Try.f4 [.pair (i64) (.pair (i64) (.pair (i64) (i64)))] [.d (.bool)] x = lawFaults x := by kernel_rfl
theorem lawFaults_ok : lawFaults_con.ok Try.prog 4 := fn_ok (con := lawFaults_con) (mkEnvM_ok (cons := [(15, toEpiL_con), (17, faultsS_con), (18, faultsI_con), (19, eqStrS_con), (21, heldStrS_con)]) (mcons := [(20, markStrS_con)]) ⟨toEpiL_ok, faultsS_ok, faultsI_ok, eqStrS_ok, heldStrS_ok, trivial⟩ ⟨markStrS_ok, trivial⟩ []) Try.func4 rfl (by kernel_rfl) (by exact trivial) (fun x y h => (lawFaults_run x).trans h)

end Rx
end Go.Proofs.Ytaaieejhbpdmoaa
