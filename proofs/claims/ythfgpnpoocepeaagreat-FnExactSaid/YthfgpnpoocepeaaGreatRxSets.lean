/- What the functions of RxSets come to, and their contracts. No conditions. -/
import Derived.Test.YthfgpnpoocepeaaGreatRxEnv
import Derived.Test.YthfgpnpoocepeaaGreatRxSorts
namespace Go.Proofs.YthfgpnpoocepeaaGreat
namespace Rx
open Go

noncomputable section
def cloneB_t : Bool × (List (Int)) → Option (List (Int)) :=
fun x => br x.1 (some []) (br (decide ((0 : Nat) + x.2.length ≤ (4294967296 : Nat))) (some ([] ++ x.2)) none)
def cloneB : List (Int) → Option (List (Int)) := fun x => cloneB_t (false, x)
def cloneB_con : Con := ⟨[.slice (i64)], [.row 2 (i64)], cloneB⟩
theorem cloneB_run (x : Bool × Dens [.slice (i64)]) : runFnN (mkEnv [] []) Tryz.f55 [.slice (i64)] [.row 2 (i64)] x.1 x.2 = cloneB_t x := by kernel_rfl
theorem cloneB_nil (x : Dens [.slice (i64)]) (h : nil1 [.slice (i64)] x) : cloneB_t (true, x) = cloneB x := by
  have h : x = [] := h
  subst h
  rfl
theorem cloneB_ok : cloneB_con.ok Tryz.prog 55 := fn_okN (con := cloneB_con) (mkEnv_ok (cons := []) trivial []) Tryz.func55 rfl (by kernel_rfl) (by exact trivial) (fun b x y hn h => (cloneB_run (b, x)).trans (match b, hn with | false, _ => h | true, hn => (cloneB_nil x (hn rfl)).trans h))

def setsLT_vars : Vars := [(0, .val (i64)), (1, .val (i64)), (2, .val (i64)), (6, .boxR 0 69 (.pair (.row 2 (i64)) (.mp true 66 (.slice (i64))))), (8, .deep 0 66 (.row 2 (i64))), (10, .val (.slice (i64))), (12, .val (i64)), (24, .val (.slice (.slice (i64)))), (25, .val (i64)), (26, .val (i64))]
def setsLT_step : Int × Int × Int × (List (Int) × List (Int × List (List (Int)))) × List (List (Int)) × List (Int) × Int × List (List (Int)) × Int × Int → Option (LRes × (Int × Int × Int × (List (Int) × List (Int × List (List (Int)))) × List (List (Int)) × List (Int) × Int × List (List (Int)) × Int × Int)) :=
fun x =>
  br (decide (x.snd.snd.snd.snd.snd.snd.1 ≤ x.snd.1))
    (ob (cloneB x.snd.snd.snd.snd.snd.1) fun y =>
      br (decide (List.length y + [x.snd.snd.snd.snd.snd.snd.1].length ≤ (4294967296 : Nat)))
        (br
          (decide (List.length x.snd.snd.snd.snd.1 + [y ++ [x.snd.snd.snd.snd.snd.snd.1]].length ≤ (4294967296 : Nat)))
          (some
            (LRes.next, x.1, x.snd.1, x.snd.snd.1, (x.snd.snd.snd.fst.1, x.snd.snd.snd.fst.2),
              x.snd.snd.snd.snd.1 ++ [y ++ [x.snd.snd.snd.snd.snd.snd.1]], x.snd.snd.snd.snd.snd.1,
              IntKind.i64.wrap (x.snd.snd.snd.snd.snd.snd.1 + (1 : Int)), x.snd.snd.snd.snd.snd.snd.snd.1,
              x.snd.snd.snd.snd.snd.snd.snd.snd.1, x.snd.snd.snd.snd.snd.snd.snd.snd.2))
          none)
        none)
    (some
      (LRes.out, x.1, x.snd.1, x.snd.snd.1, (x.snd.snd.snd.fst.1, x.snd.snd.snd.fst.2), x.snd.snd.snd.snd.1,
        x.snd.snd.snd.snd.snd.1, x.snd.snd.snd.snd.snd.snd.1, x.snd.snd.snd.snd.snd.snd.snd.1,
        x.snd.snd.snd.snd.snd.snd.snd.snd.1, x.snd.snd.snd.snd.snd.snd.snd.snd.2))
def setsLT_fuel : Int × Int × Int × (List (Int) × List (Int × List (List (Int)))) × List (List (Int)) × List (Int) × Int × List (List (Int)) × Int × Int → Nat := fun s => (s.2.1 + 1 - s.2.2.2.2.2.2.1).toNat + 1
def setsLT : Int × Int × Int × (List (Int) × List (Int × List (List (Int)))) × List (List (Int)) × List (Int) × Int × List (List (Int)) × Int × Int → Option (Int × Int × Int × (List (Int) × List (Int × List (List (Int)))) × List (List (Int)) × List (Int) × Int × List (List (Int)) × Int × Int) := fun s => iterP setsLT_step (setsLT_fuel s) s
def setsLT_L : LoopC := ⟨setsLT_vars, 4, .plain setsLT⟩
noncomputable def setsLT_key : Nat := key (loopIn (loopIn (loopAt Tryz.f28 0) 0) 0)
theorem setsLT_stepok (x : setsLT_vars.den) : stepOf (deepE [(66, .row 2 (i64))] (mkEnv [(55, cloneB_con)] [])) Tryz.f28.ntmps setsLT_vars 4 (loopIn (loopIn (loopAt Tryz.f28 0) 0) 0) x = setsLT_step x := by kernel_rfl
theorem setsLT_ok : LoopOK Tryz.prog Tryz.f28.ntmps setsLT_L (loopIn (loopIn (loopAt Tryz.f28 0) 0) 0)   := iterP_loop (n := Tryz.f28.ntmps) (vs := setsLT_vars) (out := 4) (body := loopIn (loopIn (loopAt Tryz.f28 0) 0) 0) (deepE_ok (d := [(66, .row 2 (i64))]) (mkEnv_ok (cons := [(55, cloneB_con)]) ⟨cloneB_ok, trivial⟩ [])) setsLT_step setsLT_fuel (by exact trivial) setsLT_stepok

def setsL2_vars : Vars := [(0, .val (i64)), (1, .val (i64)), (2, .val (i64)), (6, .boxR 0 69 (.pair (.row 2 (i64)) (.mp true 66 (.slice (i64))))), (8, .deep 0 66 (.row 2 (i64))), (24, .val (.slice (.slice (i64)))), (25, .val (i64)), (26, .val (i64))]
def setsL2_step : Int × Int × Int × (List (Int) × List (Int × List (List (Int)))) × List (List (Int)) × List (List (Int)) × Int × Int → Option (LRes × (Int × Int × Int × (List (Int) × List (Int × List (List (Int)))) × List (List (Int)) × List (List (Int)) × Int × Int)) :=
fun x =>
  br (decide (x.snd.snd.snd.snd.snd.snd.2 < x.snd.snd.snd.snd.snd.snd.1))
    (ob (idx x.snd.snd.snd.snd.snd.1 x.snd.snd.snd.snd.snd.snd.2) fun y =>
      br (decide ((0 : Int) < (↑(List.length y) : Int)))
        (ob (idx y (IntKind.i64.wrap ((↑(List.length y) : Int) - (1 : Int)))) fun y_1 =>
          ob
            (setsLT
              (x.1, x.snd.1, x.snd.snd.1, (x.snd.snd.snd.fst.1, x.snd.snd.snd.fst.2), x.snd.snd.snd.snd.1, y, y_1,
                x.snd.snd.snd.snd.snd.1, x.snd.snd.snd.snd.snd.snd.1, x.snd.snd.snd.snd.snd.snd.2))
            fun r =>
            some
              (LRes.next, r.1, r.snd.1, r.snd.snd.1, (r.snd.snd.snd.fst.1, r.snd.snd.snd.fst.2), r.snd.snd.snd.snd.1,
                r.snd.snd.snd.snd.snd.snd.snd.1, r.snd.snd.snd.snd.snd.snd.snd.snd.1,
                IntKind.i64.wrap (r.snd.snd.snd.snd.snd.snd.snd.snd.2 + (1 : Int))))
        (ob
          (setsLT
            (x.1, x.snd.1, x.snd.snd.1, (x.snd.snd.snd.fst.1, x.snd.snd.snd.fst.2), x.snd.snd.snd.snd.1, y, x.1,
              x.snd.snd.snd.snd.snd.1, x.snd.snd.snd.snd.snd.snd.1, x.snd.snd.snd.snd.snd.snd.2))
          fun r =>
          some
            (LRes.next, r.1, r.snd.1, r.snd.snd.1, (r.snd.snd.snd.fst.1, r.snd.snd.snd.fst.2), r.snd.snd.snd.snd.1,
              r.snd.snd.snd.snd.snd.snd.snd.1, r.snd.snd.snd.snd.snd.snd.snd.snd.1,
              IntKind.i64.wrap (r.snd.snd.snd.snd.snd.snd.snd.snd.2 + (1 : Int)))))
    (some
      (LRes.out, x.1, x.snd.1, x.snd.snd.1, (x.snd.snd.snd.fst.1, x.snd.snd.snd.fst.2), x.snd.snd.snd.snd.1,
        x.snd.snd.snd.snd.snd.1, x.snd.snd.snd.snd.snd.snd.1, x.snd.snd.snd.snd.snd.snd.2))
def setsL2_fuel : Int × Int × Int × (List (Int) × List (Int × List (List (Int)))) × List (List (Int)) × List (List (Int)) × Int × Int → Nat := fun s => (s.2.2.2.2.2.2.1 - s.2.2.2.2.2.2.2).toNat + 1
def setsL2 : Int × Int × Int × (List (Int) × List (Int × List (List (Int)))) × List (List (Int)) × List (List (Int)) × Int × Int → Option (Int × Int × Int × (List (Int) × List (Int × List (List (Int)))) × List (List (Int)) × List (List (Int)) × Int × Int) := fun s => iterP setsL2_step (setsL2_fuel s) s
def setsL2_L : LoopC := ⟨setsL2_vars, 2, .plain setsL2⟩
noncomputable def setsL2_key : Nat := key (loopIn (loopAt Tryz.f28 0) 0)
theorem setsL2_stepok (x : setsL2_vars.den) : stepOf (deepE [(66, .row 2 (i64))] (mkEnv [] [(setsLT_key, setsLT_L)])) Tryz.f28.ntmps setsL2_vars 2 (loopIn (loopAt Tryz.f28 0) 0) x = setsL2_step x := by kernel_rfl
theorem setsL2_ok : LoopOK Tryz.prog Tryz.f28.ntmps setsL2_L (loopIn (loopAt Tryz.f28 0) 0)   := iterP_loop (n := Tryz.f28.ntmps) (vs := setsL2_vars) (out := 2) (body := loopIn (loopAt Tryz.f28 0) 0) (deepE_ok (d := [(66, .row 2 (i64))]) (mkEnv_ok (cons := []) trivial [(setsLT_key, setsLT_L)])) setsL2_step setsL2_fuel (by exact ⟨setsLT_ok, trivial⟩) setsL2_stepok

def setsL0_vars : Vars := [(0, .val (i64)), (1, .val (i64)), (2, .val (i64)), (6, .boxR 0 69 (.pair (.row 2 (i64)) (.mp true 66 (.slice (i64))))), (7, .deep 0 66 (.row 2 (i64)))]
def setsL0_step : Int × Int × Int × (List (Int) × List (Int × List (List (Int)))) × List (List (Int)) → Option (LRes × (Int × Int × Int × (List (Int) × List (Int × List (List (Int)))) × List (List (Int)))) :=
fun x =>
  br (decide ((0 : Int) < x.snd.snd.1))
    (ob
      (setsL2
        (x.1, x.snd.1, x.snd.snd.1, (x.snd.snd.snd.fst.1, x.snd.snd.snd.fst.2), [], x.snd.snd.snd.2,
          (↑(List.length x.snd.snd.snd.2) : Int), (0 : Int)))
      fun r =>
      some
        (LRes.next, r.1, r.snd.1, IntKind.i64.wrap (r.snd.snd.1 - (1 : Int)),
          (r.snd.snd.snd.fst.1, r.snd.snd.snd.fst.2), r.snd.snd.snd.snd.1))
    (some (LRes.out, x.1, x.snd.1, x.snd.snd.1, (x.snd.snd.snd.fst.1, x.snd.snd.snd.fst.2), x.snd.snd.snd.2))
def setsL0_fuel : Int × Int × Int × (List (Int) × List (Int × List (List (Int)))) × List (List (Int)) → Nat := fun s => s.2.2.1.toNat + 1
def setsL0 : Int × Int × Int × (List (Int) × List (Int × List (List (Int)))) × List (List (Int)) → Option (Int × Int × Int × (List (Int) × List (Int × List (List (Int)))) × List (List (Int))) := fun s => iterP setsL0_step (setsL0_fuel s) s
def setsL0_L : LoopC := ⟨setsL0_vars, 0, .plain setsL0⟩
noncomputable def setsL0_key : Nat := key (loopAt Tryz.f28 0)
theorem setsL0_stepok (x : setsL0_vars.den) : stepOf (frzE [(5, [7])] (deepE [(66, .row 2 (i64))] (mkEnv [] [(setsL2_key, setsL2_L)]))) Tryz.f28.ntmps setsL0_vars 0 (loopAt Tryz.f28 0) x = setsL0_step x := by kernel_rfl
theorem setsL0_ok : LoopOK Tryz.prog Tryz.f28.ntmps setsL0_L (loopAt Tryz.f28 0)   := iterP_loop (n := Tryz.f28.ntmps) (vs := setsL0_vars) (out := 0) (body := loopAt Tryz.f28 0) (frzE_ok (f := [(5, [7])]) (deepE_ok (d := [(66, .row 2 (i64))]) (mkEnv_ok (cons := []) trivial [(setsL2_key, setsL2_L)]))) setsL0_step setsL0_fuel (by exact ⟨setsL2_ok, trivial⟩) setsL0_stepok

def setsLP_vars : Vars := [(6, .boxR 0 69 (.pair (.row 2 (i64)) (.mp true 66 (.slice (i64))))), (13, .boxR 0 69 (.pair (.row 2 (i64)) (.mp false 66 (.slice (i64))))), (15, .val (.slice (i64))), (16, .val (i64)), (58, .val (.slice (.slice (i64)))), (59, .val (i64)), (60, .val (i64)), (64, .val (.slice (i64))), (65, .val (i64)), (66, .val (i64))]
def setsLP_step : (List (Int) × List (Int × List (List (Int)))) × (List (Int) × List (Int × List (List (Int)))) × List (Int) × Int × List (List (Int)) × Int × Int × List (Int) × Int × Int → Option (LRes × ((List (Int) × List (Int × List (List (Int)))) × (List (Int) × List (Int × List (List (Int)))) × List (Int) × Int × List (List (Int)) × Int × Int × List (Int) × Int × Int)) :=
fun x =>
  br (decide (x.snd.snd.snd.snd.snd.snd.snd.snd.2 < x.snd.snd.snd.snd.snd.snd.snd.snd.1))
    (ob (idx x.snd.snd.snd.snd.snd.snd.snd.1 x.snd.snd.snd.snd.snd.snd.snd.snd.2) fun y =>
      some
        (LRes.next, (x.fst.1, x.fst.2), (x.snd.fst.1, x.snd.fst.2), x.snd.snd.1, IntKind.i64.wrap (x.snd.snd.snd.1 * y),
          x.snd.snd.snd.snd.1, x.snd.snd.snd.snd.snd.1, x.snd.snd.snd.snd.snd.snd.1, x.snd.snd.snd.snd.snd.snd.snd.1,
          x.snd.snd.snd.snd.snd.snd.snd.snd.1, IntKind.i64.wrap (x.snd.snd.snd.snd.snd.snd.snd.snd.2 + (1 : Int))))
    (some
      (LRes.out, (x.fst.1, x.fst.2), (x.snd.fst.1, x.snd.fst.2), x.snd.snd.1, x.snd.snd.snd.1, x.snd.snd.snd.snd.1,
        x.snd.snd.snd.snd.snd.1, x.snd.snd.snd.snd.snd.snd.1, x.snd.snd.snd.snd.snd.snd.snd.1,
        x.snd.snd.snd.snd.snd.snd.snd.snd.1, x.snd.snd.snd.snd.snd.snd.snd.snd.2))
def setsLP_fuel : (List (Int) × List (Int × List (List (Int)))) × (List (Int) × List (Int × List (List (Int)))) × List (Int) × Int × List (List (Int)) × Int × Int × List (Int) × Int × Int → Nat := fun s => (s.2.2.2.2.2.2.2.2.1 - s.2.2.2.2.2.2.2.2.2).toNat + 1
def setsLP : (List (Int) × List (Int × List (List (Int)))) × (List (Int) × List (Int × List (List (Int)))) × List (Int) × Int × List (List (Int)) × Int × Int × List (Int) × Int × Int → Option ((List (Int) × List (Int × List (List (Int)))) × (List (Int) × List (Int × List (List (Int)))) × List (Int) × Int × List (List (Int)) × Int × Int × List (Int) × Int × Int) := fun s => iterP setsLP_step (setsLP_fuel s) s
def setsLP_L : LoopC := ⟨setsLP_vars, 8, .plain setsLP⟩
noncomputable def setsLP_key : Nat := key (loopIn (loopAt Tryz.f28 1) 0)
theorem setsLP_stepok (x : setsLP_vars.den) : stepOf (mkEnv [] []) Tryz.f28.ntmps setsLP_vars 8 (loopIn (loopAt Tryz.f28 1) 0) x = setsLP_step x := by kernel_rfl
theorem setsLP_ok : LoopOK Tryz.prog Tryz.f28.ntmps setsLP_L (loopIn (loopAt Tryz.f28 1) 0)   := iterP_loop (n := Tryz.f28.ntmps) (vs := setsLP_vars) (out := 8) (body := loopIn (loopAt Tryz.f28 1) 0) (mkEnv_ok (cons := []) trivial []) setsLP_step setsLP_fuel (by exact trivial) setsLP_stepok

def setsL6_vars : Vars := [(6, .boxR 0 69 (.pair (.row 2 (i64)) (.mp true 66 (.slice (i64))))), (13, .boxR 0 69 (.pair (.row 2 (i64)) (.mp false 66 (.slice (i64))))), (58, .val (.slice (.slice (i64)))), (59, .val (i64)), (60, .val (i64))]
def setsL6_step : (List (Int) × List (Int × List (List (Int)))) × (List (Int) × List (Int × List (List (Int)))) × List (List (Int)) × Int × Int → Option (LRes × ((List (Int) × List (Int × List (List (Int)))) × (List (Int) × List (Int × List (List (Int)))) × List (List (Int)) × Int × Int)) :=
fun x =>
  br (decide (x.snd.snd.snd.2 < x.snd.snd.snd.1))
    (ob (idx x.snd.snd.1 x.snd.snd.snd.2) fun y =>
      ob
        (setsLP
          ((x.fst.1, x.fst.2), (x.snd.fst.1, x.snd.fst.2), y, (1 : Int), x.snd.snd.1, x.snd.snd.snd.1, x.snd.snd.snd.2,
            y, (↑(List.length y) : Int), (0 : Int)))
        fun r =>
        br ((↑(getM r.snd.fst.2 r.snd.snd.snd.1).length : Int) == (0 : Int))
          (br (decide (List.length r.snd.fst.1 + [r.snd.snd.snd.1].length ≤ (4294967296 : Nat)))
            (br (decide ((getM r.snd.fst.2 r.snd.snd.snd.1).length + [r.snd.snd.1].length ≤ (4294967296 : Nat)))
              (br (decide (r.snd.snd.snd.1 = r.snd.snd.snd.1))
                (some
                  (LRes.next, (r.fst.1, r.fst.2),
                    (r.snd.fst.1 ++ [r.snd.snd.snd.1],
                      putM r.snd.fst.2 r.snd.snd.snd.1 (getM r.snd.fst.2 r.snd.snd.snd.1 ++ [r.snd.snd.1])),
                    r.snd.snd.snd.snd.1, r.snd.snd.snd.snd.snd.1,
                    IntKind.i64.wrap (r.snd.snd.snd.snd.snd.snd.1 + (1 : Int))))
                none)
              none)
            none)
          (br (decide ((getM r.snd.fst.2 r.snd.snd.snd.1).length + [r.snd.snd.1].length ≤ (4294967296 : Nat)))
            (br (decide (r.snd.snd.snd.1 = r.snd.snd.snd.1))
              (some
                (LRes.next, (r.fst.1, r.fst.2),
                  (r.snd.fst.1, putM r.snd.fst.2 r.snd.snd.snd.1 (getM r.snd.fst.2 r.snd.snd.snd.1 ++ [r.snd.snd.1])),
                  r.snd.snd.snd.snd.1, r.snd.snd.snd.snd.snd.1,
                  IntKind.i64.wrap (r.snd.snd.snd.snd.snd.snd.1 + (1 : Int))))
              none)
            none))
    (some (LRes.out, (x.fst.1, x.fst.2), (x.snd.fst.1, x.snd.fst.2), x.snd.snd.1, x.snd.snd.snd.1, x.snd.snd.snd.2))
def setsL6_fuel : (List (Int) × List (Int × List (List (Int)))) × (List (Int) × List (Int × List (List (Int)))) × List (List (Int)) × Int × Int → Nat := fun s => (s.2.2.2.1 - s.2.2.2.2).toNat + 1
def setsL6 : (List (Int) × List (Int × List (List (Int)))) × (List (Int) × List (Int × List (List (Int)))) × List (List (Int)) × Int × Int → Option ((List (Int) × List (Int × List (List (Int)))) × (List (Int) × List (Int × List (List (Int)))) × List (List (Int)) × Int × Int) := fun s => iterP setsL6_step (setsL6_fuel s) s
def setsL6_L : LoopC := ⟨setsL6_vars, 6, .plain setsL6⟩
noncomputable def setsL6_key : Nat := key (loopAt Tryz.f28 1)
theorem setsL6_stepok (x : setsL6_vars.den) : stepOf (mapE [4 * 77] [] (deepE [(66, .row 2 (i64))] (mkEnv [] [(setsLP_key, setsLP_L)]))) Tryz.f28.ntmps setsL6_vars 6 (loopAt Tryz.f28 1) x = setsL6_step x := by kernel_rfl
theorem setsL6_ok : LoopOK Tryz.prog Tryz.f28.ntmps setsL6_L (loopAt Tryz.f28 1)   := iterP_loop (n := Tryz.f28.ntmps) (vs := setsL6_vars) (out := 6) (body := loopAt Tryz.f28 1) (mapE_ok (deepE_ok (d := [(66, .row 2 (i64))]) (mkEnv_ok (cons := []) trivial [(setsLP_key, setsLP_L)]))) setsL6_step setsL6_fuel (by exact ⟨setsLP_ok, trivial⟩) setsL6_stepok

def setsI : Int × Int × Int → Option ((List (Int) × List (Int × List (List (Int))))) :=
fun x =>
  ob (setsL0 (x.1, x.snd.1, x.snd.2, ([], []), [[]])) fun r =>
    ob
      (setsL6
        ((r.snd.snd.snd.fst.1, r.snd.snd.snd.fst.2), ([], []), r.snd.snd.snd.2, (↑(List.length r.snd.snd.snd.2) : Int),
          (0 : Int)))
      fun r => ob (sortI r.snd.fst.1) fun y => some (y.2, r.snd.fst.2)
def setsI_con : Con := ⟨[i64, i64, i64], [.pair (.row 2 (i64)) (.mp true 66 (.slice (i64)))], setsI⟩
theorem setsI_run (x : Dens [i64, i64, i64]) : runFn (mapE [] [(32, [13])] (frzE [(18, [7])] (deepE [(66, .row 2 (i64))] (mkEnvM [] [(56, sortI_con)] [(setsL0_key, setsL0_L), (setsL6_key, setsL6_L)])))) Tryz.f28 [i64, i64, i64] [.pair (.row 2 (i64)) (.mp true 66 (.slice (i64)))] x = setsI x := by kernel_rfl
theorem setsI_ok : setsI_con.ok Tryz.prog 28 := fn_ok (con := setsI_con) (mapE_ok (frzE_ok (f := [(18, [7])]) (deepE_ok (d := [(66, .row 2 (i64))]) (mkEnvM_ok (cons := []) (mcons := [(56, sortI_con)]) trivial ⟨sortI_ok, trivial⟩ [(setsL0_key, setsL0_L), (setsL6_key, setsL6_L)])))) Tryz.func28 rfl (by kernel_rfl) (by exact ⟨setsL0_ok, setsL6_ok, trivial⟩) (fun x y h => (setsI_run x).trans h)

end
end Rx
end Go.Proofs.YthfgpnpoocepeaaGreat
