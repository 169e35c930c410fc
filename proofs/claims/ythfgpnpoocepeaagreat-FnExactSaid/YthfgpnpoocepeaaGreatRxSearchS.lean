/- What the functions of RxSearchS come to, and their contracts. No conditions. -/
import Derived.Test.YthfgpnpoocepeaaGreatRxEnv
import Derived.Test.YthfgpnpoocepeaaGreatRxComp
namespace Go.Proofs.YthfgpnpoocepeaaGreat
namespace Rx
open Go

noncomputable section
def ownIntS : List (Int) → Option (List (Int)) :=
fun x => br (decide ((0 : Nat) + x.length ≤ (4294967296 : Nat))) (some ([] ++ x)) none
def ownIntS_con : Con := ⟨[.slice (i64)], [.row 2 (i64)], ownIntS⟩
theorem ownIntS_run (x : Dens [.slice (i64)]) : runFn (mkEnv [] []) Tryz.f101 [.slice (i64)] [.row 2 (i64)] x = ownIntS x := by kernel_rfl
theorem ownIntS_ok : ownIntS_con.ok Tryz.prog 101 := fn_ok (con := ownIntS_con) (mkEnv_ok (cons := []) trivial []) Tryz.func101 rfl (by kernel_rfl) (by exact trivial) (fun x y h => (ownIntS_run x).trans h)

def sortSL0_vars : Vars := [(0, .val (.slice (i64))), (3, .row 0 2 (i64)), (4, .val (i64)), (5, .val (i64))]
def sortSL0_step : List (Int) × List (Int) × Int × Int → Option (LRes × (List (Int) × List (Int) × Int × Int)) :=
fun x =>
  br (decide ((0 : Int) < x.snd.snd.2))
    (ob (idx x.snd.1 (IntKind.i64.wrap (x.snd.snd.2 - (1 : Int)))) fun x_1 =>
      ob (List.get?Internal x.snd.1 (IntKind.i64.wrap (x.snd.snd.2 - (1 : Int))).toNat) fun x_2 =>
        ob (idx x.1 x.snd.snd.1) fun y =>
          br (decide (y < x_2))
            (some (LRes.next, x.1, x.snd.1, x.snd.snd.1, IntKind.i64.wrap (x.snd.snd.2 - (1 : Int))))
            (some (LRes.out, x.1, x.snd.1, x.snd.snd.1, x.snd.snd.2)))
    (some (LRes.out, x.1, x.snd.1, x.snd.snd.1, x.snd.snd.2))
def sortSL0_fuel : List (Int) × List (Int) × Int × Int → Nat := fun s => s.2.2.2.toNat + 1
def sortSL0 : List (Int) × List (Int) × Int × Int → Option (List (Int) × List (Int) × Int × Int) := fun s => iterP sortSL0_step (sortSL0_fuel s) s
def sortSL0_L : LoopC := ⟨sortSL0_vars, 2, .plain sortSL0⟩
noncomputable def sortSL0_key : Nat := key (loopIn (loopAt Tryz.f70 0) 0)
theorem sortSL0_stepok (x : sortSL0_vars.den) : stepOf (mkEnv [] []) Tryz.f70.ntmps sortSL0_vars 2 (loopIn (loopAt Tryz.f70 0) 0) x = sortSL0_step x := by kernel_rfl
theorem sortSL0_ok : LoopOK Tryz.prog Tryz.f70.ntmps sortSL0_L (loopIn (loopAt Tryz.f70 0) 0)   := iterP_loop (n := Tryz.f70.ntmps) (vs := sortSL0_vars) (out := 2) (body := loopIn (loopAt Tryz.f70 0) 0) (mkEnv_ok (cons := []) trivial []) sortSL0_step sortSL0_fuel (by exact trivial) sortSL0_stepok

def sortSL_vars : Vars := [(0, .val (.slice (i64))), (3, .row 0 2 (i64)), (4, .val (i64))]
def sortSL_step : List (Int) × List (Int) × Int → Option (LRes × (List (Int) × List (Int) × Int)) :=
fun x =>
  br (decide (x.snd.2 < (↑x.1.length : Int)))
    (ob (sortSL0 (x.1, x.snd.1, x.snd.2, (↑(List.length x.snd.1) : Int))) fun r =>
      br (decide ((0 : Int) ≤ (0 : Int) ∧ (0 : Int) ≤ r.snd.snd.2 ∧ r.snd.snd.2 ≤ (↑(List.length r.snd.1) : Int)))
        (ob (ownIntS (List.drop (Int.toNat (0 : Int)) (List.take (Int.toNat r.snd.snd.2) r.snd.1))) fun y =>
          ob (idx r.1 r.snd.snd.1) fun y_1 =>
            br (decide (List.length y + [y_1].length ≤ (4294967296 : Nat)))
              (br
                (decide
                  ((0 : Int) ≤ r.snd.snd.2 ∧
                    r.snd.snd.2 ≤ (↑(List.length r.snd.1) : Int) ∧
                      (↑(List.length r.snd.1) : Int) ≤ (↑(List.length r.snd.1) : Int)))
                (br
                  (decide
                    ((y ++ [y_1]).length +
                        (List.drop (Int.toNat r.snd.snd.2)
                            (List.take (↑(List.length r.snd.1) : Int).toNat r.snd.1)).length ≤
                      (4294967296 : Nat)))
                  (some
                    (LRes.next, r.1,
                      y ++ [y_1] ++
                        List.drop (Int.toNat r.snd.snd.2) (List.take (↑(List.length r.snd.1) : Int).toNat r.snd.1),
                      IntKind.i64.wrap (r.snd.snd.1 + (1 : Int))))
                  none)
                none)
              none)
        none)
    (some (LRes.out, x.1, x.snd.1, x.snd.2))
def sortSL_fuel : List (Int) × List (Int) × Int → Nat := fun s => (s.1.length - s.2.2.toNat) + 1
def sortSL : List (Int) × List (Int) × Int → Option (List (Int) × List (Int) × Int) := fun s => iterP sortSL_step (sortSL_fuel s) s
def sortSL_L : LoopC := ⟨sortSL_vars, 0, .plain sortSL⟩
noncomputable def sortSL_key : Nat := key (loopAt Tryz.f70 0)
theorem sortSL_stepok (x : sortSL_vars.den) : stepOf (mkEnv [(101, ownIntS_con)] [(sortSL0_key, sortSL0_L)]) Tryz.f70.ntmps sortSL_vars 0 (loopAt Tryz.f70 0) x = sortSL_step x := by kernel_rfl
theorem sortSL_ok : LoopOK Tryz.prog Tryz.f70.ntmps sortSL_L (loopAt Tryz.f70 0)   := iterP_loop (n := Tryz.f70.ntmps) (vs := sortSL_vars) (out := 0) (body := loopAt Tryz.f70 0) (mkEnv_ok (cons := [(101, ownIntS_con)]) ⟨ownIntS_ok, trivial⟩ [(sortSL0_key, sortSL0_L)]) sortSL_step sortSL_fuel (by exact ⟨sortSL0_ok, trivial⟩) sortSL_stepok

def sortS : List (Int) → Option (List (Int)) :=
fun x => ob (sortSL (x, [], (0 : Int))) fun r => some r.snd.1
def sortS_con : Con := ⟨[.slice (i64)], [.row 2 (i64)], sortS⟩
theorem sortS_run (x : Dens [.slice (i64)]) : runFn (mkEnv [] [(sortSL_key, sortSL_L)]) Tryz.f70 [.slice (i64)] [.row 2 (i64)] x = sortS x := by kernel_rfl
theorem sortS_ok : sortS_con.ok Tryz.prog 70 := fn_ok (con := sortS_con) (mkEnv_ok (cons := []) trivial [(sortSL_key, sortSL_L)]) Tryz.func70 rfl (by kernel_rfl) (by exact ⟨sortSL_ok, trivial⟩) (fun x y h => (sortS_run x).trans h)

def canonSL_vars : Vars := [(5, .row 0 2 (i64)), (6, .row 0 2 (i64)), (7, .row 0 64 (.pair (i64) (i64))), (8, .val (i64))]
def canonSL_step : List (Int) × List (Int) × List ((Int × Int)) × Int → Option (LRes × (List (Int) × List (Int) × List ((Int × Int)) × Int)) :=
fun x =>
  br (decide (x.snd.snd.2 < (↑(List.length x.snd.1) : Int)))
    (ob (idx x.1 (IntKind.i64.wrap (IntKind.i64.wrap ((↑x.1.length : Int) - (1 : Int)) - x.snd.snd.2))) fun x_1 =>
      ob (x.1.get?Internal (IntKind.i64.wrap (IntKind.i64.wrap ((↑x.1.length : Int) - (1 : Int)) - x.snd.snd.2)).toNat)
        fun x_2 =>
        ob (idx x.snd.1 x.snd.snd.2) fun x_3 =>
          ob (List.get?Internal x.snd.1 (Int.toNat x.snd.snd.2)) fun x_4 =>
            br (decide (List.length x.snd.snd.1 + [(x_2, x_4)].length ≤ (4294967296 : Nat)))
              (some (LRes.next, x.1, x.snd.1, x.snd.snd.1 ++ [(x_2, x_4)], IntKind.i64.wrap (x.snd.snd.2 + (1 : Int))))
              none)
    (some (LRes.out, x.1, x.snd.1, x.snd.snd.1, x.snd.snd.2))
def canonSL_fuel : List (Int) × List (Int) × List ((Int × Int)) × Int → Nat := fun s => (s.2.1.length - s.2.2.2.toNat) + 1
def canonSL : List (Int) × List (Int) × List ((Int × Int)) × Int → Option (List (Int) × List (Int) × List ((Int × Int)) × Int) := fun s => iterP canonSL_step (canonSL_fuel s) s
def canonSL_L : LoopC := ⟨canonSL_vars, 0, .plain canonSL⟩
noncomputable def canonSL_key : Nat := key (loopAt Tryz.f35 0)
theorem canonSL_stepok (x : canonSL_vars.den) : stepOf (mkEnv [] []) Tryz.f35.ntmps canonSL_vars 0 (loopAt Tryz.f35 0) x = canonSL_step x := by kernel_rfl
theorem canonSL_ok : LoopOK Tryz.prog Tryz.f35.ntmps canonSL_L (loopAt Tryz.f35 0)   := iterP_loop (n := Tryz.f35.ntmps) (vs := canonSL_vars) (out := 0) (body := loopAt Tryz.f35 0) (mkEnv_ok (cons := []) trivial []) canonSL_step canonSL_fuel (by exact trivial) canonSL_stepok

def canonS6 : List (Int) × List (Int) → Option (List ((Int × Int))) :=
fun x =>
  ob (sortS x.1) fun y => ob (sortS x.2) fun y_1 => ob (canonSL (y, y_1, [], (0 : Int))) fun r => some r.snd.snd.1
def canonS6_con : Con := ⟨[.slice (i64), .slice (i64)], [.row 64 (.pair (i64) (i64))], canonS6⟩
theorem canonS6_run (x : Dens [.slice (i64), .slice (i64)]) : runFn (mkEnv [(70, sortS_con)] [(canonSL_key, canonSL_L)]) Tryz.f35 [.slice (i64), .slice (i64)] [.row 64 (.pair (i64) (i64))] x = canonS6 x := by kernel_rfl
theorem canonS6_ok : canonS6_con.ok Tryz.prog 35 := fn_ok (con := canonS6_con) (mkEnv_ok (cons := [(70, sortS_con)]) ⟨sortS_ok, trivial⟩ [(canonSL_key, canonSL_L)]) Tryz.func35 rfl (by kernel_rfl) (by exact ⟨canonSL_ok, trivial⟩) (fun x y h => (canonS6_run x).trans h)

def prodS00_vars : Vars := [(0, .val (i64)), (1, .val (i64)), (2, .val (i64)), (7, .val (.slice (.pair (i64) (.slice (i64))))), (8, .val (i64)), (9, .deep 0 141 (.pair (.d (i64)) (.row 2 (i64)))), (10, .val (i64)), (12, .val (i64))]
def prodS00_step : Int × Int × Int × List ((Int × List (Int))) × Int × List ((Int × List (Int))) × Int × Int → Option (LRes × (Int × Int × Int × List ((Int × List (Int))) × Int × List ((Int × List (Int))) × Int × Int)) :=
fun x =>
  br (decide (x.snd.snd.snd.snd.snd.snd.2 ≤ x.snd.1))
    (ob (idx x.snd.snd.snd.1 x.snd.snd.snd.snd.snd.snd.1) fun y =>
      ob (idx x.snd.snd.snd.1 x.snd.snd.snd.snd.snd.snd.1) fun y_1 =>
        ob (ownIntS y_1.2) fun y_2 =>
          br (decide (List.length y_2 + [x.snd.snd.snd.snd.snd.snd.2].length ≤ (4294967296 : Nat)))
            (br
              (decide
                (List.length x.snd.snd.snd.snd.snd.1 +
                    [(IntKind.i64.wrap (y.1 * x.snd.snd.snd.snd.snd.snd.2),
                          y_2 ++ [x.snd.snd.snd.snd.snd.snd.2])].length ≤
                  (4294967296 : Nat)))
              (some
                (LRes.next, x.1, x.snd.1, x.snd.snd.1, x.snd.snd.snd.1, x.snd.snd.snd.snd.1,
                  x.snd.snd.snd.snd.snd.1 ++
                    [(IntKind.i64.wrap (y.1 * x.snd.snd.snd.snd.snd.snd.2), y_2 ++ [x.snd.snd.snd.snd.snd.snd.2])],
                  x.snd.snd.snd.snd.snd.snd.1, IntKind.i64.wrap (x.snd.snd.snd.snd.snd.snd.2 + (1 : Int))))
              none)
            none)
    (some
      (LRes.out, x.1, x.snd.1, x.snd.snd.1, x.snd.snd.snd.1, x.snd.snd.snd.snd.1, x.snd.snd.snd.snd.snd.1,
        x.snd.snd.snd.snd.snd.snd.1, x.snd.snd.snd.snd.snd.snd.2))
def prodS00_fuel : Int × Int × Int × List ((Int × List (Int))) × Int × List ((Int × List (Int))) × Int × Int → Nat := fun s => (s.2.1 + 1 - s.2.2.2.2.2.2.2).toNat + 1
def prodS00 : Int × Int × Int × List ((Int × List (Int))) × Int × List ((Int × List (Int))) × Int × Int → Option (Int × Int × Int × List ((Int × List (Int))) × Int × List ((Int × List (Int))) × Int × Int) := fun s => iterP prodS00_step (prodS00_fuel s) s
def prodS00_L : LoopC := ⟨prodS00_vars, 4, .plain prodS00⟩
noncomputable def prodS00_key : Nat := key (loopIn (loopIn (loopAt Tryz.f105 0) 0) 0)
theorem prodS00_stepok (x : prodS00_vars.den) : stepOf (deepE [(141, .pair (.d (i64)) (.row 2 (i64)))] (mkEnv [(101, ownIntS_con)] [])) Tryz.f105.ntmps prodS00_vars 4 (loopIn (loopIn (loopAt Tryz.f105 0) 0) 0) x = prodS00_step x := by kernel_rfl
theorem prodS00_ok : LoopOK Tryz.prog Tryz.f105.ntmps prodS00_L (loopIn (loopIn (loopAt Tryz.f105 0) 0) 0)   := iterP_loop (n := Tryz.f105.ntmps) (vs := prodS00_vars) (out := 4) (body := loopIn (loopIn (loopAt Tryz.f105 0) 0) 0) (deepE_ok (d := [(141, .pair (.d (i64)) (.row 2 (i64)))]) (mkEnv_ok (cons := [(101, ownIntS_con)]) ⟨ownIntS_ok, trivial⟩ [])) prodS00_step prodS00_fuel (by exact trivial) prodS00_stepok

def prodS0_vars : Vars := [(0, .val (i64)), (1, .val (i64)), (2, .val (i64)), (7, .val (.slice (.pair (i64) (.slice (i64))))), (8, .val (i64)), (9, .deep 0 141 (.pair (.d (i64)) (.row 2 (i64)))), (10, .val (i64))]
def prodS0_step : Int × Int × Int × List ((Int × List (Int))) × Int × List ((Int × List (Int))) × Int → Option (LRes × (Int × Int × Int × List ((Int × List (Int))) × Int × List ((Int × List (Int))) × Int)) :=
fun x =>
  br (decide (x.snd.snd.snd.snd.snd.2 < (↑(List.length x.snd.snd.snd.1) : Int)))
    (br (decide ((0 : Int) < x.snd.snd.snd.snd.1))
      (ob (idx x.snd.snd.snd.1 x.snd.snd.snd.snd.snd.2) fun y =>
        ob (idx y.2 (IntKind.i64.wrap (x.snd.snd.snd.snd.1 - (1 : Int)))) fun y =>
          ob
            (prodS00
              (x.1, x.snd.1, x.snd.snd.1, x.snd.snd.snd.1, x.snd.snd.snd.snd.1, x.snd.snd.snd.snd.snd.1,
                x.snd.snd.snd.snd.snd.2, y))
            fun r =>
            some
              (LRes.next, r.1, r.snd.1, r.snd.snd.1, r.snd.snd.snd.1, r.snd.snd.snd.snd.1, r.snd.snd.snd.snd.snd.1,
                IntKind.i64.wrap (r.snd.snd.snd.snd.snd.snd.1 + (1 : Int))))
      (ob
        (prodS00
          (x.1, x.snd.1, x.snd.snd.1, x.snd.snd.snd.1, x.snd.snd.snd.snd.1, x.snd.snd.snd.snd.snd.1,
            x.snd.snd.snd.snd.snd.2, x.1))
        fun r =>
        some
          (LRes.next, r.1, r.snd.1, r.snd.snd.1, r.snd.snd.snd.1, r.snd.snd.snd.snd.1, r.snd.snd.snd.snd.snd.1,
            IntKind.i64.wrap (r.snd.snd.snd.snd.snd.snd.1 + (1 : Int)))))
    (some
      (LRes.out, x.1, x.snd.1, x.snd.snd.1, x.snd.snd.snd.1, x.snd.snd.snd.snd.1, x.snd.snd.snd.snd.snd.1,
        x.snd.snd.snd.snd.snd.2))
def prodS0_fuel : Int × Int × Int × List ((Int × List (Int))) × Int × List ((Int × List (Int))) × Int → Nat := fun s => (s.2.2.2.1.length - s.2.2.2.2.2.2.toNat) + 1
def prodS0 : Int × Int × Int × List ((Int × List (Int))) × Int × List ((Int × List (Int))) × Int → Option (Int × Int × Int × List ((Int × List (Int))) × Int × List ((Int × List (Int))) × Int) := fun s => iterP prodS0_step (prodS0_fuel s) s
def prodS0_L : LoopC := ⟨prodS0_vars, 2, .plain prodS0⟩
noncomputable def prodS0_key : Nat := key (loopIn (loopAt Tryz.f105 0) 0)
theorem prodS0_stepok (x : prodS0_vars.den) : stepOf (deepE [(141, .pair (.d (i64)) (.row 2 (i64)))] (mkEnv [] [(prodS00_key, prodS00_L)])) Tryz.f105.ntmps prodS0_vars 2 (loopIn (loopAt Tryz.f105 0) 0) x = prodS0_step x := by kernel_rfl
theorem prodS0_ok : LoopOK Tryz.prog Tryz.f105.ntmps prodS0_L (loopIn (loopAt Tryz.f105 0) 0)   := iterP_loop (n := Tryz.f105.ntmps) (vs := prodS0_vars) (out := 2) (body := loopIn (loopAt Tryz.f105 0) 0) (deepE_ok (d := [(141, .pair (.d (i64)) (.row 2 (i64)))]) (mkEnv_ok (cons := []) trivial [(prodS00_key, prodS00_L)])) prodS0_step prodS0_fuel (by exact ⟨prodS00_ok, trivial⟩) prodS0_stepok

def prodSL_vars : Vars := [(0, .val (i64)), (1, .val (i64)), (2, .val (i64)), (7, .deep 0 141 (.pair (.d (i64)) (.row 2 (i64)))), (8, .val (i64))]
def prodSL_step : Int × Int × Int × List ((Int × List (Int))) × Int → Option (LRes × (Int × Int × Int × List ((Int × List (Int))) × Int)) :=
fun x =>
  br (decide (x.snd.snd.snd.2 < x.snd.snd.1))
    (ob (prodS0 (x.1, x.snd.1, x.snd.snd.1, x.snd.snd.snd.1, x.snd.snd.snd.2, [], (0 : Int))) fun r =>
      some
        (LRes.next, r.1, r.snd.1, r.snd.snd.1, r.snd.snd.snd.snd.snd.1,
          IntKind.i64.wrap (r.snd.snd.snd.snd.1 + (1 : Int))))
    (some (LRes.out, x.1, x.snd.1, x.snd.snd.1, x.snd.snd.snd.1, x.snd.snd.snd.2))
def prodSL_fuel : Int × Int × Int × List ((Int × List (Int))) × Int → Nat := fun s => (s.2.2.1 - s.2.2.2.2).toNat + 1
def prodSL : Int × Int × Int × List ((Int × List (Int))) × Int → Option (Int × Int × Int × List ((Int × List (Int))) × Int) := fun s => iterP prodSL_step (prodSL_fuel s) s
def prodSL_L : LoopC := ⟨prodSL_vars, 0, .plain prodSL⟩
noncomputable def prodSL_key : Nat := key (loopAt Tryz.f105 0)
theorem prodSL_stepok (x : prodSL_vars.den) : stepOf (frzE [(5, [7])] (deepE [(141, .pair (.d (i64)) (.row 2 (i64)))] (mkEnv [] [(prodS0_key, prodS0_L)]))) Tryz.f105.ntmps prodSL_vars 0 (loopAt Tryz.f105 0) x = prodSL_step x := by kernel_rfl
theorem prodSL_ok : LoopOK Tryz.prog Tryz.f105.ntmps prodSL_L (loopAt Tryz.f105 0)   := iterP_loop (n := Tryz.f105.ntmps) (vs := prodSL_vars) (out := 0) (body := loopAt Tryz.f105 0) (frzE_ok (f := [(5, [7])]) (deepE_ok (d := [(141, .pair (.d (i64)) (.row 2 (i64)))]) (mkEnv_ok (cons := []) trivial [(prodS0_key, prodS0_L)]))) prodSL_step prodSL_fuel (by exact ⟨prodS0_ok, trivial⟩) prodSL_stepok

def productsS : Int × Int × Int → Option (List ((Int × List (Int)))) :=
fun x => ob (prodSL (x.1, x.snd.1, x.snd.2, [((1 : Int), [])], (0 : Int))) fun r => some r.snd.snd.snd.1
def productsS_con : Con := ⟨[i64, i64, i64], [.deep 141 (.pair (.d (i64)) (.row 2 (i64)))], productsS⟩
theorem productsS_run (x : Dens [i64, i64, i64]) : runFn (deepE [(141, .pair (.d (i64)) (.row 2 (i64)))] (mkEnv [] [(prodSL_key, prodSL_L)])) Tryz.f105 [i64, i64, i64] [.deep 141 (.pair (.d (i64)) (.row 2 (i64)))] x = productsS x := by kernel_rfl
theorem productsS_ok : productsS_con.ok Tryz.prog 105 := fn_ok (con := productsS_con) (deepE_ok (d := [(141, .pair (.d (i64)) (.row 2 (i64)))]) (mkEnv_ok (cons := []) trivial [(prodSL_key, prodSL_L)])) Tryz.func105 rfl (by kernel_rfl) (by exact ⟨prodSL_ok, trivial⟩) (fun x y h => (productsS_run x).trans h)

def mergeSL0_vars : Vars := [(0, .val (.slice (.pair (i64) (.slice (i64))))), (1, .val (.slice (.pair (i64) (.slice (i64))))), (5, .row 0 141 (.pair (i64) (.slice (i64)))), (6, .val (i64)), (7, .val (i64))]
def mergeSL0_step : List ((Int × List (Int))) × List ((Int × List (Int))) × List ((Int × List (Int))) × Int × Int → Option (LRes × (List ((Int × List (Int))) × List ((Int × List (Int))) × List ((Int × List (Int))) × Int × Int)) :=
fun x =>
  br (decide (x.snd.snd.snd.1 < (↑x.1.length : Int)))
    (ob (idx x.1 x.snd.snd.snd.1) fun y =>
      ob (idx x.snd.1 x.snd.snd.snd.2) fun y_1 =>
        br (decide (y.1 ≤ y_1.1))
          (ob (idx x.1 x.snd.snd.snd.1) fun y =>
            br (decide (List.length x.snd.snd.1 + [(y.1, y.2)].length ≤ (4294967296 : Nat)))
              (some
                (LRes.next, x.1, x.snd.1, x.snd.snd.1 ++ [(y.1, y.2)], IntKind.i64.wrap (x.snd.snd.snd.1 + (1 : Int)),
                  x.snd.snd.snd.2))
              none)
          (some (LRes.out, x.1, x.snd.1, x.snd.snd.1, x.snd.snd.snd.1, x.snd.snd.snd.2)))
    (some (LRes.out, x.1, x.snd.1, x.snd.snd.1, x.snd.snd.snd.1, x.snd.snd.snd.2))
def mergeSL0_fuel : List ((Int × List (Int))) × List ((Int × List (Int))) × List ((Int × List (Int))) × Int × Int → Nat := fun s => (s.1.length - s.2.2.2.1.toNat) + 1
def mergeSL0 : List ((Int × List (Int))) × List ((Int × List (Int))) × List ((Int × List (Int))) × Int × Int → Option (List ((Int × List (Int))) × List ((Int × List (Int))) × List ((Int × List (Int))) × Int × Int) := fun s => iterP mergeSL0_step (mergeSL0_fuel s) s
def mergeSL0_L : LoopC := ⟨mergeSL0_vars, 2, .plain mergeSL0⟩
noncomputable def mergeSL0_key : Nat := key (loopIn (loopAt Tryz.f126 0) 0)
theorem mergeSL0_stepok (x : mergeSL0_vars.den) : stepOf (mkEnv [] []) Tryz.f126.ntmps mergeSL0_vars 2 (loopIn (loopAt Tryz.f126 0) 0) x = mergeSL0_step x := by kernel_rfl
theorem mergeSL0_ok : LoopOK Tryz.prog Tryz.f126.ntmps mergeSL0_L (loopIn (loopAt Tryz.f126 0) 0)   := iterP_loop (n := Tryz.f126.ntmps) (vs := mergeSL0_vars) (out := 2) (body := loopIn (loopAt Tryz.f126 0) 0) (mkEnv_ok (cons := []) trivial []) mergeSL0_step mergeSL0_fuel (by exact trivial) mergeSL0_stepok

def mergeSL_vars : Vars := [(0, .val (.slice (.pair (i64) (.slice (i64))))), (1, .val (.slice (.pair (i64) (.slice (i64))))), (5, .row 0 141 (.pair (i64) (.slice (i64)))), (6, .val (i64)), (7, .val (i64))]
def mergeSL_step : List ((Int × List (Int))) × List ((Int × List (Int))) × List ((Int × List (Int))) × Int × Int → Option (LRes × (List ((Int × List (Int))) × List ((Int × List (Int))) × List ((Int × List (Int))) × Int × Int)) :=
fun x =>
  br (decide (x.snd.snd.snd.2 < (↑(List.length x.snd.1) : Int)))
    (ob (mergeSL0 (x.1, x.snd.1, x.snd.snd.1, x.snd.snd.snd.1, x.snd.snd.snd.2)) fun r =>
      ob (idx r.snd.1 r.snd.snd.snd.2) fun y =>
        br (decide (List.length r.snd.snd.1 + [(y.1, y.2)].length ≤ (4294967296 : Nat)))
          (some
            (LRes.next, r.1, r.snd.1, r.snd.snd.1 ++ [(y.1, y.2)], r.snd.snd.snd.1,
              IntKind.i64.wrap (r.snd.snd.snd.2 + (1 : Int))))
          none)
    (some (LRes.out, x.1, x.snd.1, x.snd.snd.1, x.snd.snd.snd.1, x.snd.snd.snd.2))
def mergeSL_fuel : List ((Int × List (Int))) × List ((Int × List (Int))) × List ((Int × List (Int))) × Int × Int → Nat := fun s => (s.2.1.length - s.2.2.2.2.toNat) + 1
def mergeSL : List ((Int × List (Int))) × List ((Int × List (Int))) × List ((Int × List (Int))) × Int × Int → Option (List ((Int × List (Int))) × List ((Int × List (Int))) × List ((Int × List (Int))) × Int × Int) := fun s => iterP mergeSL_step (mergeSL_fuel s) s
def mergeSL_L : LoopC := ⟨mergeSL_vars, 0, .plain mergeSL⟩
noncomputable def mergeSL_key : Nat := key (loopAt Tryz.f126 0)
theorem mergeSL_stepok (x : mergeSL_vars.den) : stepOf (mkEnv [] [(mergeSL0_key, mergeSL0_L)]) Tryz.f126.ntmps mergeSL_vars 0 (loopAt Tryz.f126 0) x = mergeSL_step x := by kernel_rfl
theorem mergeSL_ok : LoopOK Tryz.prog Tryz.f126.ntmps mergeSL_L (loopAt Tryz.f126 0)   := iterP_loop (n := Tryz.f126.ntmps) (vs := mergeSL_vars) (out := 0) (body := loopAt Tryz.f126 0) (mkEnv_ok (cons := []) trivial [(mergeSL0_key, mergeSL0_L)]) mergeSL_step mergeSL_fuel (by exact ⟨mergeSL0_ok, trivial⟩) mergeSL_stepok

def mergeS : List ((Int × List (Int))) × List ((Int × List (Int))) → Option (List ((Int × List (Int)))) :=
fun x =>
  ob (mergeSL (x.1, x.2, [], (0 : Int), (0 : Int))) fun r =>
    br
      (decide
        ((0 : Int) ≤ r.snd.snd.snd.1 ∧
          r.snd.snd.snd.1 ≤ (↑(List.length r.1) : Int) ∧ (↑(List.length r.1) : Int) ≤ (↑(List.length r.1) : Int)))
      (br
        (decide
          (List.length r.snd.snd.1 +
              (List.drop (Int.toNat r.snd.snd.snd.1) (List.take (↑(List.length r.1) : Int).toNat r.1)).length ≤
            (4294967296 : Nat)))
        (some (r.snd.snd.1 ++ List.drop (Int.toNat r.snd.snd.snd.1) (List.take (↑(List.length r.1) : Int).toNat r.1)))
        none)
      none
def mergeS_con : Con := ⟨[.slice (.pair (i64) (.slice (i64))), .slice (.pair (i64) (.slice (i64)))], [.row 141 (.pair (i64) (.slice (i64)))], mergeS⟩
theorem mergeS_run (x : Dens [.slice (.pair (i64) (.slice (i64))), .slice (.pair (i64) (.slice (i64)))]) : runFn (mkEnv [] [(mergeSL_key, mergeSL_L)]) Tryz.f126 [.slice (.pair (i64) (.slice (i64))), .slice (.pair (i64) (.slice (i64)))] [.row 141 (.pair (i64) (.slice (i64)))] x = mergeS x := by kernel_rfl
theorem mergeS_ok : mergeS_con.ok Tryz.prog 126 := fn_ok (con := mergeS_con) (mkEnv_ok (cons := []) trivial [(mergeSL_key, mergeSL_L)]) Tryz.func126 rfl (by kernel_rfl) (by exact ⟨mergeSL_ok, trivial⟩) (fun x y h => (mergeS_run x).trans h)

def sortPS_t (sortPS_G : List ((Int × List (Int))) → Option (List ((Int × List (Int))))) : List ((Int × List (Int))) → Option (List ((Int × List (Int)))) :=
fun x =>
  br (decide ((↑x.length : Int) < (2 : Int))) (some x)
    (br
      (decide
        ((0 : Int) ≤ (0 : Int) ∧
          (0 : Int) ≤ IntKind.i64.wrap ((↑x.length : Int).tdiv (2 : Int)) ∧
            IntKind.i64.wrap ((↑x.length : Int).tdiv (2 : Int)) ≤ (↑x.length : Int)))
      (ob
        (sortPS_G
          (List.drop (Int.toNat (0 : Int)) (List.take (IntKind.i64.wrap ((↑x.length : Int).tdiv (2 : Int))).toNat x)))
        fun y =>
        br
          (decide
            ((0 : Int) ≤ IntKind.i64.wrap ((↑x.length : Int).tdiv (2 : Int)) ∧
              IntKind.i64.wrap ((↑x.length : Int).tdiv (2 : Int)) ≤ (↑x.length : Int) ∧
                (↑x.length : Int) ≤ (↑x.length : Int)))
          (ob
            (sortPS_G
              (List.drop (IntKind.i64.wrap ((↑x.length : Int).tdiv (2 : Int))).toNat
                (List.take (↑x.length : Int).toNat x)))
            fun y_1 => ob (mergeS (y, y_1)) fun y => some y)
          none)
      none)
def sortPS_f : Nat → List ((Int × List (Int))) → Option (List ((Int × List (Int))))
  | 0 => fun _ => none
  | n + 1 => sortPS_t (sortPS_f n)
def sortPS_c (n : Nat) : Con := ⟨[.slice (.pair (i64) (.slice (i64)))], [.d (.slice (.pair (i64) (.slice (i64))))], sortPS_f n⟩
theorem sortPS_run (sortPS_G : List ((Int × List (Int))) → Option (List ((Int × List (Int))))) (x : Dens [.slice (.pair (i64) (.slice (i64)))]) : runFn (mkEnv [(106, ⟨[.slice (.pair (i64) (.slice (i64)))], [.d (.slice (.pair (i64) (.slice (i64))))], sortPS_G⟩), (126, mergeS_con)] []) Tryz.f106 [.slice (.pair (i64) (.slice (i64)))] [.d (.slice (.pair (i64) (.slice (i64))))] x = sortPS_t sortPS_G x := by kernel_rfl
theorem sortPS_cok : ∀ n, (sortPS_c n).ok Tryz.prog 106
  | 0 => ⟨⟨Tryz.f106, _, Tryz.func106, by kernel_rfl, rfl⟩, fun w M vs x y hl hM hA (hF : (none : Option _) = some y) => by cases hF⟩
  | n + 1 => fn_ok (con := sortPS_c (n + 1)) (mkEnv_ok (cons := [(106, sortPS_c n), (126, mergeS_con)]) ⟨sortPS_cok n, mergeS_ok, trivial⟩ []) Tryz.func106 rfl (by kernel_rfl) (by exact trivial) (fun x y h => (sortPS_run (sortPS_f n) x).trans h)
def sortPS : List ((Int × List (Int))) → Option (List ((Int × List (Int)))) := fun x => sortPS_f (x.length + 1) x
def sortPS_con : Con := ⟨[.slice (.pair (i64) (.slice (i64)))], [.d (.slice (.pair (i64) (.slice (i64))))], sortPS⟩
theorem sortPS_ok : sortPS_con.ok Tryz.prog 106 := ⟨(sortPS_cok 0).1, fun w M vs x y hl hM hA hF => (sortPS_cok _).2 w M vs x y hl hM hA hF⟩

def firstSL_vars : Vars := [(0, .val (.slice (.pair (i64) (.slice (i64))))), (1, .val (i64)), (5, .val (i64)), (6, .val (i64))]
def firstSL_step : List ((Int × List (Int))) × Int × Int × Int → Option (LRes × (List ((Int × List (Int))) × Int × Int × Int)) :=
fun x =>
  br (decide (x.snd.snd.1 < x.snd.snd.2))
    (ob (idx x.1 (IntKind.i64.wrap ((IntKind.i64.wrap (x.snd.snd.1 + x.snd.snd.2)).tdiv (2 : Int)))) fun y =>
      br (decide (y.1 < x.snd.1))
        (some
          (LRes.next, x.1, x.snd.1,
            IntKind.i64.wrap
              (IntKind.i64.wrap ((IntKind.i64.wrap (x.snd.snd.1 + x.snd.snd.2)).tdiv (2 : Int)) + (1 : Int)),
            x.snd.snd.2))
        (some
          (LRes.next, x.1, x.snd.1, x.snd.snd.1,
            IntKind.i64.wrap ((IntKind.i64.wrap (x.snd.snd.1 + x.snd.snd.2)).tdiv (2 : Int)))))
    (some (LRes.out, x.1, x.snd.1, x.snd.snd.1, x.snd.snd.2))
def firstSL_fuel : List ((Int × List (Int))) × Int × Int × Int → Nat := fun s => (s.2.2.2 - s.2.2.1).toNat + 1
def firstSL : List ((Int × List (Int))) × Int × Int × Int → Option (List ((Int × List (Int))) × Int × Int × Int) := fun s => iterP firstSL_step (firstSL_fuel s) s
def firstSL_L : LoopC := ⟨firstSL_vars, 0, .plain firstSL⟩
noncomputable def firstSL_key : Nat := key (loopAt Tryz.f107 0)
theorem firstSL_stepok (x : firstSL_vars.den) : stepOf (mkEnv [] []) Tryz.f107.ntmps firstSL_vars 0 (loopAt Tryz.f107 0) x = firstSL_step x := by kernel_rfl
theorem firstSL_ok : LoopOK Tryz.prog Tryz.f107.ntmps firstSL_L (loopAt Tryz.f107 0)   := iterP_loop (n := Tryz.f107.ntmps) (vs := firstSL_vars) (out := 0) (body := loopAt Tryz.f107 0) (mkEnv_ok (cons := []) trivial []) firstSL_step firstSL_fuel (by exact trivial) firstSL_stepok

def firstS : List ((Int × List (Int))) × Int → Option (Int) :=
fun x => ob (firstSL (x.1, x.2, (0 : Int), (↑x.1.length : Int))) fun r => some r.snd.snd.1
def firstS_con : Con := ⟨[.slice (.pair (i64) (.slice (i64))), i64], [.d (i64)], firstS⟩
theorem firstS_run (x : Dens [.slice (.pair (i64) (.slice (i64))), i64]) : runFn (mkEnv [] [(firstSL_key, firstSL_L)]) Tryz.f107 [.slice (.pair (i64) (.slice (i64))), i64] [.d (i64)] x = firstS x := by kernel_rfl
theorem firstS_ok : firstS_con.ok Tryz.prog 107 := fn_ok (con := firstS_con) (mkEnv_ok (cons := []) trivial [(firstSL_key, firstSL_L)]) Tryz.func107 rfl (by kernel_rfl) (by exact ⟨firstSL_ok, trivial⟩) (fun x y h => (firstS_run x).trans h)

def askS : (Int × Int) → Option (Bool) :=
fun x => ob (inS (x.1, (1 : Int), (1000000 : Int))) fun y => br y (some (decide (x.2 ≤ (1000000 : Int)))) (some false)
def askS_con : Con := ⟨[.pair (i64) (i64)], [.d (.bool)], askS⟩
theorem askS_run (x : Dens [.pair (i64) (i64)]) : runFn (mkEnv [(38, inS_con)] []) Tryz.f25 [.pair (i64) (i64)] [.d (.bool)] x = askS x := by kernel_rfl
theorem askS_ok : askS_con.ok Tryz.prog 25 := fn_ok (con := askS_con) (mkEnv_ok (cons := [(38, inS_con)]) ⟨inS_ok, trivial⟩ []) Tryz.func25 rfl (by kernel_rfl) (by exact trivial) (fun x y h => (askS_run x).trans h)







def takeS : (Int × Int × Int × List ((Int × Int))) × (Int × Int) × (Int × List (Int)) × (Int × List (Int)) → Option ((Unit) × ((Int × Int × Int × List ((Int × Int))) × (Int × Int) × (Int × List (Int)) × (Int × List (Int)))) :=
fun x =>
  ob
    (sizeS
      (IntKind.i64.wrap
        (IntKind.i64.wrap (x.snd.snd.fst.1 * x.snd.fst.2) - IntKind.i64.wrap (x.snd.snd.snd.1 * x.snd.fst.1))))
    fun y =>
    br (decide ((0 : Int) < (↑(List.length x.fst.snd.snd.2) : Int)))
      (br (decide (IntKind.i64.wrap (x.fst.snd.snd.1 * x.snd.snd.snd.1) < IntKind.i64.wrap (y * x.fst.snd.1)))
        (some (PUnit.unit, (x.fst.1, x.fst.snd.1, x.fst.snd.snd.1, x.fst.snd.snd.2), x.snd.1, x.snd.snd.1, x.snd.snd.2))
        (ob (canonS6 (x.snd.snd.fst.2, x.snd.snd.snd.2)) fun y_1 =>
          br ((↑(List.length x.fst.snd.snd.2) : Int) == (0 : Int))
            (some (PUnit.unit, (x.snd.snd.fst.1, x.snd.snd.snd.1, y, y_1), x.snd.1, x.snd.snd.1, x.snd.snd.2))
            (br (decide (IntKind.i64.wrap (y * x.fst.snd.1) < IntKind.i64.wrap (x.fst.snd.snd.1 * x.snd.snd.snd.1)))
              (some (PUnit.unit, (x.snd.snd.fst.1, x.snd.snd.snd.1, y, y_1), x.snd.1, x.snd.snd.1, x.snd.snd.2))
              (ob (cmpTrS (y_1, x.fst.snd.snd.2)) fun y_2 =>
                br (decide (y_2 < (0 : Int)))
                  (some (PUnit.unit, (x.snd.snd.fst.1, x.snd.snd.snd.1, y, y_1), x.snd.1, x.snd.snd.1, x.snd.snd.2))
                  (some
                    (PUnit.unit, (x.fst.1, x.fst.snd.1, x.fst.snd.snd.1, x.fst.snd.snd.2), x.snd.1, x.snd.snd.1,
                      x.snd.snd.2))))))
      (ob (canonS6 (x.snd.snd.fst.2, x.snd.snd.snd.2)) fun y_1 =>
        br ((↑(List.length x.fst.snd.snd.2) : Int) == (0 : Int))
          (some (PUnit.unit, (x.snd.snd.fst.1, x.snd.snd.snd.1, y, y_1), x.snd.1, x.snd.snd.1, x.snd.snd.2))
          (br (decide (IntKind.i64.wrap (y * x.fst.snd.1) < IntKind.i64.wrap (x.fst.snd.snd.1 * x.snd.snd.snd.1)))
            (some (PUnit.unit, (x.snd.snd.fst.1, x.snd.snd.snd.1, y, y_1), x.snd.1, x.snd.snd.1, x.snd.snd.2))
            (ob (cmpTrS (y_1, x.fst.snd.snd.2)) fun y_2 =>
              br (decide (y_2 < (0 : Int)))
                (some (PUnit.unit, (x.snd.snd.fst.1, x.snd.snd.snd.1, y, y_1), x.snd.1, x.snd.snd.1, x.snd.snd.2))
                (some
                  (PUnit.unit, (x.fst.1, x.fst.snd.1, x.fst.snd.snd.1, x.fst.snd.snd.2), x.snd.1, x.snd.snd.1,
                    x.snd.snd.2)))))
def takeS_con : MCon := ⟨[.box 139 (.pair (i64) (.pair (i64) (.pair (i64) (.slice (.pair (i64) (i64)))))), .v (.d (.pair (i64) (i64))), .v (.d (.ref (.pair (i64) (.slice (i64))))), .v (.d (.ref (.pair (i64) (.slice (i64)))))], [], takeS⟩
theorem takeS_run (x : ADens [.box 139 (.pair (i64) (.pair (i64) (.pair (i64) (.slice (.pair (i64) (i64)))))), .v (.d (.pair (i64) (i64))), .v (.d (.ref (.pair (i64) (.slice (i64))))), .v (.d (.ref (.pair (i64) (.slice (i64)))))]) : runFnM (frzE [(10, [11])] (mkEnv [(34, sizeS_con), (35, canonS6_con), (127, cmpTrS_con)] [])) Tryz.f108 [.box 139 (.pair (i64) (.pair (i64) (.pair (i64) (.slice (.pair (i64) (i64)))))), .v (.d (.pair (i64) (i64))), .v (.d (.ref (.pair (i64) (.slice (i64))))), .v (.d (.ref (.pair (i64) (.slice (i64)))))] [] x = takeS x := by kernel_rfl
theorem takeS_ok : takeS_con.ok Tryz.prog 108 := fnM_ok (con := takeS_con) (frzE_ok (f := [(10, [11])]) (mkEnv_ok (cons := [(34, sizeS_con), (35, canonS6_con), (127, cmpTrS_con)]) ⟨sizeS_ok, canonS6_ok, cmpTrS_ok, trivial⟩ [])) Tryz.func108 rfl (by kernel_rfl) (by exact trivial) (fun x y h => (takeS_run x).trans h)

def searchS0_vars : Vars := [(2, .box 0 27 (.pair (i64) (i64))), (5, .val (.slice (.pair (i64) (.slice (i64))))), (6, .val (.slice (.pair (i64) (.slice (i64))))), (7, .box 0 139 (.pair (i64) (.pair (i64) (.pair (i64) (.slice (.pair (i64) (i64))))))), (8, .val (i64)), (10, .val (i64)), (11, .val (i64)), (12, .val (i64))]
def searchS0_step : (Int × Int) × List ((Int × List (Int))) × List ((Int × List (Int))) × (Int × Int × Int × List ((Int × Int))) × Int × Int × Int × Int → Option (LRes × ((Int × Int) × List ((Int × List (Int))) × List ((Int × List (Int))) × (Int × Int × Int × List ((Int × Int))) × Int × Int × Int × Int)) :=
fun x =>
  br (decide ((0 : Int) ≤ x.snd.snd.snd.snd.snd.snd.2))
    (ob (idx x.snd.snd.1 x.snd.snd.snd.snd.snd.snd.2) fun y =>
      br (y.1 == x.snd.snd.snd.snd.snd.snd.1)
        (ob (idx x.snd.1 x.snd.snd.snd.snd.1) fun y =>
          ob (idx x.snd.snd.1 x.snd.snd.snd.snd.snd.snd.2) fun y_1 =>
            ob
              (takeS
                ((x.snd.snd.snd.fst.1, x.snd.snd.snd.fst.snd.1, x.snd.snd.snd.fst.snd.snd.1,
                    x.snd.snd.snd.fst.snd.snd.2),
                  (x.fst.1, x.fst.2), y, y_1))
              fun y =>
              some
                (LRes.next, (x.fst.1, x.fst.2), x.snd.1, x.snd.snd.1,
                  (y.snd.fst.1, y.snd.fst.snd.1, y.snd.fst.snd.snd.1, y.snd.fst.snd.snd.2), x.snd.snd.snd.snd.1,
                  x.snd.snd.snd.snd.snd.1, x.snd.snd.snd.snd.snd.snd.1,
                  IntKind.i64.wrap (x.snd.snd.snd.snd.snd.snd.2 - (1 : Int))))
        (some
          (LRes.out, (x.fst.1, x.fst.2), x.snd.1, x.snd.snd.1,
            (x.snd.snd.snd.fst.1, x.snd.snd.snd.fst.snd.1, x.snd.snd.snd.fst.snd.snd.1, x.snd.snd.snd.fst.snd.snd.2),
            x.snd.snd.snd.snd.1, x.snd.snd.snd.snd.snd.1, x.snd.snd.snd.snd.snd.snd.1, x.snd.snd.snd.snd.snd.snd.2)))
    (some
      (LRes.out, (x.fst.1, x.fst.2), x.snd.1, x.snd.snd.1,
        (x.snd.snd.snd.fst.1, x.snd.snd.snd.fst.snd.1, x.snd.snd.snd.fst.snd.snd.1, x.snd.snd.snd.fst.snd.snd.2),
        x.snd.snd.snd.snd.1, x.snd.snd.snd.snd.snd.1, x.snd.snd.snd.snd.snd.snd.1, x.snd.snd.snd.snd.snd.snd.2))
def searchS0_fuel : (Int × Int) × List ((Int × List (Int))) × List ((Int × List (Int))) × (Int × Int × Int × List ((Int × Int))) × Int × Int × Int × Int → Nat := fun s => (s.2.2.2.2.2.2.2 + 1).toNat + 1
def searchS0 : (Int × Int) × List ((Int × List (Int))) × List ((Int × List (Int))) × (Int × Int × Int × List ((Int × Int))) × Int × Int × Int × Int → Option ((Int × Int) × List ((Int × List (Int))) × List ((Int × List (Int))) × (Int × Int × Int × List ((Int × Int))) × Int × Int × Int × Int) := fun s => iterP searchS0_step (searchS0_fuel s) s
def searchS0_L : LoopC := ⟨searchS0_vars, 2, .plain searchS0⟩
noncomputable def searchS0_key : Nat := key (loopIn (loopAt Tryz.f79 0) 0)
theorem searchS0_stepok (x : searchS0_vars.den) : stepOf (mkEnvM [] [(108, takeS_con)] []) Tryz.f79.ntmps searchS0_vars 2 (loopIn (loopAt Tryz.f79 0) 0) x = searchS0_step x := by kernel_rfl
theorem searchS0_ok : LoopOK Tryz.prog Tryz.f79.ntmps searchS0_L (loopIn (loopAt Tryz.f79 0) 0)   := iterP_loop (n := Tryz.f79.ntmps) (vs := searchS0_vars) (out := 2) (body := loopIn (loopAt Tryz.f79 0) 0) (mkEnvM_ok (cons := []) (mcons := [(108, takeS_con)]) trivial ⟨takeS_ok, trivial⟩ []) searchS0_step searchS0_fuel (by exact trivial) searchS0_stepok

def searchS1_vars : Vars := [(2, .box 0 27 (.pair (i64) (i64))), (5, .val (.slice (.pair (i64) (.slice (i64))))), (6, .val (.slice (.pair (i64) (.slice (i64))))), (7, .box 0 139 (.pair (i64) (.pair (i64) (.pair (i64) (.slice (.pair (i64) (i64))))))), (8, .val (i64)), (10, .val (i64)), (13, .val (i64))]
def searchS1_step : (Int × Int) × List ((Int × List (Int))) × List ((Int × List (Int))) × (Int × Int × Int × List ((Int × Int))) × Int × Int × Int → Option (LRes × ((Int × Int) × List ((Int × List (Int))) × List ((Int × List (Int))) × (Int × Int × Int × List ((Int × Int))) × Int × Int × Int)) :=
fun x =>
  br (decide (x.snd.snd.snd.snd.snd.2 < (↑(List.length x.snd.snd.1) : Int)))
    (ob (idx x.snd.snd.1 x.snd.snd.snd.snd.snd.2) fun y =>
      ob (idx x.snd.snd.1 x.snd.snd.snd.snd.snd.1) fun y_1 =>
        br (y.1 == y_1.1)
          (ob (idx x.snd.1 x.snd.snd.snd.snd.1) fun y =>
            ob (idx x.snd.snd.1 x.snd.snd.snd.snd.snd.2) fun y_2 =>
              ob
                (takeS
                  ((x.snd.snd.snd.fst.1, x.snd.snd.snd.fst.snd.1, x.snd.snd.snd.fst.snd.snd.1,
                      x.snd.snd.snd.fst.snd.snd.2),
                    (x.fst.1, x.fst.2), y, y_2))
                fun y =>
                some
                  (LRes.next, (x.fst.1, x.fst.2), x.snd.1, x.snd.snd.1,
                    (y.snd.fst.1, y.snd.fst.snd.1, y.snd.fst.snd.snd.1, y.snd.fst.snd.snd.2), x.snd.snd.snd.snd.1,
                    x.snd.snd.snd.snd.snd.1, IntKind.i64.wrap (x.snd.snd.snd.snd.snd.2 + (1 : Int))))
          (some
            (LRes.out, (x.fst.1, x.fst.2), x.snd.1, x.snd.snd.1,
              (x.snd.snd.snd.fst.1, x.snd.snd.snd.fst.snd.1, x.snd.snd.snd.fst.snd.snd.1, x.snd.snd.snd.fst.snd.snd.2),
              x.snd.snd.snd.snd.1, x.snd.snd.snd.snd.snd.1, x.snd.snd.snd.snd.snd.2)))
    (some
      (LRes.out, (x.fst.1, x.fst.2), x.snd.1, x.snd.snd.1,
        (x.snd.snd.snd.fst.1, x.snd.snd.snd.fst.snd.1, x.snd.snd.snd.fst.snd.snd.1, x.snd.snd.snd.fst.snd.snd.2),
        x.snd.snd.snd.snd.1, x.snd.snd.snd.snd.snd.1, x.snd.snd.snd.snd.snd.2))
def searchS1_fuel : (Int × Int) × List ((Int × List (Int))) × List ((Int × List (Int))) × (Int × Int × Int × List ((Int × Int))) × Int × Int × Int → Nat := fun s => (s.2.2.1.length - s.2.2.2.2.2.2.toNat) + 1
def searchS1 : (Int × Int) × List ((Int × List (Int))) × List ((Int × List (Int))) × (Int × Int × Int × List ((Int × Int))) × Int × Int × Int → Option ((Int × Int) × List ((Int × List (Int))) × List ((Int × List (Int))) × (Int × Int × Int × List ((Int × Int))) × Int × Int × Int) := fun s => iterP searchS1_step (searchS1_fuel s) s
def searchS1_L : LoopC := ⟨searchS1_vars, 4, .plain searchS1⟩
noncomputable def searchS1_key : Nat := key (loopIn (loopAt Tryz.f79 0) 1)
theorem searchS1_stepok (x : searchS1_vars.den) : stepOf (mkEnvM [] [(108, takeS_con)] []) Tryz.f79.ntmps searchS1_vars 4 (loopIn (loopAt Tryz.f79 0) 1) x = searchS1_step x := by kernel_rfl
theorem searchS1_ok : LoopOK Tryz.prog Tryz.f79.ntmps searchS1_L (loopIn (loopAt Tryz.f79 0) 1)   := iterP_loop (n := Tryz.f79.ntmps) (vs := searchS1_vars) (out := 4) (body := loopIn (loopAt Tryz.f79 0) 1) (mkEnvM_ok (cons := []) (mcons := [(108, takeS_con)]) trivial ⟨takeS_ok, trivial⟩ []) searchS1_step searchS1_fuel (by exact trivial) searchS1_stepok

def searchSL_vars : Vars := [(2, .box 0 27 (.pair (i64) (i64))), (5, .val (.slice (.pair (i64) (.slice (i64))))), (6, .val (.slice (.pair (i64) (.slice (i64))))), (7, .box 0 139 (.pair (i64) (.pair (i64) (.pair (i64) (.slice (.pair (i64) (i64))))))), (8, .val (i64))]
def searchSL_step : (Int × Int) × List ((Int × List (Int))) × List ((Int × List (Int))) × (Int × Int × Int × List ((Int × Int))) × Int → Option (LRes × ((Int × Int) × List ((Int × List (Int))) × List ((Int × List (Int))) × (Int × Int × Int × List ((Int × Int))) × Int)) :=
fun x =>
  br (decide (x.snd.snd.snd.2 < (↑(List.length x.snd.1) : Int)))
    (ob (idx x.snd.1 x.snd.snd.snd.2) fun y =>
      br (x.fst.1 == (0 : Int)) none
        (ob
          (firstS
            (x.snd.snd.1,
              IntKind.i64.wrap (IntKind.i64.wrap ((IntKind.i64.wrap (y.1 * x.fst.2)).tdiv x.fst.1) + (1 : Int))))
          fun y =>
          br (decide ((0 : Int) < y))
            (ob (idx x.snd.snd.1 (IntKind.i64.wrap (y - (1 : Int)))) fun y_1 =>
              ob
                (searchS0
                  ((x.fst.1, x.fst.2), x.snd.1, x.snd.snd.1,
                    (x.snd.snd.snd.fst.1, x.snd.snd.snd.fst.snd.1, x.snd.snd.snd.fst.snd.snd.1,
                      x.snd.snd.snd.fst.snd.snd.2),
                    x.snd.snd.snd.2, y, y_1.1, IntKind.i64.wrap (y - (1 : Int))))
                fun r =>
                ob
                  (searchS1
                    ((r.fst.1, r.fst.2), r.snd.1, r.snd.snd.1,
                      (r.snd.snd.snd.fst.1, r.snd.snd.snd.fst.snd.1, r.snd.snd.snd.fst.snd.snd.1,
                        r.snd.snd.snd.fst.snd.snd.2),
                      r.snd.snd.snd.snd.1, r.snd.snd.snd.snd.snd.1, r.snd.snd.snd.snd.snd.1))
                  fun r =>
                  some
                    (LRes.next, (r.fst.1, r.fst.2), r.snd.1, r.snd.snd.1,
                      (r.snd.snd.snd.fst.1, r.snd.snd.snd.fst.snd.1, r.snd.snd.snd.fst.snd.snd.1,
                        r.snd.snd.snd.fst.snd.snd.2),
                      IntKind.i64.wrap (r.snd.snd.snd.snd.1 + (1 : Int))))
            (ob
              (searchS1
                ((x.fst.1, x.fst.2), x.snd.1, x.snd.snd.1,
                  (x.snd.snd.snd.fst.1, x.snd.snd.snd.fst.snd.1, x.snd.snd.snd.fst.snd.snd.1,
                    x.snd.snd.snd.fst.snd.snd.2),
                  x.snd.snd.snd.2, y, y))
              fun r =>
              some
                (LRes.next, (r.fst.1, r.fst.2), r.snd.1, r.snd.snd.1,
                  (r.snd.snd.snd.fst.1, r.snd.snd.snd.fst.snd.1, r.snd.snd.snd.fst.snd.snd.1,
                    r.snd.snd.snd.fst.snd.snd.2),
                  IntKind.i64.wrap (r.snd.snd.snd.snd.1 + (1 : Int))))))
    (some
      (LRes.out, (x.fst.1, x.fst.2), x.snd.1, x.snd.snd.1,
        (x.snd.snd.snd.fst.1, x.snd.snd.snd.fst.snd.1, x.snd.snd.snd.fst.snd.snd.1, x.snd.snd.snd.fst.snd.snd.2),
        x.snd.snd.snd.2))
def searchSL_fuel : (Int × Int) × List ((Int × List (Int))) × List ((Int × List (Int))) × (Int × Int × Int × List ((Int × Int))) × Int → Nat := fun s => (s.2.1.length - s.2.2.2.2.toNat) + 1
def searchSL : (Int × Int) × List ((Int × List (Int))) × List ((Int × List (Int))) × (Int × Int × Int × List ((Int × Int))) × Int → Option ((Int × Int) × List ((Int × List (Int))) × List ((Int × List (Int))) × (Int × Int × Int × List ((Int × Int))) × Int) := fun s => iterP searchSL_step (searchSL_fuel s) s
def searchSL_L : LoopC := ⟨searchSL_vars, 0, .plain searchSL⟩
noncomputable def searchSL_key : Nat := key (loopAt Tryz.f79 0)
theorem searchSL_stepok (x : searchSL_vars.den) : stepOf (mkEnv [(107, firstS_con)] [(searchS0_key, searchS0_L), (searchS1_key, searchS1_L)]) Tryz.f79.ntmps searchSL_vars 0 (loopAt Tryz.f79 0) x = searchSL_step x := by kernel_rfl
theorem searchSL_ok : LoopOK Tryz.prog Tryz.f79.ntmps searchSL_L (loopAt Tryz.f79 0)   := iterP_loop (n := Tryz.f79.ntmps) (vs := searchSL_vars) (out := 0) (body := loopAt Tryz.f79 0) (mkEnv_ok (cons := [(107, firstS_con)]) ⟨firstS_ok, trivial⟩ [(searchS0_key, searchS0_L), (searchS1_key, searchS1_L)]) searchSL_step searchSL_fuel (by exact ⟨searchS0_ok, searchS1_ok, trivial⟩) searchSL_stepok

def searchS : (Int × Int) × (Int × Int × Int × Int × Int) → Option (List ((Int × Int))) :=
fun x =>
  ob (productsS (x.snd.1, x.snd.snd.1, x.snd.snd.snd.snd.2)) fun y =>
    ob (productsS (x.snd.snd.snd.1, x.snd.snd.snd.snd.1, x.snd.snd.snd.snd.2)) fun y_1 =>
      ob (sortPS y_1) fun y_2 =>
        ob (searchSL ((x.fst.1, x.fst.2), y, y_2, ((0 : Int), (0 : Int), (0 : Int), []), (0 : Int))) fun r =>
          some r.snd.snd.snd.fst.snd.snd.2
def searchS_con : Con := ⟨[.pair (i64) (i64), .ref (.pair (i64) (.pair (i64) (.pair (i64) (.pair (i64) (i64)))))], [.d (.slice (.pair (i64) (i64)))], searchS⟩
theorem searchS_run (x : Dens [.pair (i64) (i64), .ref (.pair (i64) (.pair (i64) (.pair (i64) (.pair (i64) (i64)))))]) : runFn (frzE [(3, [5])] (mkEnv [(105, productsS_con), (106, sortPS_con)] [(searchSL_key, searchSL_L)])) Tryz.f79 [.pair (i64) (i64), .ref (.pair (i64) (.pair (i64) (.pair (i64) (.pair (i64) (i64)))))] [.d (.slice (.pair (i64) (i64)))] x = searchS x := by kernel_rfl
theorem searchS_ok : searchS_con.ok Tryz.prog 79 := fn_ok (con := searchS_con) (frzE_ok (f := [(3, [5])]) (mkEnv_ok (cons := [(105, productsS_con), (106, sortPS_con)]) ⟨productsS_ok, sortPS_ok, trivial⟩ [(searchSL_key, searchSL_L)])) Tryz.func79 rfl (by kernel_rfl) (by exact ⟨searchSL_ok, trivial⟩) (fun x y h => (searchS_run x).trans h)

def findS : (Int × Int) × (Int × Int × Int × Int × Int) → Option ((List ((Int × Int)) × (Int × Int)) × Int) :=
fun x =>
  ob (searchS ((x.fst.1, x.fst.2), x.2)) fun y =>
    ob (errorS (y, x.fst.1, x.fst.2)) fun y_1 =>
      br (y_1.2 != (0 : Int)) (some (([], (0 : Int), (0 : Int)), y_1.2)) (some ((y, y_1.fst.1, y_1.fst.2), (0 : Int)))
def findS_con : Con := ⟨[.pair (i64) (i64), .ref (.pair (i64) (.pair (i64) (.pair (i64) (.pair (i64) (i64)))))], [.d (.pair (.slice (.pair (i64) (i64))) (.pair (i64) (i64))), .d (i64)], findS⟩
theorem findS_run (x : Dens [.pair (i64) (i64), .ref (.pair (i64) (.pair (i64) (.pair (i64) (.pair (i64) (i64)))))]) : runFn (mkEnv [(79, searchS_con), (8, errorS_con)] []) Tryz.f42 [.pair (i64) (i64), .ref (.pair (i64) (.pair (i64) (.pair (i64) (.pair (i64) (i64)))))] [.d (.pair (.slice (.pair (i64) (i64))) (.pair (i64) (i64))), .d (i64)] x = findS x := by kernel_rfl
theorem findS_ok : findS_con.ok Tryz.prog 42 := fn_ok (con := findS_con) (mkEnv_ok (cons := [(79, searchS_con), (8, errorS_con)]) ⟨searchS_ok, errorS_ok, trivial⟩ []) Tryz.func42 rfl (by kernel_rfl) (by exact trivial) (fun x y h => (findS_run x).trans h)


end
end Rx
end Go.Proofs.YthfgpnpoocepeaaGreat
