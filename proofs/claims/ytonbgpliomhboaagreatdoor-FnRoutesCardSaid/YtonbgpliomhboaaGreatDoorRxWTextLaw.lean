/- What the functions of RxWText come to, and their contracts. No conditions. -/
import Derived.Test.YtonbgpliomhboaaGreatDoorRxEnv
import Derived.Test.YtonbgpliomhboaaGreatDoorRxText
import Derived.Test.YtonbgpliomhboaaGreatDoorRxWorks
import Derived.Test.YtonbgpliomhboaaGreatDoorRxBld
import Derived.Test.YtonbgpliomhboaaGreatDoorRxTextLaw
import Derived.Test.YtonbgpliomhboaaGreatDoorRxWorksLaw
namespace Go.Proofs.YtonbgpliomhboaaGreatDoor
namespace Rx
open Go

noncomputable section
def wtIT_vars : Vars := [(1, .box 0 25 (.pair (.slice (.pair (.str) (.slice (i64)))) (.slice (.pair (i64) (.pair (i64) (.pair (i64) (i64))))))), (3, .obj (.bld 84 5)), (14, .val (.slice (.pair (.str) (.slice (i64))))), (15, .val (i64)), (16, .val (i64)), (25, .val (.slice (i64))), (26, .val (i64)), (27, .val (i64))]
def wtIT_step : (List ((ByteArray × List (Int))) × List ((Int × Int × Int × Int))) × ByteArray × List ((ByteArray × List (Int))) × Int × Int × List (Int) × Int × Int → Option (LRes × ((List ((ByteArray × List (Int))) × List ((Int × Int × Int × Int))) × ByteArray × List ((ByteArray × List (Int))) × Int × Int × List (Int) × Int × Int)) :=
fun x =>
  br (decide (x.snd.snd.snd.snd.snd.snd.2 < x.snd.snd.snd.snd.snd.snd.1))
    (ob (idx x.snd.snd.snd.snd.snd.1 x.snd.snd.snd.snd.snd.snd.2) fun y =>
      ob (decI y) fun y =>
        br (decide ((⟨⟨[(32 : UInt8)]⟩⟩ : ByteArray).size + ByteArray.size y ≤ (9223372036854775807 : Nat)))
          (br
            (decide
              (ByteArray.size x.snd.1 + ((⟨⟨[(32 : UInt8)]⟩⟩ : ByteArray) ++ y).size ≤ (140737488355328 : Nat)))
            (some
              (LRes.next, (x.fst.1, x.fst.2), x.snd.1 ++ ((⟨⟨[(32 : UInt8)]⟩⟩ : ByteArray) ++ y), x.snd.snd.1,
                x.snd.snd.snd.1, x.snd.snd.snd.snd.1, x.snd.snd.snd.snd.snd.1, x.snd.snd.snd.snd.snd.snd.1,
                IntKind.i64.wrap (x.snd.snd.snd.snd.snd.snd.2 + (1 : Int))))
            none)
          none)
    (some
      (LRes.out, (x.fst.1, x.fst.2), x.snd.1, x.snd.snd.1, x.snd.snd.snd.1, x.snd.snd.snd.snd.1,
        x.snd.snd.snd.snd.snd.1, x.snd.snd.snd.snd.snd.snd.1, x.snd.snd.snd.snd.snd.snd.2))
def wtIT_fuel : (List ((ByteArray × List (Int))) × List ((Int × Int × Int × Int))) × ByteArray × List ((ByteArray × List (Int))) × Int × Int × List (Int) × Int × Int → Nat := fun s => (s.2.2.2.2.2.2.1 - s.2.2.2.2.2.2.2).toNat + 1
def wtIT : (List ((ByteArray × List (Int))) × List ((Int × Int × Int × Int))) × ByteArray × List ((ByteArray × List (Int))) × Int × Int × List (Int) × Int × Int → Option ((List ((ByteArray × List (Int))) × List ((Int × Int × Int × Int))) × ByteArray × List ((ByteArray × List (Int))) × Int × Int × List (Int) × Int × Int) := fun s => iterP wtIT_step (wtIT_fuel s) s
def wtIT_L : LoopC := ⟨wtIT_vars, 2, .plain wtIT⟩
noncomputable def wtIT_key : Nat := key (loopIn (loopAt Tryz.f17 0) 0)
theorem wtIT_stepok (x : wtIT_vars.den) : stepOf (bldE 84 5 42 44 (mkEnv [(43, decI_con)] [])) Tryz.f17.ntmps wtIT_vars 2 (loopIn (loopAt Tryz.f17 0) 0) x = wtIT_step x := by kernel_rfl
theorem wtIT_ok : LoopOK Tryz.prog Tryz.f17.ntmps wtIT_L (loopIn (loopAt Tryz.f17 0) 0)   := iterP_loop (n := Tryz.f17.ntmps) (vs := wtIT_vars) (out := 2) (body := loopIn (loopAt Tryz.f17 0) 0) (bldE_ok (mkEnv_ok (cons := [(43, decI_con)]) ⟨decI_ok, trivial⟩ []) blt_ok blw_ok bls_ok) wtIT_step wtIT_fuel (by exact trivial) wtIT_stepok

def wtIA_vars : Vars := [(1, .box 0 25 (.pair (.slice (.pair (.str) (.slice (i64)))) (.slice (.pair (i64) (.pair (i64) (.pair (i64) (i64))))))), (3, .obj (.bld 84 5)), (14, .val (.slice (.pair (.str) (.slice (i64))))), (15, .val (i64)), (16, .val (i64))]
def wtIA_step : (List ((ByteArray × List (Int))) × List ((Int × Int × Int × Int))) × ByteArray × List ((ByteArray × List (Int))) × Int × Int → Option (LRes × ((List ((ByteArray × List (Int))) × List ((Int × Int × Int × Int))) × ByteArray × List ((ByteArray × List (Int))) × Int × Int)) :=
fun x =>
  br (decide (x.snd.snd.snd.2 < x.snd.snd.snd.1))
    (ob (idx x.snd.snd.1 x.snd.snd.snd.2) fun y =>
      br
        (decide
          ((⟨⟨[(97 : UInt8), (114 : UInt8), (98 : UInt8), (111 : UInt8), (114 : UInt8), (32 : UInt8)]⟩⟩ : ByteArray).size +
              ByteArray.size y.1 ≤
            (9223372036854775807 : Nat)))
        (br
          (decide
            (ByteArray.size x.snd.1 +
                ((⟨⟨[(97 : UInt8), (114 : UInt8), (98 : UInt8), (111 : UInt8), (114 : UInt8), (32 : UInt8)]⟩⟩ : ByteArray) ++
                    y.1).size ≤
              (140737488355328 : Nat)))
          (ob
            (wtIT
              ((x.fst.1, x.fst.2),
                x.snd.1 ++
                  ((⟨⟨[(97 : UInt8), (114 : UInt8), (98 : UInt8), (111 : UInt8), (114 : UInt8), (32 : UInt8)]⟩⟩ : ByteArray) ++
                    y.1),
                x.snd.snd.1, x.snd.snd.snd.1, x.snd.snd.snd.2, y.2, (↑(List.length y.2) : Int), (0 : Int)))
            fun r =>
            br
              (decide
                (ByteArray.size r.snd.1 + (⟨⟨[(10 : UInt8)]⟩⟩ : ByteArray).size ≤ (140737488355328 : Nat)))
              (some
                (LRes.next, (r.fst.1, r.fst.2), r.snd.1 ++ (⟨⟨[(10 : UInt8)]⟩⟩ : ByteArray), r.snd.snd.1,
                  r.snd.snd.snd.1, IntKind.i64.wrap (r.snd.snd.snd.snd.1 + (1 : Int))))
              none)
          none)
        none)
    (some (LRes.out, (x.fst.1, x.fst.2), x.snd.1, x.snd.snd.1, x.snd.snd.snd.1, x.snd.snd.snd.2))
def wtIA_fuel : (List ((ByteArray × List (Int))) × List ((Int × Int × Int × Int))) × ByteArray × List ((ByteArray × List (Int))) × Int × Int → Nat := fun s => (s.2.2.2.1 - s.2.2.2.2).toNat + 1
def wtIA : (List ((ByteArray × List (Int))) × List ((Int × Int × Int × Int))) × ByteArray × List ((ByteArray × List (Int))) × Int × Int → Option ((List ((ByteArray × List (Int))) × List ((Int × Int × Int × Int))) × ByteArray × List ((ByteArray × List (Int))) × Int × Int) := fun s => iterP wtIA_step (wtIA_fuel s) s
def wtIA_L : LoopC := ⟨wtIA_vars, 0, .plain wtIA⟩
noncomputable def wtIA_key : Nat := key (loopAt Tryz.f17 0)
theorem wtIA_stepok (x : wtIA_vars.den) : stepOf (bldE 84 5 42 44 (mkEnv [] [(wtIT_key, wtIT_L)])) Tryz.f17.ntmps wtIA_vars 0 (loopAt Tryz.f17 0) x = wtIA_step x := by kernel_rfl
theorem wtIA_ok : LoopOK Tryz.prog Tryz.f17.ntmps wtIA_L (loopAt Tryz.f17 0)   := iterP_loop (n := Tryz.f17.ntmps) (vs := wtIA_vars) (out := 0) (body := loopAt Tryz.f17 0) (bldE_ok (mkEnv_ok (cons := []) trivial [(wtIT_key, wtIT_L)]) blt_ok blw_ok bls_ok) wtIA_step wtIA_fuel (by exact ⟨wtIT_ok, trivial⟩) wtIA_stepok

def wtIM_vars : Vars := [(1, .box 0 25 (.pair (.slice (.pair (.str) (.slice (i64)))) (.slice (.pair (i64) (.pair (i64) (.pair (i64) (i64))))))), (3, .obj (.bld 84 5)), (39, .val (.slice (.pair (i64) (.pair (i64) (.pair (i64) (i64)))))), (40, .val (i64)), (41, .val (i64))]
def wtIM_step : (List ((ByteArray × List (Int))) × List ((Int × Int × Int × Int))) × ByteArray × List ((Int × Int × Int × Int)) × Int × Int → Option (LRes × ((List ((ByteArray × List (Int))) × List ((Int × Int × Int × Int))) × ByteArray × List ((Int × Int × Int × Int)) × Int × Int)) :=
fun x =>
  br (decide (x.snd.snd.snd.2 < x.snd.snd.snd.1))
    (ob (idx x.snd.snd.1 x.snd.snd.snd.2) fun y =>
      ob (idx x.fst.1 y.1) fun y_1 =>
        br
          (decide
            ((⟨⟨[(109 : UInt8), (101 : UInt8), (115 : UInt8), (104 : UInt8), (32 : UInt8)]⟩⟩ : ByteArray).size +
                ByteArray.size y_1.1 ≤
              (9223372036854775807 : Nat)))
          (br
            (decide
              (((⟨⟨[(109 : UInt8), (101 : UInt8), (115 : UInt8), (104 : UInt8), (32 : UInt8)]⟩⟩ : ByteArray) ++
                      y_1.1).size +
                  (⟨⟨[(32 : UInt8)]⟩⟩ : ByteArray).size ≤
                (9223372036854775807 : Nat)))
            (ob (decI y.snd.1) fun y_2 =>
              br
                (decide
                  (((⟨⟨[(109 : UInt8), (101 : UInt8), (115 : UInt8), (104 : UInt8), (32 : UInt8)]⟩⟩ : ByteArray) ++
                            y_1.1 ++
                          (⟨⟨[(32 : UInt8)]⟩⟩ : ByteArray)).size +
                      ByteArray.size y_2 ≤
                    (9223372036854775807 : Nat)))
                (br
                  (decide
                    (((⟨⟨[(109 : UInt8), (101 : UInt8), (115 : UInt8), (104 : UInt8), (32 : UInt8)]⟩⟩ : ByteArray) ++
                                y_1.1 ++
                              (⟨⟨[(32 : UInt8)]⟩⟩ : ByteArray) ++
                            y_2).size +
                        (⟨⟨[(32 : UInt8)]⟩⟩ : ByteArray).size ≤
                      (9223372036854775807 : Nat)))
                  (ob (idx x.fst.1 y.snd.snd.1) fun y_3 =>
                    br
                      (decide
                        (((⟨⟨[(109 : UInt8), (101 : UInt8), (115 : UInt8), (104 : UInt8), (32 : UInt8)]⟩⟩ : ByteArray) ++
                                      y_1.1 ++
                                    (⟨⟨[(32 : UInt8)]⟩⟩ : ByteArray) ++
                                  y_2 ++
                                (⟨⟨[(32 : UInt8)]⟩⟩ : ByteArray)).size +
                            ByteArray.size y_3.1 ≤
                          (9223372036854775807 : Nat)))
                      (br
                        (decide
                          (((⟨⟨[(109 : UInt8), (101 : UInt8), (115 : UInt8), (104 : UInt8), (32 : UInt8)]⟩⟩ : ByteArray) ++
                                          y_1.1 ++
                                        (⟨⟨[(32 : UInt8)]⟩⟩ : ByteArray) ++
                                      y_2 ++
                                    (⟨⟨[(32 : UInt8)]⟩⟩ : ByteArray) ++
                                  y_3.1).size +
                              (⟨⟨[(32 : UInt8)]⟩⟩ : ByteArray).size ≤
                            (9223372036854775807 : Nat)))
                        (ob (decI y.snd.snd.2) fun y =>
                          br
                            (decide
                              (((⟨⟨[(109 : UInt8), (101 : UInt8), (115 : UInt8), (104 : UInt8), (32 : UInt8)]⟩⟩ : ByteArray) ++
                                                y_1.1 ++
                                              (⟨⟨[(32 : UInt8)]⟩⟩ : ByteArray) ++
                                            y_2 ++
                                          (⟨⟨[(32 : UInt8)]⟩⟩ : ByteArray) ++
                                        y_3.1 ++
                                      (⟨⟨[(32 : UInt8)]⟩⟩ : ByteArray)).size +
                                  ByteArray.size y ≤
                                (9223372036854775807 : Nat)))
                            (br
                              (decide
                                (((⟨⟨[(109 : UInt8), (101 : UInt8), (115 : UInt8), (104 : UInt8), (32 : UInt8)]⟩⟩ : ByteArray) ++
                                                    y_1.1 ++
                                                  (⟨⟨[(32 : UInt8)]⟩⟩ : ByteArray) ++
                                                y_2 ++
                                              (⟨⟨[(32 : UInt8)]⟩⟩ : ByteArray) ++
                                            y_3.1 ++
                                          (⟨⟨[(32 : UInt8)]⟩⟩ : ByteArray) ++
                                        y).size +
                                    (⟨⟨[(10 : UInt8)]⟩⟩ : ByteArray).size ≤
                                  (9223372036854775807 : Nat)))
                              (br
                                (decide
                                  (ByteArray.size x.snd.1 +
                                      ((⟨⟨[(109 : UInt8), (101 : UInt8), (115 : UInt8), (104 : UInt8), (32 : UInt8)]⟩⟩ : ByteArray) ++
                                                        y_1.1 ++
                                                      (⟨⟨[(32 : UInt8)]⟩⟩ : ByteArray) ++
                                                    y_2 ++
                                                  (⟨⟨[(32 : UInt8)]⟩⟩ : ByteArray) ++
                                                y_3.1 ++
                                              (⟨⟨[(32 : UInt8)]⟩⟩ : ByteArray) ++
                                            y ++
                                          (⟨⟨[(10 : UInt8)]⟩⟩ : ByteArray)).size ≤
                                    (140737488355328 : Nat)))
                                (some
                                  (LRes.next, (x.fst.1, x.fst.2),
                                    x.snd.1 ++
                                      ((⟨⟨[(109 : UInt8), (101 : UInt8), (115 : UInt8), (104 : UInt8), (32 : UInt8)]⟩⟩ : ByteArray) ++
                                                      y_1.1 ++
                                                    (⟨⟨[(32 : UInt8)]⟩⟩ : ByteArray) ++
                                                  y_2 ++
                                                (⟨⟨[(32 : UInt8)]⟩⟩ : ByteArray) ++
                                              y_3.1 ++
                                            (⟨⟨[(32 : UInt8)]⟩⟩ : ByteArray) ++
                                          y ++
                                        (⟨⟨[(10 : UInt8)]⟩⟩ : ByteArray)),
                                    x.snd.snd.1, x.snd.snd.snd.1, IntKind.i64.wrap (x.snd.snd.snd.2 + (1 : Int))))
                                none)
                              none)
                            none)
                        none)
                      none)
                  none)
                none)
            none)
          none)
    (some (LRes.out, (x.fst.1, x.fst.2), x.snd.1, x.snd.snd.1, x.snd.snd.snd.1, x.snd.snd.snd.2))
def wtIM_fuel : (List ((ByteArray × List (Int))) × List ((Int × Int × Int × Int))) × ByteArray × List ((Int × Int × Int × Int)) × Int × Int → Nat := fun s => (s.2.2.2.1 - s.2.2.2.2).toNat + 1
def wtIM : (List ((ByteArray × List (Int))) × List ((Int × Int × Int × Int))) × ByteArray × List ((Int × Int × Int × Int)) × Int × Int → Option ((List ((ByteArray × List (Int))) × List ((Int × Int × Int × Int))) × ByteArray × List ((Int × Int × Int × Int)) × Int × Int) := fun s => iterP wtIM_step (wtIM_fuel s) s
def wtIM_L : LoopC := ⟨wtIM_vars, 4, .plain wtIM⟩
noncomputable def wtIM_key : Nat := key (loopAt Tryz.f17 1)
theorem wtIM_stepok (x : wtIM_vars.den) : stepOf (bldE 84 5 42 44 (mkEnv [(43, decI_con)] [])) Tryz.f17.ntmps wtIM_vars 4 (loopAt Tryz.f17 1) x = wtIM_step x := by kernel_rfl
theorem wtIM_ok : LoopOK Tryz.prog Tryz.f17.ntmps wtIM_L (loopAt Tryz.f17 1)   := iterP_loop (n := Tryz.f17.ntmps) (vs := wtIM_vars) (out := 4) (body := loopAt Tryz.f17 1) (bldE_ok (mkEnv_ok (cons := [(43, decI_con)]) ⟨decI_ok, trivial⟩ []) blt_ok blw_ok bls_ok) wtIM_step wtIM_fuel (by exact trivial) wtIM_stepok

def wtI : (List ((ByteArray × List (Int))) × List ((Int × Int × Int × Int))) → Option (ByteArray) :=
fun x =>
  ob (validWI (x.1, x.2)) fun y =>
    br (!y) (some (⟨⟨[]⟩⟩ : ByteArray))
      (ob (wtIA ((x.1, x.2), (⟨⟨[]⟩⟩ : ByteArray), x.1, (↑x.1.length : Int), (0 : Int))) fun r =>
        ob (wtIM ((r.fst.1, r.fst.2), r.snd.1, r.fst.2, (↑(List.length r.fst.2) : Int), (0 : Int))) fun r =>
          some r.snd.1)
def wtI_con : Con := ⟨[.pair (.slice (.pair (.str) (.slice (i64)))) (.slice (.pair (i64) (.pair (i64) (.pair (i64) (i64)))))], [.d (.str)], wtI⟩
theorem wtI_run (x : Dens [.pair (.slice (.pair (.str) (.slice (i64)))) (.slice (.pair (i64) (.pair (i64) (.pair (i64) (i64)))))]) : runFn (bldE 84 5 42 44 (mkEnv [(25, validWI_con)] [(wtIA_key, wtIA_L), (wtIM_key, wtIM_L)])) Tryz.f17 [.pair (.slice (.pair (.str) (.slice (i64)))) (.slice (.pair (i64) (.pair (i64) (.pair (i64) (i64)))))] [.d (.str)] x = wtI x := by kernel_rfl
theorem wtI_ok : wtI_con.ok Tryz.prog 17 := fn_ok (con := wtI_con) (bldE_ok (mkEnv_ok (cons := [(25, validWI_con)]) ⟨validWI_ok, trivial⟩ [(wtIA_key, wtIA_L), (wtIM_key, wtIM_L)]) blt_ok blw_ok bls_ok) Tryz.func17 rfl (by kernel_rfl) (by exact ⟨wtIA_ok, wtIM_ok, trivial⟩) (fun x y h => (wtI_run x).trans h)







end
end Rx
end Go.Proofs.YtonbgpliomhboaaGreatDoor

namespace Go.Proofs.YtonbgpliomhboaaGreatDoor
namespace Rx
open Go

theorem text_loop {σ α : Type} {step : σ → Option (LRes × σ)} {l : List α} (S : BA → Nat → σ) (h : BA → α → BA) (c m : Nat) (hsz : ∀ acc y, y ∈ l → (h acc y).size ≤ acc.size + c)
    (hn : ∀ acc (i : Nat) y, l[i]? = some y → acc.size + c ≤ m → step (S acc i) = some (.next, S (h acc y) (i + 1))) (ho : ∀ acc, step (S acc l.length) = some (.out, S acc l.length)) {acc : BA} (hm : acc.size + c * l.length ≤ m) {f : Nat} (hf : l.length < f) :
    iterP step f (S acc 0) = some (S (l.foldl h acc) l.length) ∧ (l.foldl h acc).size ≤ acc.size + c * l.length := by
  have key : ∀ (rest pre : List α) (acc : BA) (f : Nat), l = pre ++ rest → acc.size + c * rest.length ≤ m → rest.length < f → iterP step f (S acc pre.length) = some (S (rest.foldl h acc) l.length) ∧ (rest.foldl h acc).size ≤ acc.size + c * rest.length := by
    intro rest
    induction rest with
    | nil =>
      intro pre acc f hl _ hf
      obtain ⟨f, rfl⟩ : ∃ n, f = n + 1 := ⟨f - 1, by omega⟩
      have hp : pre.length = l.length := by rw [hl, List.append_nil]
      refine ⟨?_, by simp⟩
      show ob (step (S acc pre.length)) _ = _
      rw [hp, ho]; rfl
    | cons y rest ih =>
      intro pre acc f hl hm hf
      obtain ⟨f, rfl⟩ : ∃ n, f = n + 1 := ⟨f - 1, by omega⟩
      rw [List.length_cons, Nat.mul_succ] at hm
      have hy : l[pre.length]? = some y := by rw [hl]; simp
      have hs := hsz acc y (by rw [hl]; simp)
      obtain ⟨g1, g2⟩ := ih (pre ++ [y]) (h acc y) f (by rw [hl]; simp) (by omega) (by rw [List.length_cons] at hf; omega)
      refine ⟨?_, ?_⟩
      · show ob (step (S acc pre.length)) _ = _
        rw [hn acc pre.length y hy (by omega)]
        rw [List.length_append, List.length_singleton] at g1
        exact g1
      · rw [List.length_cons, Nat.mul_succ, List.foldl_cons]
        omega
  exact key l [] acc f rfl hm hf
theorem s32 : (⟨⟨[(32 : UInt8)]⟩⟩ : ByteArray).size = 1 := rfl
theorem s10 : (⟨⟨[(10 : UInt8)]⟩⟩ : ByteArray).size = 1 := rfl
theorem sArb : (⟨⟨[(97 : UInt8), (114 : UInt8), (98 : UInt8), (111 : UInt8), (114 : UInt8), (32 : UInt8)]⟩⟩ : ByteArray).size = 6 := rfl
theorem sMsh : (⟨⟨[(109 : UInt8), (101 : UInt8), (115 : UInt8), (104 : UInt8), (32 : UInt8)]⟩⟩ : ByteArray).size = 5 := rfl
def hW (acc : BA) (t : Int) : BA := acc ++ ((⟨⟨[(32 : UInt8)]⟩⟩ : ByteArray) ++ decB t)
def hA (acc : BA) (y : ArborD) : BA := y.2.foldl hW (acc ++ ((⟨⟨[(97 : UInt8), (114 : UInt8), (98 : UInt8), (111 : UInt8), (114 : UInt8), (32 : UInt8)]⟩⟩ : ByteArray) ++ y.1)) ++ (⟨⟨[(10 : UInt8)]⟩⟩ : ByteArray)
def nameAt (w : WorksD) (a : Int) : BA := (match idx w.1 a with | some y => y.1 | none => ByteArray.empty)
def hM (w : WorksD) (acc : BA) (m : MeshD) : BA := acc ++ ((⟨⟨[(109 : UInt8), (101 : UInt8), (115 : UInt8), (104 : UInt8), (32 : UInt8)]⟩⟩ : ByteArray) ++ nameAt w m.1 ++ (⟨⟨[(32 : UInt8)]⟩⟩ : ByteArray) ++ decB m.2.1 ++ (⟨⟨[(32 : UInt8)]⟩⟩ : ByteArray) ++ nameAt w m.2.2.1 ++ (⟨⟨[(32 : UInt8)]⟩⟩ : ByteArray) ++ decB m.2.2.2 ++ (⟨⟨[(10 : UInt8)]⟩⟩ : ByteArray))
def worksB (w : WorksD) : BA := w.2.foldl (hM w) (w.1.foldl hA (⟨⟨[]⟩⟩ : ByteArray))

/-! ### What valid works are like -/
theorem arbor_bd {w : WorksD} (hk : worksOk w = true) {i : Nat} {y : ArborD} (hy : w.1[i]? = some y) : 1 ≤ y.1.size ∧ y.1.size ≤ 12 ∧ y.2.length ≤ 5 ∧ ∀ t ∈ y.2, 6 ≤ t ∧ t ≤ 240 := by
  unfold worksOk at hk
  simp only [Bool.and_eq_true] at hk
  have hp := allI_true hk.2.1 i y hy
  unfold arborPlace arborOk nameF at hp
  simp only [Bool.and_eq_true, decide_eq_true_eq] at hp
  refine ⟨hp.1.2.1.1, hp.1.2.1.2.1, by have := hp.1.2.2; omega, fun t ht => ?_⟩
  have := List.all_eq_true.1 hp.1.1 t ht
  unfold teethF inF at this
  simp only [Bool.and_eq_true, decide_eq_true_eq] at this
  exact this
theorem works_bd {w : WorksD} (hk : worksOk w = true) : w.1.length ≤ 16 ∧ w.2.length ≤ 24 := by
  unfold worksOk at hk
  simp only [Bool.and_eq_true, decide_eq_true_eq] at hk
  omega
theorem wheel_bd {w : WorksD} (hk : worksOk w = true) {a k : Int} (h : wheelF w a k = true) : ∃ y, idx w.1 a = some y ∧ nameAt w a = y.1 ∧ y.1.size ≤ 12 ∧ 0 ≤ k ∧ k ≤ 5 := by
  obtain ⟨y, z, hy, hz⟩ := wheel_at h
  have hy' := hy
  unfold idx at hy'
  split at hy'
  · have hb := arbor_bd hk hy'
    unfold wheelF at h
    rw [hy] at h
    unfold inF at h
    simp only [Bool.and_eq_true, decide_eq_true_eq] at h
    refine ⟨y, hy, by unfold nameAt; rw [hy], hb.2.1, by omega, by omega⟩
  · cases hy'
theorem mesh_bd {w : WorksD} (hk : worksOk w = true) {m : MeshD} (hm : m ∈ w.2) : wheelF w m.1 m.2.1 = true ∧ wheelF w m.2.2.1 m.2.2.2 = true := by
  unfold worksOk at hk
  simp only [Bool.and_eq_true] at hk
  obtain ⟨j, hj1, hj2⟩ := List.mem_iff_getElem.1 hm
  have hj : meshPlace w (0 + j) m = true := allI_true hk.2.2 j m (by rw [List.getElem?_eq_getElem hj1, hj2])
  unfold meshPlace joinF at hj
  simp only [Bool.and_eq_true] at hj
  exact hj.1.2
theorem dec_sz {n : Int} (h0 : -1000 ≤ n) (h1 : n ≤ 1000) : 1 ≤ (decB n).size ∧ (decB n).size ≤ 21 := decB_size (by omega) (by omega)
theorem hW_sz {ws : List Int} (h : ∀ t ∈ ws, 6 ≤ t ∧ t ≤ 240) : ∀ acc t, t ∈ ws → (hW acc t).size ≤ acc.size + 22 := fun acc t ht => by
  have := h t ht
  have := dec_sz (n := t) (by omega) (by omega)
  unfold hW
  simp only [app_size, s32]
  omega
theorem fold_sz {α : Type} {l : List α} {h : BA → α → BA} {c : Nat} (hsz : ∀ acc y, y ∈ l → (h acc y).size ≤ acc.size + c) (acc : BA) : (l.foldl h acc).size ≤ acc.size + c * l.length := by
  induction l generalizing acc with
  | nil => simp
  | cons y l ih =>
    have h1 := ih (fun acc z hz => hsz acc z (List.mem_cons_of_mem _ hz)) (h acc y)
    have h2 := hsz acc y (by simp)
    rw [List.foldl_cons, List.length_cons, Nat.mul_succ]
    omega
theorem hA_sz {w : WorksD} (hk : worksOk w = true) : ∀ acc y, y ∈ w.1 → (hA acc y).size ≤ acc.size + 200 := fun acc y hy => by
  obtain ⟨j, hj1, hj2⟩ := List.mem_iff_getElem.1 hy
  have hb := arbor_bd hk (i := j) (y := y) (by rw [List.getElem?_eq_getElem hj1, hj2])
  unfold hA
  have := fold_sz (hW_sz hb.2.2.2) (acc ++ ((⟨⟨[(97 : UInt8), (114 : UInt8), (98 : UInt8), (111 : UInt8), (114 : UInt8), (32 : UInt8)]⟩⟩ : ByteArray) ++ y.1))
  simp only [app_size, s10, sArb] at this ⊢
  omega
theorem hM_sz {w : WorksD} (hk : worksOk w = true) : ∀ acc y, y ∈ w.2 → (hM w acc y).size ≤ acc.size + 200 := fun acc m hm => by
  obtain ⟨h1, h2⟩ := mesh_bd hk hm
  obtain ⟨y1, a1, b1, c1, d1, e1⟩ := wheel_bd hk h1
  obtain ⟨y2, a2, b2, c2, d2, e2⟩ := wheel_bd hk h2
  have f1 := dec_sz (n := m.2.1) (by omega) (by omega)
  have f2 := dec_sz (n := m.2.2.2) (by omega) (by omega)
  unfold hM
  simp only [app_size, s32, s10, sMsh, b1, b2]
  omega

/-! ### The loops -/
theorem wtIT_eq {w : WorksD} {l : List ArborD} {n i : Int} {ws : List Int} (hl : ws.length ≤ 5) (h : ∀ t ∈ ws, 6 ≤ t ∧ t ≤ 240) {acc : BA} (ha : acc.size ≤ 100000) :
    wtIT (w, acc, l, n, i, ws, (ws.length : Int), 0) = some (w, ws.foldl hW acc, l, n, i, ws, (ws.length : Int), (ws.length : Int)) := by
  refine (text_loop (step := wtIT_step) (l := ws) (fun acc j => (w, acc, l, n, i, ws, (ws.length : Int), (j : Int))) hW 22 200000 (hW_sz h) (fun acc j t ht hs => ?_) (fun acc => ?_) (acc := acc) (by omega) (f := ((ws.length : Int) - 0).toNat + 1) (by omega)).1
  · have hlt := (List.getElem?_eq_some_iff.1 ht).1
    have hb := h t (List.mem_of_getElem? ht)
    have hd := dec_sz (n := t) (by omega) (by omega)
    have h1 : idx ws (j : Int) = some t := idx_nat (by omega) (by simpa using ht)
    unfold wtIT_step
    dsimp only
    rw [br_t (by simp; omega), ob_some' h1, ob_some' (decI_eq (n := t) ⟨by omega, by omega⟩), br_t (decide_eq_true (by rw [s32]; omega)), br_t (decide_eq_true (by rw [app_size, s32]; omega)), w64 (by omega) (by omega)]
    rfl
  · unfold wtIT_step
    dsimp only
    rw [br_f (by simp)]
theorem wtIA_eq {w : WorksD} (hk : worksOk w = true) : wtIA (w, (⟨⟨[]⟩⟩ : ByteArray), w.1, (w.1.length : Int), 0) = some (w, w.1.foldl hA (⟨⟨[]⟩⟩ : ByteArray), w.1, (w.1.length : Int), (w.1.length : Int)) := by
  have hw := works_bd hk
  refine (text_loop (step := wtIA_step) (l := w.1) (fun acc j => (w, acc, w.1, (w.1.length : Int), (j : Int))) hA 200 50000 (hA_sz hk) (fun acc j y hy hs => ?_) (fun acc => ?_) (acc := (⟨⟨[]⟩⟩ : ByteArray)) (by show 0 + 200 * w.1.length ≤ 50000; omega) (f := ((w.1.length : Int) - 0).toNat + 1) (by omega)).1
  · have hlt := (List.getElem?_eq_some_iff.1 hy).1
    have hb := arbor_bd hk hy
    have h1 : idx w.1 (j : Int) = some y := idx_nat (by omega) (by simpa using hy)
    have e := wtIT_eq (w := w) (l := w.1) (n := (w.1.length : Int)) (i := (j : Int)) hb.2.2.1 hb.2.2.2 (acc := acc ++ ((⟨⟨[(97 : UInt8), (114 : UInt8), (98 : UInt8), (111 : UInt8), (114 : UInt8), (32 : UInt8)]⟩⟩ : ByteArray) ++ y.1)) (by rw [app_size, app_size, sArb]; omega)
    have e' : wtIT ((w.1, w.2), acc ++ ((⟨⟨[(97 : UInt8), (114 : UInt8), (98 : UInt8), (111 : UInt8), (114 : UInt8), (32 : UInt8)]⟩⟩ : ByteArray) ++ y.1), w.1, (w.1.length : Int), (j : Int), y.2, (y.2.length : Int), 0) = _ := e
    have hs2 := fold_sz (hW_sz hb.2.2.2) (acc ++ ((⟨⟨[(97 : UInt8), (114 : UInt8), (98 : UInt8), (111 : UInt8), (114 : UInt8), (32 : UInt8)]⟩⟩ : ByteArray) ++ y.1))
    rw [app_size, app_size, sArb] at hs2
    unfold wtIA_step
    dsimp only
    rw [br_t (by simp; omega), ob_some' h1, br_t (decide_eq_true (by rw [sArb]; omega)), br_t (decide_eq_true (by rw [app_size, sArb]; omega)), ob_some' e']
    dsimp only
    rw [br_t (decide_eq_true (by rw [s10]; omega)), w64 (by omega) (by omega)]
    rfl
  · unfold wtIA_step
    dsimp only
    rw [br_f (by simp)]
theorem wtIM_eq {w : WorksD} (hk : worksOk w = true) {acc : BA} (ha : acc.size ≤ 10000) : wtIM (w, acc, w.2, (w.2.length : Int), 0) = some (w, w.2.foldl (hM w) acc, w.2, (w.2.length : Int), (w.2.length : Int)) := by
  have hw := works_bd hk
  refine (text_loop (step := wtIM_step) (l := w.2) (fun acc j => (w, acc, w.2, (w.2.length : Int), (j : Int))) (hM w) 200 50000 (hM_sz hk) (fun acc j m hm hs => ?_) (fun acc => ?_) (acc := acc) (by omega) (f := ((w.2.length : Int) - 0).toNat + 1) (by omega)).1
  · have hlt := (List.getElem?_eq_some_iff.1 hm).1
    have h0 : idx w.2 (j : Int) = some m := idx_nat (by omega) (by simpa using hm)
    obtain ⟨h1, h2⟩ := mesh_bd hk (List.mem_of_getElem? hm)
    obtain ⟨y1, a1, b1, c1, d1, e1⟩ := wheel_bd hk h1
    obtain ⟨y2, a2, b2, c2, d2, e2⟩ := wheel_bd hk h2
    have f1 := dec_sz (n := m.2.1) (by omega) (by omega)
    have f2 := dec_sz (n := m.2.2.2) (by omega) (by omega)
    unfold wtIM_step
    dsimp only
    rw [br_t (by simp; omega), ob_some' h0, ob_some' a1, br_t (decide_eq_true (by simp only [app_size, s32, s10, sMsh]; omega)), br_t (decide_eq_true (by simp only [app_size, s32, s10, sMsh]; omega)), ob_some' (decI_eq (n := m.2.1) ⟨by omega, by omega⟩),
      br_t (decide_eq_true (by simp only [app_size, s32, s10, sMsh]; omega)), br_t (decide_eq_true (by simp only [app_size, s32, s10, sMsh]; omega)), ob_some' a2, br_t (decide_eq_true (by simp only [app_size, s32, s10, sMsh]; omega)), br_t (decide_eq_true (by simp only [app_size, s32, s10, sMsh]; omega)),
      ob_some' (decI_eq (n := m.2.2.2) ⟨by omega, by omega⟩), br_t (decide_eq_true (by simp only [app_size, s32, s10, sMsh]; omega)), br_t (decide_eq_true (by simp only [app_size, s32, s10, sMsh]; omega)), br_t (decide_eq_true (by simp only [app_size, s32, s10, sMsh]; omega)), w64 (by omega) (by omega)]
    unfold hM
    rw [b1, b2]
    rfl
  · unfold wtIM_step
    dsimp only
    rw [br_f (by simp)]
/-! ### The text -/
theorem arbors_sz {w : WorksD} (hk : worksOk w = true) : (w.1.foldl hA (⟨⟨[]⟩⟩ : ByteArray)).size ≤ 10000 := by
  have := fold_sz (hA_sz hk) (⟨⟨[]⟩⟩ : ByteArray)
  have h0 : (⟨⟨[]⟩⟩ : ByteArray).size = 0 := rfl
  have := works_bd hk
  omega
theorem wtI_eq {w : WorksD} (hw : smallW w) : wtI (w.1, w.2) = some (if worksOk w = true then worksB w else (⟨⟨[]⟩⟩ : ByteArray)) := by
  have e1 : validWI (w.1, w.2) = some (worksOk w) := validWI_eq hw
  unfold wtI
  dsimp only
  rw [ob_some' e1]
  cases hk : worksOk w with
  | false => rfl
  | true =>
    have h1 : wtIA ((w.1, w.2), (⟨⟨[]⟩⟩ : ByteArray), w.1, (w.1.length : Int), 0) = _ := wtIA_eq hk
    have h2 : wtIM ((w.1, w.2), w.1.foldl hA (⟨⟨[]⟩⟩ : ByteArray), w.2, (w.2.length : Int), 0) = _ := wtIM_eq hk (arbors_sz hk)
    rw [br_f (c := !true) rfl, ob_some' h1]
    dsimp only
    rw [ob_some' h2]
    rfl
end Rx
end Go.Proofs.YtonbgpliomhboaaGreatDoor
