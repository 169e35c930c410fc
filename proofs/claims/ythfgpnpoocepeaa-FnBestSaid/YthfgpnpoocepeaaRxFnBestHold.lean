/- What the functions of RxBests come to, and their contracts. No conditions. -/
import Derived.Test.YthfgpnpoocepeaaRxEnv
import Derived.Test.YthfgpnpoocepeaaRxBest
import Derived.Test.YthfgpnpoocepeaaRxA2SeLaw
import Derived.Test.YthfgpnpoocepeaaRxBestBoth
import Derived.Test.YthfgpnpoocepeaaRxScan
namespace Go.Proofs.Ythfgpnpoocepeaa
namespace Rx
open Go

noncomputable section
def bestsIL_vars : Vars := [(2, .box 0 27 (.pair (i64) (i64))), (3, .box 0 25 (.pair (i64) (.pair (i64) (.pair (i64) (.pair (i64) (i64)))))), (7, .deep 0 32 (.pair (.row 66 (.pair (i64) (i64))) (.d (.pair (i64) (i64))))), (8, .val (i64))]
def bestsIL_rv : Vars := [(4, .deep 0 32 (.pair (.row 66 (.pair (i64) (i64))) (.d (.pair (i64) (i64))))), (5, .val (i64))]
def bestsIL_step : (Int × Int) × (Int × Int × Int × Int × Int) × List ((List ((Int × Int)) × (Int × Int))) × Int → Option (LS ((Int × Int) × (Int × Int × Int × Int × Int) × List ((List ((Int × Int)) × (Int × Int))) × Int) (List ((List ((Int × Int)) × (Int × Int))) × Int)) :=
fun x =>
  br (decide (x.snd.snd.2 ≤ x.snd.fst.snd.snd.snd.2))
    (ob
      (bestTI
        ((x.fst.1, x.fst.2), x.snd.fst.1, x.snd.fst.snd.1, x.snd.fst.snd.snd.1, x.snd.fst.snd.snd.snd.1, x.snd.snd.2))
      fun y =>
      br (y.2 != (0 : Int)) (some (LS.ret ([], y.2)))
        (br (decide (List.length x.snd.snd.1 + [(y.fst.1, y.fst.snd.1, y.fst.snd.2)].length ≤ (4294967296 : Nat)))
          (some
            (LS.next
              ((x.fst.1, x.fst.2),
                (x.snd.fst.1, x.snd.fst.snd.1, x.snd.fst.snd.snd.1, x.snd.fst.snd.snd.snd.1, x.snd.fst.snd.snd.snd.2),
                x.snd.snd.1 ++ [(y.fst.1, y.fst.snd.1, y.fst.snd.2)], IntKind.i64.wrap (x.snd.snd.2 + (1 : Int)))))
          none))
    (some
      (LS.out
        ((x.fst.1, x.fst.2),
          (x.snd.fst.1, x.snd.fst.snd.1, x.snd.fst.snd.snd.1, x.snd.fst.snd.snd.snd.1, x.snd.fst.snd.snd.snd.2),
          x.snd.snd.1, x.snd.snd.2)))
def bestsIL_fuel : (Int × Int) × (Int × Int × Int × Int × Int) × List ((List ((Int × Int)) × (Int × Int))) × Int → Nat := fun s => (s.2.1.2.2.2.2 + 1 - s.2.2.2).toNat + 1
def bestsIL : (Int × Int) × (Int × Int × Int × Int × Int) × List ((List ((Int × Int)) × (Int × Int))) × Int → Option (Sum ((Int × Int) × (Int × Int × Int × Int × Int) × List ((List ((Int × Int)) × (Int × Int))) × Int) (List ((List ((Int × Int)) × (Int × Int))) × Int)) := fun s => iterA bestsIL_step (bestsIL_fuel s) s
def bestsIL_L : LoopC := ⟨bestsIL_vars, 0, .alt bestsIL_rv bestsIL⟩
noncomputable def bestsIL_key : Nat := key (loopAt Try.f12 0)
theorem bestsIL_stepok (x : bestsIL_vars.den) : stepOfA (deepE [(32, .pair (.row 66 (.pair (i64) (i64))) (.d (.pair (i64) (i64))))] (mkEnv [(8, bestTI_con)] [])) Try.f12.ntmps bestsIL_vars bestsIL_rv 0 (loopAt Try.f12 0) x = bestsIL_step x := by kernel_rfl
theorem bestsIL_ok : LoopOK Try.prog Try.f12.ntmps bestsIL_L (loopAt Try.f12 0)   := iterA_loop (n := Try.f12.ntmps) (vs := bestsIL_vars) (rv := bestsIL_rv) (out := 0) (body := loopAt Try.f12 0) (deepE_ok (d := [(32, .pair (.row 66 (.pair (i64) (i64))) (.d (.pair (i64) (i64))))]) (mkEnv_ok (cons := [(8, bestTI_con)]) ⟨bestTI_ok, trivial⟩ [])) bestsIL_step bestsIL_fuel (by exact trivial) bestsIL_stepok

def bestsI : (Int × Int) × (Int × Int × Int × Int × Int) → Option (List ((List ((Int × Int)) × (Int × Int))) × Int) :=
fun x =>
  ob (askI ((x.fst.1, x.fst.2), x.snd.1, x.snd.snd.1, x.snd.snd.snd.1, x.snd.snd.snd.snd.1, x.snd.snd.snd.snd.2))
    fun y =>
    br (y != (0 : Int)) (some ([], y))
      (ob
        (bestsIL
          ((x.fst.1, x.fst.2), (x.snd.1, x.snd.snd.1, x.snd.snd.snd.1, x.snd.snd.snd.snd.1, x.snd.snd.snd.snd.2), [],
            (1 : Int)))
        fun r => el r (fun r => some (r.snd.snd.1, (0 : Int))) fun r => some (r.1, r.2))
def bestsI_con : Con := ⟨[.pair (i64) (i64), .pair (i64) (.pair (i64) (.pair (i64) (.pair (i64) (i64))))], [.deep 32 (.pair (.row 66 (.pair (i64) (i64))) (.d (.pair (i64) (i64)))), .d (i64)], bestsI⟩
theorem bestsI_run (x : Dens [.pair (i64) (i64), .pair (i64) (.pair (i64) (.pair (i64) (.pair (i64) (i64))))]) : runFn (deepE [(32, .pair (.row 66 (.pair (i64) (i64))) (.d (.pair (i64) (i64))))] (mkEnv [(33, askI_con), (8, bestTI_con)] [(bestsIL_key, bestsIL_L)])) Try.f12 [.pair (i64) (i64), .pair (i64) (.pair (i64) (.pair (i64) (.pair (i64) (i64))))] [.deep 32 (.pair (.row 66 (.pair (i64) (i64))) (.d (.pair (i64) (i64)))), .d (i64)] x = bestsI x := by kernel_rfl
theorem bestsI_ok : bestsI_con.ok Try.prog 12 := fn_ok (con := bestsI_con) (deepE_ok (d := [(32, .pair (.row 66 (.pair (i64) (i64))) (.d (.pair (i64) (i64))))]) (mkEnv_ok (cons := [(33, askI_con), (8, bestTI_con)]) ⟨askI_ok, bestTI_ok, trivial⟩ [(bestsIL_key, bestsIL_L)])) Try.func12 rfl (by kernel_rfl) (by exact ⟨bestsIL_ok, trivial⟩) (fun x y h => (bestsI_run x).trans h)

end
end Rx
end Go.Proofs.Ythfgpnpoocepeaa

namespace Go.Proofs.Ythfgpnpoocepeaa
namespace Rx
open Go

noncomputable section
def fnBest : List (Int) → Option (Bool) :=
fun x =>
  ob (a2LongQ (x, [])) fun y =>
    br y (some true)
      (ob (a2SeQ x) fun y =>
        ob
          (bestTI
            ((y.snd.fst.1, y.snd.fst.2), y.fst.1, y.fst.snd.1, y.fst.snd.snd.1, y.fst.snd.snd.snd.1,
              y.fst.snd.snd.snd.2))
          fun y_1 =>
          br (y_1.2 != (0 : Int)) (some (y_1.2 == (2 : Int)))
            (ob (errorS (y_1.fst.1, y.snd.fst.1, y.snd.fst.2)) fun y_2 =>
              ob (errorS (y.snd.2, y.snd.fst.1, y.snd.fst.2)) fun y_3 =>
                br (y_2.2 != (0 : Int)) (some false)
                  (br (!(y_2.fst.1 == y_1.fst.snd.1 && y_2.fst.2 == y_1.fst.snd.2)) (some false)
                    (ob
                      (withinLimS
                        (y_1.fst.1, y.fst.1, y.fst.snd.1, y.fst.snd.snd.1, y.fst.snd.snd.snd.1, y.fst.snd.snd.snd.2))
                      fun y_4 =>
                      br (!y_4) (some false)
                        (ob (validRatQ (y_1.fst.snd.1, y_1.fst.snd.2)) fun y_5 =>
                          br (!y_5) (some false)
                            (ob
                              (bestsI
                                ((y.snd.fst.1, y.snd.fst.2), y.fst.1, y.fst.snd.1, y.fst.snd.snd.1, y.fst.snd.snd.snd.1,
                                  y.fst.snd.snd.snd.2))
                              fun y_6 =>
                              br (y_6.2 == (0 : Int))
                                (br ((↑(List.length y_6.1) : Int) != y.fst.snd.snd.snd.2) (some false)
                                  (br (decide ((↑(List.length y_6.1) : Int) < (1 : Int))) (some false)
                                    (ob (idx y_6.1 (IntKind.i64.wrap ((↑(List.length y_6.1) : Int) - (1 : Int))))
                                      fun x =>
                                      ob
                                        (List.get?Internal y_6.1
                                          (IntKind.i64.wrap ((↑(List.length y_6.1) : Int) - (1 : Int))).toNat)
                                        fun x =>
                                        br (!(x.snd.1 == y_1.fst.snd.1 && x.snd.2 == y_1.fst.snd.2)) (some false)
                                          (br (y_3.2 != (0 : Int)) (some true)
                                            (ob (cmpRatQ ((y_1.fst.snd.1, y_1.fst.snd.2), y_3.fst.1, y_3.fst.2))
                                              fun y_7 =>
                                              ob (canonTS y.snd.2) fun y =>
                                                br (decide (y_7 < (0 : Int))) (some true)
                                                  (br (y_7 == (0 : Int))
                                                    (ob (compI (y_1.fst.1, y.1)) fun y => some (decide (y ≤ (0 : Int))))
                                                    (some false)))))))
                                (br (y_3.2 != (0 : Int)) (some true)
                                  (ob (cmpRatQ ((y_1.fst.snd.1, y_1.fst.snd.2), y_3.fst.1, y_3.fst.2)) fun y_7 =>
                                    ob (canonTS y.snd.2) fun y =>
                                      br (decide (y_7 < (0 : Int))) (some true)
                                        (br (y_7 == (0 : Int))
                                          (ob (compI (y_1.fst.1, y.1)) fun y => some (decide (y ≤ (0 : Int))))
                                          (some false))))))))))
def fnBest_con : Con := ⟨[.slice (.int .u8)], [.d (.bool)], fnBest⟩
theorem fnBest_run (x : Dens [.slice (.int .u8)]) : runFn (deepE [(32, .pair (.row 66 (.pair (i64) (i64))) (.d (.pair (i64) (i64))))] (mkEnv [(6, a2LongQ_con), (7, a2SeQ_con), (8, bestTI_con), (9, errorS_con), (10, withinLimS_con), (11, validRatQ_con), (12, bestsI_con), (13, cmpRatQ_con), (14, canonTS_con), (15, compI_con)] [])) Try.f3 [.slice (.int .u8)] [.d (.bool)] x = fnBest x := by kernel_rfl
theorem fnBest_ok : fnBest_con.ok Try.prog 3 := fn_ok (con := fnBest_con) (deepE_ok (d := [(32, .pair (.row 66 (.pair (i64) (i64))) (.d (.pair (i64) (i64))))]) (mkEnv_ok (cons := [(6, a2LongQ_con), (7, a2SeQ_con), (8, bestTI_con), (9, errorS_con), (10, withinLimS_con), (11, validRatQ_con), (12, bestsI_con), (13, cmpRatQ_con), (14, canonTS_con), (15, compI_con)]) ⟨a2LongQ_ok, a2SeQ_ok, bestTI_ok, errorS_ok, withinLimS_ok, validRatQ_ok, bestsI_ok, cmpRatQ_ok, canonTS_ok, compI_ok, trivial⟩ [])) Try.func3 rfl (by kernel_rfl) (by exact trivial) (fun x y h => (fnBest_run x).trans h)

end
end Rx
end Go.Proofs.Ythfgpnpoocepeaa

namespace Go.Proofs.Ythfgpnpoocepeaa
namespace Rx
open Go

noncomputable section
section
variable {r : Int × Int} {x : Int × Int × Int × Int × Int}
theorem ask_zero (h : Asked r x) (hv : vR r = true) : askI (r, x) = some 0 := by
  obtain ⟨v, e, hl⟩ := validLim_eq x
  have hv2 : v = true := hl.2 h.lim
  subst hv2
  have hb : askB r = true := by
    unfold askB
    have := h.n1; have := h.n2; have := h.d2
    simp; omega
  rw [askI_eq r e]
  unfold codeA
  rw [hv, hb]
  rfl
/-- The program's answer. -/
theorem bestTI_law (h : Asked r x) (hv : vR r = true) : ∃ (t : List (Int × Int)) (e : Int × Int) (c : Int), IsBest r x t ∧ errorI (t, r) = some (e, c) ∧ errorS (t, r) = some (e, c) ∧ bestTI (r, x) = br (c != 0) (some (([], 0, 0), c)) (some ((t, e.1, e.2), 0)) := by
  obtain ⟨t, e1, i1⟩ := bestI_eq h
  have hl := best_len h.lim i1
  have := h.lim.stg
  obtain ⟨v, e3, e4⟩ := error_both (l := t) (by omega) r
  refine ⟨t, v.1, v.2, i1, e3, e4, ?_⟩
  show ob (askI (r, x)) _ = _
  rw [ask_zero h hv, ob_s, br_f (by simp)]
  show ob (bestI (r, x)) _ = _
  rw [e1, ob_s]
  show ob (errorI (t, r)) _ = _
  rw [e3, ob_s]
theorem canonF_fst {a b : List Int} (h : a.length = b.length) : (canonF a b).map (·.1) = a.reverse := by
  unfold canonF
  exact List.map_fst_zip (by simp; omega)
theorem canonF_snd {a b : List Int} (h : a.length = b.length) : (canonF a b).map (·.2) = b := by
  unfold canonF
  exact List.map_snd_zip (by simp; omega)
theorem wh_same (hx : LimOk x) {a b : List Int} (ha : a ∈ wh1 x) (hb : b ∈ wh2 x) : a.length = b.length := by
  rw [(wh1_is ha).len, (wh2_is hb).len]
theorem canon_in (hx : LimOk x) {a b : List Int} (ha : a ∈ wh1 x) (hb : b ∈ wh2 x) : ∀ y ∈ canonF a b, inLim x y = true ∧ okP y = true := fun y hy => by
  have hs := wh_same hx ha hb
  have h1 : y.1 ∈ a := by
    have := List.mem_map_of_mem (f := (·.1)) hy
    rw [canonF_fst hs] at this
    exact List.mem_reverse.1 this
  have h2 : y.2 ∈ b := by
    have := List.mem_map_of_mem (f := (·.2)) hy
    rw [canonF_snd hs] at this
    exact this
  have b1 := (wh1_is ha).bd _ h1
  have b2 := (wh2_is hb).bd _ h2
  have q1 := hx.a1; have q3 := hx.a3; have q4 := hx.b1; have q6 := hx.b3
  unfold inLim okP
  simp
  omega
theorem inLim_ok (hx : LimOk x) {y : Int × Int} (h : inLim x y = true) : okP y = true := by
  have q1 := hx.a1; have q3 := hx.a3; have q4 := hx.b1; have q6 := hx.b3
  unfold inLim at h
  unfold okP
  simp at h ⊢
  omega
theorem canon_prod {a b : List Int} (h : a.length = b.length) : prodW ((canonF a b).map (·.1)) = prodW a ∧ prodW ((canonF a b).map (·.2)) = prodW b := by
  rw [canonF_fst h, canonF_snd h]
  exact ⟨prodW_perm (List.reverse_perm a), rfl⟩
theorem within_canon (hx : LimOk x) {t : List (Int × Int)} (hl : t.length = stg x) (hi : ∀ y ∈ t, inLim x y = true) : withinLimS (t, x) = some true := by
  obtain ⟨v, e, hv⟩ := validLim_eq x
  have hv2 : v = true := hv.2 hx
  subst hv2
  obtain ⟨hs, hs3, hs1⟩ := hx.stg
  obtain ⟨s', h3, h4⟩ := withinLimSL_eq (l := t) (by omega) x
  have hall : t.all (inLim x) = true := List.all_eq_true.2 hi
  have hok : (t.all okP && decide ((t.length : Int) ≤ 5)) = true := by
    rw [Bool.and_eq_true]
    exact ⟨List.all_eq_true.2 fun y hy => inLim_ok hx (hi y hy), by simp; omega⟩
  have e' : okLimS (x.1, x.2.1, x.2.2.1, x.2.2.2.1, x.2.2.2.2) = some true := by rw [okLim_eq]; exact e
  have h3' : withinLimSL (t, (x.1, x.2.1, x.2.2.1, x.2.2.2.1, x.2.2.2.2), false, 0) = some (t.all (inLim x), s') := h3
  unfold withinLimS
  dsimp only
  rw [e', ob_s, Bool.not_true, br_f rfl, okTrainS_eq (by omega), ob_s, hok, Bool.not_true, br_f rfl, br_f (by simp; omega), h3', ob_s, hall, br_t rfl]
theorem cmpRatQ_eq {e f : Int × Int} (he : vR e = true) (hf : vR f = true) : cmpRatQ (e, f) = some (if e.1 * f.2 < f.1 * e.2 then -1 else if f.1 * e.2 < e.1 * f.2 then 1 else 0) := by
  have b1 := vR_bd he; have b2 := vR_bd hf
  have m : ∀ {n d : Int}, -1000000000 ≤ n → n ≤ 1000000000 → 1 ≤ d → d ≤ 1000000000 → -1000000000000000000 ≤ n * d ∧ n * d ≤ 1000000000000000000 := fun {n d} h1 h2 h3 h4 => by
    have a1 := Int.mul_le_mul_of_nonneg_right h2 (show 0 ≤ d by omega)
    have a2 := Int.mul_le_mul_of_nonneg_right h1 (show 0 ≤ d by omega)
    omega
  have m1 := m (n := e.1) (d := f.2) (by omega) (by omega) (by omega) (by omega)
  have m2 := m (n := f.1) (d := e.2) (by omega) (by omega) (by omega) (by omega)
  unfold cmpRatQ
  rw [show okRatS ((e, f).1.1, (e, f).1.2) = some (vR e) from okRatS_eq e, ob_s, he, Bool.not_true, br_f rfl, show okRatS ((e, f).2.1, (e, f).2.2) = some (vR f) from okRatS_eq f, ob_s, hf, Bool.not_true, br_f rfl]
  have : cmpRatS ((e.1, e.2), f.1, f.2) = some (if e.1 * f.2 < f.1 * e.2 then -1 else if f.1 * e.2 < e.1 * f.2 then 1 else 0) := by
    unfold cmpRatS
    dsimp only
    rw [w64 (x := e.1 * f.2) (by omega) (by omega), w64 (x := f.1 * e.2) (by omega) (by omega)]
    by_cases h1 : e.1 * f.2 < f.1 * e.2
    · rw [br_t (by simpa using h1), if_pos h1]
    · rw [br_f (by simpa using h1), if_neg h1]
      by_cases h2 : f.1 * e.2 < e.1 * f.2
      · rw [br_t (by simpa using h2), if_pos h2]
      · rw [br_f (by simpa using h2), if_neg h2]
  exact ob_v this
theorem canonTS_eq (hx : LimOk x) {l : List (Int × Int)} (hl : l.length = stg x) (hi : ∀ y ∈ l, inLim x y = true) : ∃ a ∈ wh1 x, ∃ b ∈ wh2 x, canonTS l = some (canonF a b, 0) ∧ a.Perm (l.map (·.1)) ∧ b.Perm (l.map (·.2)) := by
  obtain ⟨hs, hs3, hs1⟩ := hx.stg
  have hok : (l.all okP && decide ((l.length : Int) ≤ 5)) = true := by
    rw [Bool.and_eq_true]
    exact ⟨List.all_eq_true.2 fun y hy => inLim_ok hx (hi y hy), by simp; omega⟩
  have hf := fold_loop (step := canonTL_step) (l := l) (fun k (s : List Int × List Int) => (l, s.1, s.2, k)) (fun s y => (s.1 ++ [y.1], s.2 ++ [y.2])) (fun k s => s.1.length ≤ k.toNat ∧ s.2.length ≤ k.toNat)
    (fun s => (l, s.1, s.2, (l.length : Int))) (fun k s y h0 h1 hy hJ => by
      refine ⟨?_, by simp; omega⟩
      unfold canonTL_step
      dsimp only
      rw [br_t (by simp; omega), hy, ob_s, br_t (by simp; omega), ob_s, br_t (by simp; omega), w64 (by omega) (by omega)]) (fun s hJ => by
      unfold canonTL_step
      dsimp only
      rw [br_f (by simp)]) (n := canonTL_fuel (l, [], [], 0)) (by show l.length < (l.length - (0 : Int).toNat) + 1; omega) (a0 := ([], [])) (by simp)
  have hfo : ∀ (l : List (Int × Int)) (s : List Int × List Int), l.foldl (fun s y => (s.1 ++ [y.1], s.2 ++ [y.2])) s = (s.1 ++ l.map (·.1), s.2 ++ l.map (·.2)) := by
    intro l
    induction l with
    | nil => intro s; simp
    | cons y l ih => intro s; rw [List.foldl_cons, ih]; simp
  have h1 := hf.1
  rw [hfo] at h1
  obtain ⟨a, b, e, ⟨pa, sa⟩, pb, sb⟩ := canonS_ex (a := l.map (·.1)) (b := l.map (·.2)) (by simp; omega) (by simp)
  have hin : ∀ y ∈ l, (x.1 ≤ y.1 ∧ y.1 ≤ x.2.1) ∧ x.2.2.1 ≤ y.2 ∧ y.2 ≤ x.2.2.2.1 := fun y hy => by
    have := hi y hy
    unfold inLim at this
    simp at this
    exact this
  refine ⟨a, wheels_of ⟨by rw [pa.length_eq, List.length_map]; exact hl, fun u hu => ?_, sa⟩, b, wheels_of ⟨by rw [pb.length_eq, List.length_map]; exact hl, fun u hu => ?_, sb⟩, ?_, pa, pb⟩
  · obtain ⟨y, hy, rfl⟩ := List.mem_map.1 (pa.mem_iff.1 hu)
    exact (hin y hy).1
  · obtain ⟨y, hy, rfl⟩ := List.mem_map.1 (pb.mem_iff.1 hu)
    exact (hin y hy).2
  · unfold canonTS
    rw [okTrainS_eq (by omega), ob_s, hok, Bool.not_true, br_f rfl, show canonTL (l, [], [], 0) = _ from h1, ob_s]
    dsimp only
    rw [show canonS6 ([] ++ l.map (·.1), [] ++ l.map (·.2)) = _ from e, ob_s]
theorem compI_eq (hx : LimOk x) {t u : List (Int × Int)} (ht : t.length = stg x) (hu : u.length = stg x) (h1 : ∀ y ∈ t, okP y = true) (h2 : ∀ y ∈ u, okP y = true) : compI (t, u) = some (cmpT t u) := by
  obtain ⟨hs, hs3, hs1⟩ := hx.stg
  have hv : ∀ l : List (Int × Int), l.length = stg x → (∀ y ∈ l, okP y = true) → validTrainI l = some true := fun l hl ho => by
    rw [validTrainI_eq (by omega), List.all_eq_true.2 ho]
    simp; omega
  unfold compI
  rw [hv _ ht h1, ob_s, Bool.not_true, br_f rfl, hv _ hu h2, ob_s, Bool.not_true, br_f rfl, show cmpTrI ((t, u).1, (t, u).2) = some (cmpT t u) from cmpTrI_eq (a := t) (b := u) (by omega) (by omega), ob_s]
/-- What the law asks of the error of another train. -/
theorem tail_ok (h : Asked r x) {a b a' b' : List Int} (ha : a ∈ wh1 x) (hb : b ∈ wh2 x) (ha' : a' ∈ wh1 x) (hb' : b' ∈ wh2 x) {e f : Int × Int} (he : vR e = true) (hf : vR f = true)
    (ee : e.1 * (prodW b * r.2) = farQ r.1 r.2 (prodW a) (prodW b) * e.2) (ef : f.1 * (prodW b' * r.2) = farQ r.1 r.2 (prodW a') (prodW b') * f.2) (hle : leW r.1 r.2 a b a' b') :
    e.1 * f.2 < f.1 * e.2 ∨ (e.1 * f.2 = f.1 * e.2 ∧ leT (canonF a b) (canonF a' b') = true) := by
  have hx := h.lim
  have d1 := h.d1
  have pb := wh2_bd hx hb; have pb' := wh2_bd hx hb'
  have b1 := vR_bd he; have b2 := vR_bd hf
  have hq : 0 < prodW b * r.2 := Int.mul_pos (by omega) (by omega)
  have hq' : 0 < prodW b' * r.2 := Int.mul_pos (by omega) (by omega)
  rcases hle with hlt | ⟨heq, hT⟩
  · left
    have h1 : farQ r.1 r.2 (prodW a) (prodW b) * (prodW b' * r.2) < farQ r.1 r.2 (prodW a') (prodW b') * (prodW b * r.2) := by
      rw [← Int.mul_assoc, ← Int.mul_assoc]
      exact Int.mul_lt_mul_of_pos_right hlt (by omega)
    have h2 := cross_lt2 (f1 := e.1) (q1 := e.2) (f2 := farQ r.1 r.2 (prodW a) (prodW b)) (q2 := prodW b * r.2) (f3 := farQ r.1 r.2 (prodW a') (prodW b')) (q3 := prodW b' * r.2) (by omega) hq hq' (by omega) h1
    exact cross_lt1 (f1 := e.1) (q1 := e.2) (f2 := farQ r.1 r.2 (prodW a') (prodW b')) (q2 := prodW b' * r.2) (f3 := f.1) (q3 := f.2) (by omega) hq' (by omega) h2 (by omega)
  · right
    have h1 : farQ r.1 r.2 (prodW a) (prodW b) * (prodW b' * r.2) = farQ r.1 r.2 (prodW a') (prodW b') * (prodW b * r.2) := by
      rw [← Int.mul_assoc, ← Int.mul_assoc]
      have heq : farQ r.1 r.2 (prodW a) (prodW b) * prodW b' = farQ r.1 r.2 (prodW a') (prodW b') * prodW b := heq
      rw [heq]
    have h2 := cross_le (f1 := e.1) (q1 := e.2) (f2 := farQ r.1 r.2 (prodW a) (prodW b)) (q2 := prodW b * r.2) (f3 := farQ r.1 r.2 (prodW a') (prodW b')) (q3 := prodW b' * r.2) (by omega) hq hq' (by omega) (by omega)
    have h3 := cross_le (f1 := e.1) (q1 := e.2) (f2 := farQ r.1 r.2 (prodW a') (prodW b')) (q2 := prodW b' * r.2) (f3 := f.1) (q3 := f.2) (by omega) hq' (by omega) h2 (by omega)
    have h4 := cross_le (f1 := f.1) (q1 := f.2) (f2 := farQ r.1 r.2 (prodW a') (prodW b')) (q2 := prodW b' * r.2) (f3 := farQ r.1 r.2 (prodW a) (prodW b)) (q3 := prodW b * r.2) (by omega) hq' hq (by omega) (by omega)
    have h5 := cross_le (f1 := f.1) (q1 := f.2) (f2 := farQ r.1 r.2 (prodW a) (prodW b)) (q2 := prodW b * r.2) (f3 := e.1) (q3 := e.2) (by omega) hq (by omega) h4 (by omega)
    exact ⟨by omega, hT⟩
def xk (x : Int × Int × Int × Int × Int) (k : Nat) : Int × Int × Int × Int × Int := (x.1, x.2.1, x.2.2.1, x.2.2.2.1, (k : Int))
theorem xk_lim (hx : LimOk x) {k : Nat} (h1 : 1 ≤ k) (h2 : k ≤ stg x) : LimOk (xk x k) := by
  obtain ⟨hs, hs3, hs1⟩ := hx.stg
  exact ⟨hx.a1, hx.a2, hx.a3, hx.a4, hx.b1, hx.b2, hx.b3, hx.b4, by show 1 ≤ (k : Int); omega, by show (k : Int) ≤ 3; omega⟩
theorem xk_all (hx : LimOk x) : xk x (stg x) = x := by
  obtain ⟨hs, _⟩ := hx.stg
  unfold xk
  rw [hs]
/-- The best trains of one stage, two stages, ..: all of them, or a code. -/
theorem bestsI_law (h : Asked r x) (hv : vR r = true) : ∃ (L : List (List (Int × Int) × Int × Int)) (c : Int), bestsI (r, x) = some (L, c) ∧ (c = 0 → L.length = stg x ∧ ∃ y, L.getLast? = some y ∧ bestTI (r, x) = some (y, 0)) := by
  have hx := h.lim
  obtain ⟨hs, hs3, hs1⟩ := hx.stg
  have hi := iterA_end (step := bestsIL_step) (fun s => ∃ (k : Nat) (L : List (List (Int × Int) × Int × Int)), s = (r, x, L, ((k + 1 : Nat) : Int)) ∧ k ≤ stg x ∧ L.length = k ∧ (k = stg x → ∃ y, L.getLast? = some y ∧ bestTI (r, x) = some (y, 0)))
    (fun s => ∃ (L : List (List (Int × Int) × Int × Int)) (k : Int), s = (r, x, L, k) ∧ L.length = stg x ∧ ∃ y, L.getLast? = some y ∧ bestTI (r, x) = some (y, 0)) (fun p => p.2 ≠ 0) (fun s => (s.2.1.2.2.2.2 + 1 - s.2.2.2).toNat) ?_
    (bestsIL_fuel (r, x, [], 1)) (r, x, [], 1) ⟨0, [], rfl, by omega, rfl, fun h => by omega⟩ (by show _ < _ + 1; omega)
  · have hrun : bestsI (r, x) = ob (bestsIL (r, x, [], 1)) fun q => el q (fun q => some (q.2.2.1, 0)) fun q => some (q.1, q.2) := by
      show ob (askI (r, x)) _ = _
      rw [ask_zero h hv, ob_s, br_f (by simp)]
    rw [hrun]
    rcases hi with ⟨_, e, L, k, rfl, h1, h2⟩ | ⟨p, e, h1⟩
    · rw [show bestsIL (r, x, [], 1) = _ from e]
      exact ⟨L, 0, rfl, fun _ => ⟨h1, h2⟩⟩
    · rw [show bestsIL (r, x, [], 1) = _ from e]
      exact ⟨p.1, p.2, rfl, fun h => absurd h h1⟩
  · rintro _ ⟨k, L, rfl, hk, hL, hlast⟩
    by_cases hlt : k < stg x
    · have hA : Asked r (xk x (k + 1)) := ⟨xk_lim hx (by omega) (by omega), h.n1, h.n2, h.d1, h.d2⟩
      obtain ⟨t, e, c, _, _, _, eb⟩ := bestTI_law hA hv
      have hst : bestsIL_step (r, x, L, ((k + 1 : Nat) : Int)) = ob (bestTI (r, xk x (k + 1))) fun y => br (y.2 != 0) (some (LS.ret ([], y.2))) (some (LS.next (r, x, L ++ [(y.1.1, y.1.2.1, y.1.2.2)], ((k + 1 + 1 : Nat) : Int)))) := by
        unfold bestsIL_step
        dsimp only
        rw [br_t (by simp; omega), show bestTI ((r.1, r.2), x.1, x.2.1, x.2.2.1, x.2.2.2.1, ((k + 1 : Nat) : Int)) = bestTI (r, xk x (k + 1)) from rfl]
        congr 1
        funext y
        have hlen : decide (List.length L + [(y.1.1, y.1.2.1, y.1.2.2)].length ≤ 4294967296) = true := by simp; omega
        rw [br_t hlen, w64 (by omega) (by omega)]
        rfl
      rw [eb, br_if] at hst
      by_cases hc : c = 0
      · subst hc
        rw [if_neg (by simp), ob_s, br_f (by simp)] at hst
        refine .inl ⟨_, hst, ⟨k + 1, _, rfl, by omega, by simp [hL], fun hk1 => ⟨(t, e.1, e.2), by simp, ?_⟩⟩, ?_⟩
        · have : xk x (k + 1) = x := by rw [hk1]; exact xk_all hx
          rw [this] at eb
          rw [eb, br_f (by simp)]
        · show (x.2.2.2.2 + 1 - ((k + 1 + 1 : Nat) : Int)).toNat < (x.2.2.2.2 + 1 - ((k + 1 : Nat) : Int)).toNat
          omega
      · rw [if_pos (by simpa using hc), ob_s, br_t (by simpa using hc)] at hst
        exact .inr (.inr ⟨_, hst, hc⟩)
    · obtain rfl : k = stg x := by omega
      refine .inr (.inl ⟨(r, x, L, ((stg x + 1 : Nat) : Int)), ?_, L, _, rfl, hL, hlast rfl⟩)
      unfold bestsIL_step
      dsimp only
      rw [br_f (by simp; omega)]
end
end
end Rx
end Go.Proofs.Ythfgpnpoocepeaa

namespace Go.Proofs.Ythfgpnpoocepeaa
namespace Rx
open Go

noncomputable section
theorem fnBest_holds (c : List Int) (hw : WfAll [.slice (.int .u8)] c) : fnBest c = some true := by
  have hc := bytes_wf hw
  obtain ⟨x, r, l, e0, hA, hv, hl, hin⟩ := a2SeQ_tot hc
  have hx := hA.lim
  obtain ⟨hs, hs3, hs1⟩ := hx.stg
  unfold fnBest
  rw [show a2LongQ (c, []) = some (decide ((3000 : Int) < (c.length : Int))) by
    unfold a2LongQ
    dsimp only
    by_cases h : (3000 : Int) < (c.length : Int)
    · rw [br_t (by simpa using h)]; simp [h]
    · rw [br_f (by simpa using h)]; simp at h ⊢; omega, ob_s]
  cases hlong : decide ((3000 : Int) < (c.length : Int)) with
  | true => rfl
  | false =>
    rw [br_f rfl, e0, ob_s]
    dsimp only
    obtain ⟨t, e, cd, hB, eI, eS, eB⟩ := bestTI_law hA hv
    have htl := best_len hx hB
    obtain ⟨a, ha, b, hb, rfl, hbest⟩ := hB
    have hab := wh_same hx ha hb
    have hti := canon_in hx ha hb
    obtain ⟨e', c', e1, hc02, hval⟩ := error_val (l := canonF a b) (r := r) (by omega) (fun y hy => (hti y hy).2) hv
    rw [eI] at e1
    obtain ⟨rfl, rfl⟩ : e = e' ∧ cd = c' := by
      injection e1 with e1
      exact Prod.mk.inj e1
    rw [show bestTI ((r.1, r.2), x.1, x.2.1, x.2.2.1, x.2.2.2.1, x.2.2.2.2) = _ from eB]
    rcases hc02 with rfl | rfl
    · obtain ⟨ve, e0n, eq⟩ := hval rfl
      rw [(canon_prod hab).1, (canon_prod hab).2] at eq
      -- the other train
      have hlok : ∀ y ∈ l, okP y = true := fun y hy => inLim_ok hx (hin y hy)
      obtain ⟨f, g, f1, hg02, fval⟩ := error_val (l := l) (r := r) (by omega) hlok hv
      obtain ⟨v, v1, v2⟩ := error_both (l := l) (by omega) r
      have fS : errorS (l, r) = some (f, g) := by rw [v2, ← v1, f1]
      rw [br_f (by simp), ob_s, br_f (by simp)]
      dsimp only
      rw [show errorS (canonF a b, r.1, r.2) = _ from eS, ob_s, show errorS (l, r.1, r.2) = _ from fS, ob_s, br_f (by simp), br_f (by simp)]
      rw [show withinLimS (canonF a b, x.1, x.2.1, x.2.2.1, x.2.2.2.1, x.2.2.2.2) = some true from within_canon hx htl fun y hy => (hti y hy).1, ob_s, Bool.not_true, br_f rfl]
      rw [show validRatQ (e.1, e.2) = some true by
        unfold validRatQ
        rw [show okRatS ((e.1, e.2).1, (e.1, e.2).2) = some (vR e) from okRatS_eq e, ob_s, ve], ob_s, Bool.not_true, br_f rfl]
      obtain ⟨L, h, eL, hL⟩ := bestsI_law hA hv
      rw [show bestsI ((r.1, r.2), x.1, x.2.1, x.2.2.1, x.2.2.2.1, x.2.2.2.2) = _ from eL, ob_s]
      dsimp only
      -- what stands behind the list of best trains
      have htail : br (g != 0) (some true) (ob (cmpRatQ ((e.1, e.2), f.1, f.2)) fun y_7 => ob (canonTS l) fun y => br (decide (y_7 < 0)) (some true) (br (y_7 == 0) (ob (compI (canonF a b, y.1)) fun y => some (decide (y ≤ 0))) (some false))) = some true := by
        rcases hg02 with rfl | rfl
        · obtain ⟨vf, _, fq⟩ := fval rfl
          obtain ⟨a', ha', b', hb', ec, pa, pb⟩ := canonTS_eq hx hl hin
          rw [← prodW_perm pa, ← prodW_perm pb] at fq
          have hab' := wh_same hx ha' hb'
          have hti' := canon_in hx ha' hb'
          have hT := tail_ok hA ha hb ha' hb' ve vf eq fq (hbest a' ha' b' hb')
          rw [br_f (by simp), show cmpRatQ ((e.1, e.2), f.1, f.2) = _ from cmpRatQ_eq ve vf, ob_s, ec, ob_s]
          dsimp only
          rcases hT with hT | ⟨hT, hle⟩
          · rw [if_pos hT, br_t (by simp)]
          · rw [if_neg (by omega), if_neg (by omega), br_f (by simp), br_t (by simp), compI_eq hx htl (canon_len hx ha' hb') (fun y hy => (hti y hy).2) (fun y hy => (hti' y hy).2), ob_s]
            rw [leT_iff, ← cmpT_gt] at hle
            congr 1
            simp
            omega
        · rw [br_t (by simp)]
      by_cases hh : h = 0
      · obtain ⟨hlen, y, hy1, hy2⟩ := hL hh
        subst hh
        have hye : y = (canonF a b, e.1, e.2) := by
          rw [eB, br_f (by simp)] at hy2
          injection hy2 with hy2
          exact (Prod.mk.inj hy2).1.symm
        subst hye
        have hne : L ≠ [] := fun e => by rw [e] at hlen; simp at hlen; omega
        have hix : idx L ((L.length : Int) - 1) = some (canonF a b, e.1, e.2) := by
          refine idx_nat (by omega) ?_
          rw [show ((L.length : Int) - 1).toNat = L.length - 1 by omega, ← List.getLast?_eq_getElem?]
          exact hy1
        have hig : L[((L.length : Int) - 1).toNat]? = some (canonF a b, e.1, e.2) := by
          rw [show ((L.length : Int) - 1).toNat = L.length - 1 by omega, ← List.getLast?_eq_getElem?]
          exact hy1
        rw [br_t (by simp), br_f (by simp; omega), br_f (by simp; omega), w64 (by omega) (by omega), hix, ob_s, gi, hig, ob_s, br_f (by simp)]
        exact htail
      · rw [br_f (by simpa using hh)]
        exact htail
    · rw [br_t (by simp), ob_s, br_t (by simp)]
      rfl
end
end Rx
end Go.Proofs.Ythfgpnpoocepeaa
