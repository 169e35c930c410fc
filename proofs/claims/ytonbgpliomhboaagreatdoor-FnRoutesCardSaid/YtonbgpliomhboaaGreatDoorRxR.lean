/- From the evaluator's run to the function's contract. No conditions. -/
import Derived.Test.YtonbgpliomhboaaGreatDoorRxN
import Derived.Laws.StructEq
namespace Go.Proofs.YtonbgpliomhboaaGreatDoor
open Go.RowKit
namespace Rx

section
variable {P : Program} {W : WX} {M0 : Mem} {S : St} {hdr : Nat → Option Value} {inn : Nat → List Nat} {M : Mem} {a : Act} {w : World} {E : Env} {R : Type}

theorem takeRV_rep (h : Good W M0 S hdr inn M a w) {rsA dsA : List Nat} (hdis : ∀ b ∈ rsA, b ∉ dsA) {T : RTy} {y : V1} {x : T.den} {rs ds : List Nat} {v : Value} (hk : takeRV S.heap T y = some (x, [], rs, ds)) (hv : RepV1 w M hdr y v) (hr : ∀ b ∈ rs, b ∈ rsA) (hd : ∀ b ∈ ds, b ∈ dsA) :
    ShapeR T v ∧ ∃ hs, RepR (W.fresh 0) w (plusMem M S inn dsA) T x v.cells.toList hs ∧ HS S hdr inn rs hs := by
  unfold takeRV at hk
  split at hk
  · rename_i hs
    refine ⟨shapeR_of hs hv, ?_⟩
    obtain ⟨v1, v2, h1, e, a1, a2, a3⟩ := takeR_rep h hdis hk (RepV1.cells hv) hr hd
    cases a2.nil'
    rw [List.append_nil] at e
    rw [e]
    exact ⟨h1, a1, a3⟩
  · cases hk

theorem resD_rep (h : Good W M0 S hdr inn M a w) {rsA dsA : List Nat} (hdis : ∀ b ∈ rsA, b ∉ dsA) : ∀ {Ts : List RTy} {ys : List V1} {x : RDens Ts} {rs ds : List Nat} {vs : List Value}, resD S.heap Ts ys = some (x, rs, ds) → All2 (RepV1 w M hdr) ys vs → (∀ b ∈ rs, b ∈ rsA) → (∀ b ∈ ds, b ∈ dsA) →
    ∃ hs, RepRs (W.fresh 0) w (plusMem M S inn dsA) Ts x vs hs ∧ HS S hdr inn rs hs
  | [], [], x, rs, ds, vs, hk, hc, _, _ => by
    have hk' : (some ((), ([] : List Nat), ([] : List Nat))) = some (x, rs, ds) := hk
    cases hk'
    exact ⟨[], ⟨hc.nil', rfl⟩, rfl⟩
  | [], _ :: _, _, _, _, _, hk, _, _, _ => none_some hk
  | [T], [], _, _, _, _, hk, _, _, _ => none_some hk
  | [T], _ :: _ :: _, _, _, _, _, hk, _, _, _ => none_some hk
  | [T], [y], x, rs, ds, vs, hk, hc, hr, hd => by
    have hk' : ((takeRV S.heap T y).bind fun x => match x.2.1 with
      | [] => some (x.1, x.2.2.1, x.2.2.2)
      | _ => none) = some (x, rs, ds) := hk
    obtain ⟨z, hz, hk'⟩ := Option.bind_eq_some_iff.1 hk'
    obtain ⟨v, rfl, hv⟩ := hc.one'
    split at hk'
    · rename_i hn
      cases hk'
      obtain ⟨z1, z2, z3, z4⟩ := z
      simp only at hn; subst hn
      obtain ⟨s1, hs, s2, s3⟩ := takeRV_rep h hdis hz hv hr hd
      exact ⟨hs, ⟨v, rfl, s1, s2⟩, s3⟩
    · cases hk'
  | T :: U :: Ts, [], _, _, _, _, hk, _, _, _ => none_some hk
  | T :: U :: Ts, y :: r, x, rs, ds, vs, hk, hc, hr, hd => by
    have hk' : ((takeRV S.heap T y).bind fun x => match x.2.1 with
      | [] => (resD S.heap (U :: Ts) r).bind fun y => some ((x.1, y.1), x.2.2.1 ++ y.2.1, x.2.2.2 ++ y.2.2)
      | _ => none) = some (x, rs, ds) := hk
    obtain ⟨z, hz, hk'⟩ := Option.bind_eq_some_iff.1 hk'
    obtain ⟨v, us, rfl, hv, hu⟩ := hc.cons'
    split at hk'
    · rename_i hn
      obtain ⟨q, hq, hk'⟩ := Option.bind_eq_some_iff.1 hk'
      cases hk'
      obtain ⟨z1, z2, z3, z4⟩ := z
      simp only at hn; subst hn
      obtain ⟨s1, h1, s2, s3⟩ := takeRV_rep h hdis hz hv (fun b hb => hr b (List.mem_append.2 (.inl hb))) (fun b hb => hd b (List.mem_append.2 (.inl hb)))
      obtain ⟨h2, t1, t2⟩ := resD_rep h hdis (x := q.1) (rs := q.2.1) (ds := q.2.2) hq hu (fun b hb => hr b (List.mem_append.2 (.inr hb))) (fun b hb => hd b (List.mem_append.2 (.inr hb)))
      exact ⟨h1 ++ h2, ⟨v, us, h1, h2, rfl, rfl, s1, s2, t1⟩, s3.append t2⟩
    · cases hk'

theorem RepRs.base {w : World} {M : Mem} {b b' : Nat → Prop} (hb : ∀ g, b g → b' g) : ∀ {Ts : List RTy} {x : RDens Ts} {rs : List Value} {hs : List Hd}, RepRs b w M Ts x rs hs → RepRs b' w M Ts x rs hs
  | [], _, _, _, h => h
  | [T], x, rs, hs, ⟨v, h1, h2, h3⟩ => ⟨v, h1, h2, RepR.base hb h3⟩
  | T :: U :: Ts, x, rs, hs, ⟨v, r, h1, h2, e1, e2, h3, ha, hb'⟩ => ⟨v, r, h1, h2, e1, e2, h3, RepR.base hb ha, RepRs.base hb hb'⟩

def resRun (tm : Array Value) : ResultVar → Sem Value
  | .tmp t => pure (tm.getD t undef)
  | .cell q t => do loadVar t (← asAddr (tm.getD q undef))
theorem resV_rep (hE : EnvOK P E) (h : Good W M0 S hdr inn M a w) {rv : ResultVar} {y : V1} (hk : resV E S rv = some y) : ∃ v, (resRun a.tmps rv).run P w = .ok v w ∧ RepV1 w M hdr y v := by
  cases rv with
  | tmp t =>
    simp only [resV] at hk
    split at hk
    · rename_i v hv
      cases hk
      have := h.tm t
      rw [hv] at this
      exact ⟨_, rfl, this⟩
    · cases hk
  | cell q t =>
    simp only [resV] at hk
    split at hk
    · rename_i b off i hv hi
      split at hk
      · rename_i ty cs fz hb
        have := h.tm q
        rw [hv] at this
        obtain ⟨g, hh, hval⟩ := this
        obtain ⟨v0, hv0, hB⟩ := h.hp b _ (blkAt_some hb)
        obtain ⟨g', vs, rfl, _, h1, h2, h3, h4⟩ := hB
        rw [hh] at hv0
        simp at hv0; subst hv0
        obtain ⟨v, k1, k2⟩ := load_rep (P := P) (ad := ⟨g, 0, none⟩) (hE.tab _ _ hi) hk h3 (fun j u hu => by rw [add_zero_block, heap_cell h2]; simpa using hu)
        rw [add_zero_block] at k1
        refine ⟨v, ?_, k2⟩
        have hval' : a.tmps.getD q undef = .pointer (some ⟨g, off, none⟩) := hval
        simp only [resRun, hval']
        simpa [Instr.loadAt, Instr.sureAddr, asAddr] using k1
      · cases hk
    · cases hk

theorem results_rep (hE : EnvOK P E) (h : Good W M0 S hdr inn M a w) {fn : Func} {ys : List V1} (hk : fn.results.toList.mapM (resV E S) = some ys) : ∃ vs, (results fn a.tmps).run P w = .ok (retOf vs) w ∧ All2 (RepV1 w M hdr) ys vs := by
  have key : ∀ (l : List ResultVar) (ys : List V1), l.mapM (resV E S) = some ys → ∃ vs : List Value, (l.mapM (resRun a.tmps)).run P w = .ok vs w ∧ All2 (RepV1 w M hdr) ys vs := by
    intro l
    induction l with
    | nil => intro ys hy; simp at hy; subst hy; exact ⟨[], by simp, trivial⟩
    | cons x l ih =>
      intro ys hy
      simp only [List.mapM_cons, Option.bind_eq_bind, Option.pure_def] at hy
      obtain ⟨y, hy1, hy⟩ := Option.bind_eq_some_iff.1 hy
      obtain ⟨ys', hy2, hy⟩ := Option.bind_eq_some_iff.1 hy
      cases hy
      obtain ⟨v, k1, k2⟩ := resV_rep hE h hy1
      obtain ⟨vs, m1, m2⟩ := ih ys' hy2
      refine ⟨v :: vs, ?_, k2, m2⟩
      simp only [List.mapM_cons, Sem.run_bind, k1, Result.andThen_ok, m1, Sem.run_pure]
  obtain ⟨vs, k1, k2⟩ := key _ _ hk
  refine ⟨vs, ?_, k2⟩
  have e : results fn a.tmps = (do let us ← fn.results.mapM (resRun a.tmps); pure (if h : us.size = 1 then us[0] else .tuple us)) := rfl
  have fin : (if h : vs.toArray.size = 1 then vs.toArray[0] else Value.tuple vs.toArray) = retOf vs := by
    match vs with
    | [] => rfl
    | [v] => rfl
    | v :: u :: r => rfl
  rw [e, Array.mapM_eq_mapM_toList]
  simp only [map_eq_pure_bind, bind_assoc, pure_bind, Sem.run_bind, k1, Result.andThen_ok, Sem.run_pure, fin]

/-! ### Arguments -/
theorem args_len : ∀ (Ts : List Ty) (x : Dens Ts), (argVs Ts x).length = Ts.length
  | [], _ => rfl
  | [_], _ => rfl
  | _ :: U :: Ts, x => by
    show (argVs (U :: Ts) x.2).length + 1 = _
    rw [args_len (U :: Ts) x.2]; rfl
theorem args_rep {hdr : Nat → Option Value} : ∀ {Ts : List Ty} {x : Dens Ts} {vs : List Value}, RepArgs w M Ts x vs → All2 (RepV1 w M (fun _ => none)) (argVs Ts x) vs
  | [], _, vs, h => by have : vs = [] := h; subst this; trivial
  | [T], x, vs, ⟨v, e, h⟩ => by subst e; exact .one h
  | T :: U :: Ts, x, vs, ⟨v, r, e, h1, h2⟩ => by subst e; exact ⟨h1, args_rep (hdr := hdr) h2⟩

/-- The run from values that are true of the arguments. -/
theorem fn_from {f : FuncId} {fn : Func} {cd : Code} {cod : List RTy} {M : Mem} {w : World} {vs : List Value} {vs0 : List V1} {nd : Nat} {y : RDens cod} (hE : EnvOK P E) (hf : P.funcs[f]? = some fn) (hb : fn.body = some cd)
    (hl : AllLoops P E fn.ntmps (loopsOf cd)) (hld : Laid w) (hM : ∀ p, M p → p.block < w.heap.size) (hA2 : All2 (RepV1 w M (fun _ => none)) vs0 vs) (hnd : vs0.length = nd)
    (hr : exec E fn.ntmps cd ⟨vs0.map .v ++ List.replicate (fn.ntmps - nd) .undef, []⟩ (fun e S => match e with
      | .normal => finish E fn.results.toList cod S
      | .ret => finish E fn.results.toList cod S
      | .exit _ => none) = some y) :
    Calls P f vs.toArray w fun e w' => ∃ rs hs M', e = .returned (retOf rs) ∧ Ext w w' ∧ RepRs (fun g => w.heap.size ≤ g) w' M' cod y rs hs ∧ (gsOf hs).Nodup ∧ ∀ p, M' p → (M p ∨ w.heap.size ≤ p.block) ∧ p.block < w'.heap.size ∧ p.block ∉ gsOf hs := by
  have hvl : vs.length = nd := by rw [← hA2.len, hnd]
  refine calls_of_wp hf hb ?_
  have h0 : Good ⟨w, fun _ => [], fun _ => none, hld, fun _ _ h => (by cases h), fun _ => False, fun _ h => h.elim⟩ M ⟨vs0.map .v ++ List.replicate (fn.ntmps - nd) .undef, []⟩ (fun _ => none) (fun _ => []) M { tmps := vs.toArray ++ Array.replicate (fn.ntmps - vs.toArray.size) undef, defers := [] } w := by
    refine ⟨.ofExt (Ext.refl w), rfl, ?_, fun t => ?_, fun b B hb => none_some hb, fun _ _ => rfl, fun b b' B B' g _ hb => none_some hb, hM, fun p hp => .inl hp, fun b B hb => none_some hb⟩
    · simp [hnd, hvl]
    · by_cases ht : t < vs.length
      · have hta : t < (vs0.map AV.v).length := by simp [hnd]; omega
        have hta' : t < vs0.length := by simpa using hta
        have hgx : vs0[t]? = some vs0[t] := List.getElem?_eq_getElem hta'
        obtain ⟨v, hv1, hv2⟩ := hA2.get hgx
        rw [List.getElem?_append_left hta, List.getElem?_map, hgx]
        have : (vs.toArray ++ Array.replicate (fn.ntmps - vs.toArray.size) undef).getD t undef = v := by
          have h1 : (vs.toArray ++ Array.replicate (fn.ntmps - vs.toArray.size) undef)[t]? = some v := by
            rw [Array.getElem?_append_left (by simpa using ht)]
            simpa using hv1
          rw [Array.getD_eq_getD_getElem?, h1]; rfl
        rw [this]
        exact hv2
      · have e1 : ((vs0.map AV.v ++ List.replicate (fn.ntmps - nd) AV.undef)[t]?).getD .undef = .undef := by
          rw [List.getElem?_append_right (by simp [hnd]; omega), List.getElem?_replicate]
          split <;> rfl
        rw [e1]; trivial
  refine exec_sound (W := ⟨w, fun _ => [], fun _ => none, hld, fun _ _ h => (by cases h), fun _ => False, fun _ h => h.elim⟩) (M0 := M) hE cd _ _ _ w _ hl.get hr ⟨_, _, _, h0⟩ ?_
  intro e S' a' w' hk hG
  have done : finish E fn.results.toList cod S' = some y → a'.defers = [] ∧ ∃ v, (results fn a'.tmps).run P w' = .ok v w' ∧ ∃ rs hs M', Ending.returned v = .returned (retOf rs) ∧ Ext w w' ∧ RepRs (fun g => w.heap.size ≤ g) w' M' cod y rs hs ∧ (gsOf hs).Nodup ∧
      ∀ p, M' p → (M p ∨ w.heap.size ≤ p.block) ∧ p.block < w'.heap.size ∧ p.block ∉ gsOf hs := by
    intro hfin
    obtain ⟨hdr, inn, M1, g⟩ := hG
    unfold finish at hfin
    split at hfin
    · rename_i ys hys
      obtain ⟨q, hq, hfin⟩ := Option.bind_eq_some_iff.1 hfin
      split at hfin
      · rename_i hok
        cases hfin
        simp only [Bool.and_eq_true] at hok
        obtain ⟨vs', k1, k2⟩ := results_rep hE g hys
        have hdis : ∀ b ∈ q.2.1, b ∉ q.2.2 := fun b hb => disj_mem hok.1.2 hb
        obtain ⟨hs, m1, m2⟩ := resD_rep g hdis (x := q.1) (rs := q.2.1) (ds := q.2.2) hq k2 (fun _ h => h) (fun _ h => h)
        refine ⟨g.nod, _, k1, vs', hs, plusMem M1 S' inn q.2.2, rfl, g.ext.toExt (fun _ hx => hx.elim (fun ⟨_, h⟩ => by cases h) id), RepRs.base (fun g hg => (hg.1 (by decide)).resolve_right id) m1, m2.nodup g (noDup_spec hok.1.1), fun p hp => ?_⟩
        have hfz := g.freeze q.2.2 hok.2
        refine ⟨(hfz.mo p hp).imp id fun h => h.resolve_right id, hfz.ml p hp, fun hm => ?_⟩
        obtain ⟨b, hb1, hb3, B, hb4, hz⟩ := m2.mem _ hm
        exact g.plus_not (ds := q.2.2) hb4 (by rw [hz]; decide) hb3 (hdis b hb1) p hp rfl
      · cases hfin
    · cases hfin
  cases e with
  | normal =>
    obtain ⟨d1, v, d2, d3⟩ := done hk
    exact ⟨d1, v, d2, d3⟩
  | ret =>
    obtain ⟨d1, v, d2, d3⟩ := done hk
    exact ⟨d1, v, d2, d3⟩
  | exit i => cases hk
/-- THE FUNCTION: what the evaluator makes of the code is what a call returns. -/
theorem fn_ok {f : FuncId} {fn : Func} {cd : Code} {con : Con} (hE : EnvOK P E) (hf : P.funcs[f]? = some fn) (hb : fn.body = some cd) (hname : (fn.name == "runtime.NumGoroutine") = false)
    (hl : AllLoops P E fn.ntmps (loopsOf cd)) (hrun : ∀ x y, con.F x = some y → runFn E fn con.dom con.cod x = some y) : con.ok P f := by
  refine ⟨⟨fn, cd, hf, hname, hb⟩, fun w M vs x y hld hM hA hF => ?_⟩
  have hr := hrun x y hF
  unfold runFn at hr
  rw [hb] at hr
  dsimp only at hr
  rw [force_eq] at hr
  exact fn_from hE hf hb hl hld hM (args_rep (hdr := fun _ => none) hA) (args_len _ _) hr
end
end Rx
end Go.Proofs.YtonbgpliomhboaaGreatDoor

namespace Go.Proofs.YtonbgpliomhboaaGreatDoor
open Go.RowKit
namespace Rx

section
variable {P : Program} {W : WX} {M0 : Mem} {S : St} {hdr : Nat → Option Value} {inn : Nat → List Nat} {M : Mem} {a : Act} {w : World} {E : Env} {R : Type} {n : Nat}

theorem lend_shift {hs1 hs2 : List Hd} {j : Nat} (hh : ∀ (i : Nat) v, (hs1 ++ hs2)[i]? = some v → hdr (lendId n (j + i)) = some v.1) : (∀ (i : Nat) v, hs1[i]? = some v → hdr (lendId n (j + i)) = some v.1) ∧ (∀ (i : Nat) v, hs2[i]? = some v → hdr (lendId n (j + hs1.length + i)) = some v.1) :=
  shift_hd (f := fun i => hdr (lendId n i)) (q := fun v : Hd => some v.1) hh

theorem lendCells_rep : ∀ {T : RTy} {x : T.den} {vs : List Value} {hs : List Hd} {j : Nat}, RepR (fun _ => True) w M T x vs hs → (∀ (i : Nat) v, hs[i]? = some v → hdr (lendId n (j + i)) = some v.1) →
    All2 (RepC w M hdr) (lendCells n T x j).1 vs ∧ (lendCells n T x j).2 = j + hs.length
  | .d T, x, vs, hs, j, h, hh => by
    obtain ⟨h1, rfl⟩ := h
    exact ⟨h1.cells, rfl⟩
  | .row t T, xs, vs, hs, j, h, hh => by
    obtain ⟨v, gs, rfl, rfl, hB⟩ := h
    have := hh 0 (v, gs) rfl
    refine ⟨.one ⟨this, ?_⟩, rfl⟩
    rcases hB with ⟨_, rfl, _⟩ | ⟨g, cap, vs, rfl, _⟩ <;> exact ⟨_, _, _, rfl⟩
  | .deep t T, xs, vs, hs, j, h, hh => by
    obtain ⟨v, gs, rfl, rfl, hB⟩ := h
    have := hh 0 (v, gs) rfl
    exact ⟨.one ⟨this, hB.isSlice⟩, rfl⟩
  | .pair A B, x, vs, hs, j, h, hh => by
    obtain ⟨v1, v2, h1, h2, rfl, rfl, ha, hb⟩ := h
    obtain ⟨s1, s2⟩ := lend_shift hh
    obtain ⟨a1, a2⟩ := lendCells_rep ha s1
    obtain ⟨b1, b2⟩ := lendCells_rep (j := (lendCells n A x.1 j).2) hb (by rw [a2]; exact s2)
    refine ⟨a1.append b1, ?_⟩
    show (lendCells n B x.2 _).2 = _
    rw [b2, a2, List.length_append]; omega
  | .box t T, x, vs, hs, j, h, hh => by
    obtain ⟨v, gs, rfl, rfl, hB⟩ := h
    have h0 := hh 0 (v, gs) rfl
    obtain ⟨g, us, rfl, _⟩ := hB
    exact ⟨.one ⟨g, h0, rfl⟩, rfl⟩

theorem lendV1_rep {A : ATy} {x : A.den} {v : Value} {hs : List Hd} {j : Nat} (h : RepA w M A x v hs) (hh : ∀ (i : Nat) v, hs[i]? = some v → hdr (lendId n (j + i)) = some v.1) :
    RepV1 w M hdr (lendV1 n A x j).1 v ∧ (lendV1 n A x j).2 = j + hs.length := by
  have one : v.oneCell' = true → v.cells = #[v] := fun h1 => by cases v <;> first | rfl | (simp [Value.oneCell'] at h1)
  cases A with
  | v T =>
    obtain ⟨hS, h⟩ := h
    cases T with
    | d T =>
      obtain ⟨h1, rfl⟩ := h
      refine ⟨?_, rfl⟩
      have hc := h1.cells (hdr := hdr)
      cases T with
      | pair A B =>
        obtain ⟨cs, rfl⟩ : ∃ cs : List Value, v = .agg cs.toArray := by simpa [ShapeR, aggR] using hS
        exact ⟨cs, rfl, by simpa only [Value.cells] using hc⟩
      | unit =>
        obtain ⟨cs, rfl⟩ : ∃ cs : List Value, v = .agg cs.toArray := by simpa [ShapeR, aggR] using hS
        have hc' : All2 (RepC w M hdr) (cellsOf .unit x) cs := by simpa only [Value.cells] using hc
        exact ⟨cs, rfl, hc'⟩
      | int k => have h2 : v.oneCell' = true := by simpa [ShapeR, aggR] using hS
                 rw [one h2] at hc; exact hc.1
      | bool => have h2 : v.oneCell' = true := by simpa [ShapeR, aggR] using hS
                rw [one h2] at hc; exact hc.1
      | str => have h2 : v.oneCell' = true := by simpa [ShapeR, aggR] using hS
               rw [one h2] at hc; exact hc.1
      | slice T => have h2 : v.oneCell' = true := by simpa [ShapeR, aggR] using hS
                   rw [one h2] at hc; exact hc.1
      | ref T => rw [one (by simpa [ShapeR, aggR] using hS)] at hc; exact hc.1
      | clo f T => rw [one (by simpa [ShapeR, aggR] using hS)] at hc; exact hc.1
    | row t T =>
      have h2 : v.oneCell' = true := by simpa [ShapeR, aggR] using hS
      rw [one h2] at h
      obtain ⟨a1, a2⟩ := lendCells_rep h hh
      exact ⟨a1.1, a2⟩
    | pair A B =>
      obtain ⟨cs, rfl⟩ : ∃ cs : List Value, v = .agg cs.toArray := by simpa [ShapeR, aggR] using hS
      obtain ⟨a1, a2⟩ := lendCells_rep h hh
      exact ⟨⟨cs, rfl, by simpa only [Value.cells] using a1⟩, a2⟩
    | box t T =>
      rw [one (by simpa [ShapeR, aggR] using hS)] at h
      obtain ⟨a1, a2⟩ := lendCells_rep h hh
      exact ⟨a1.1, a2⟩
    | deep t T =>
      rw [one (by simpa [ShapeR, aggR] using hS)] at h
      obtain ⟨a1, a2⟩ := lendCells_rep h hh
      exact ⟨a1.1, a2⟩
  | box t T =>
    obtain ⟨gs, rfl, g, vs, rfl, _⟩ := h
    exact ⟨⟨g, hh 0 _ rfl, rfl⟩, rfl⟩

theorem lendAll_len : ∀ (As : List ATy) (x : ADens As) (j : Nat), (lendAll n As x j).length = As.length
  | [], _, _ => rfl
  | [_], _, _ => rfl
  | _ :: B :: As, x, j => by
    show (lendAll n (B :: As) x.2 _).length + 1 = _
    rw [lendAll_len (B :: As) x.2]; rfl
theorem lendAll_rep : ∀ {As : List ATy} {x : ADens As} {vs : List Value} {hs : List Hd} {j : Nat}, RepAs w M As x vs hs → (∀ (i : Nat) v, hs[i]? = some v → hdr (lendId n (j + i)) = some v.1) → All2 (RepV1 w M hdr) (lendAll n As x j) vs
  | [], _, _, _, _, ⟨e, _⟩, _ => by subst e; trivial
  | [A], x, vs, hs, j, ⟨v, e, h⟩, hh => by subst e; exact .one (lendV1_rep h hh).1
  | A :: B :: As, x, vs, hs, j, ⟨v, r, h1, h2, e, e', ha, hb⟩, hh => by
    subst e; subst e'
    obtain ⟨s1, s2⟩ := lend_shift hh
    obtain ⟨a1, a2⟩ := lendV1_rep ha s1
    exact ⟨a1, lendAll_rep (j := (lendV1 n A x.1 j).2) hb (by rw [a2]; exact s2)⟩

theorem lk_lend : ∀ {Bs : List Blk} {j b : Nat} {x : Option Blk}, lk (lendHeap n j Bs) b = some x → ∃ i B, b = lendId n (j + i) ∧ Bs[i]? = some B ∧ x = some (B.held (2 + 2 * (j + i)))
  | [], j, b, x, h => none_some h
  | B :: Bs, j, b, x, h => by
    simp only [lendHeap, lk_cons] at h
    split at h
    · rename_i e
      cases h
      exact ⟨0, B, e.symm, rfl, rfl⟩
    · obtain ⟨i, B', h1, h2, h3⟩ := lk_lend h
      exact ⟨i + 1, B', by rw [h1]; unfold lendId; omega, by simpa using h2, by rw [h3]; congr 2; omega⟩
theorem lk_lend_none : ∀ {Bs : List Blk} {j b : Nat}, lk (lendHeap n j Bs) b = none → ∀ i, b = lendId n (j + i) → Bs.length ≤ i
  | [], _, _, _, _, _ => Nat.zero_le _
  | B :: Bs, j, b, h, i, e => by
    simp only [lendHeap, lk_cons] at h
    split at h
    · cases h
    · rename_i hne
      cases i with
      | zero => exact absurd e.symm hne
      | succ i =>
        have := lk_lend_none h i (by rw [e]; unfold lendId; omega)
        simp only [List.length_cons]; omega

/-! What is found of the blocks at the end -/
theorem findArg_spec {H0 : Heap} {j : Nat} {B : Blk} : ∀ {H : Heap}, findArg H0 j H = some B → ∃ b, lk H0 b = some (some B) ∧ B.fz = 2 + 2 * j
  | [], h => none_some h
  | x :: r, h => by
    simp only [findArg] at h
    split at h
    · rename_i B' hB
      split at h
      · rename_i hf
        cases h
        exact ⟨x.1, hB, hf⟩
      · exact findArg_spec h
    · exact findArg_spec h

/-- A block that was handed over is in no memory that is looked at. -/
theorem Good.argNot (h : Good W M0 S hdr inn M a w) {ds : List Nat} (hmf : mayFreeze S.heap ds = true) {b : Nat} {B : Blk} {g : Nat} (hb : lk S.heap b = some (some B)) (hf : 2 ≤ B.fz) (hg : g ∈ inn b) :
    ∀ p, plusMem M S inn ds p → p.block ≠ g := by
  by_cases hn : b ∈ ds
  · rintro p (hp | ⟨b', B', hm, hl, hpA, _, hoff⟩) e
    · exact h.plus_not (ds := []) hb (by omega) hg (by simp) p (.inl hp) e
    · by_cases e' : b = b'
      · subst e'
        rw [hl] at hb; cases hb
        have := mayFreeze_spec hmf b hn _ hl
        omega
      · exact absurd (show g ∈ inn b' by rw [← e]; exact hpA) (h.sep b b' _ _ g e' hb hl hg)
  · exact h.plus_not hb (by omega) hg hn

theorem Good.argBlk (h : Good W M0 S hdr inn M a w) {ds : List Nat} (hmf : mayFreeze S.heap ds = true) {Mx : Mem} (hMx : ∀ p, Mx p → plusMem M S inn ds p ∨ ∀ g, W.X g → p.block ≠ g) (hM : ∀ p, M p → Mx p) {j : Nat} {B : Blk} (hf : findArg S.heap j S.heap = some B) (hr : B.isRow = true) :
    ∃ v gs, W.arg j = some v ∧ RepBlk w Mx (fun _ => none) (fun _ _ => True) (B.held 0) v gs ∧ ∀ g ∈ gs, g ∈ W.A j := by
  obtain ⟨b, hb, hz⟩ := findArg_spec hf
  obtain ⟨v, hv, hB⟩ := h.hp b _ hb
  have ha := h.ag b _ hb (by omega) (by omega)
  rw [hz, show (2 + 2 * j - 2) / 2 = j by omega, hv] at ha
  have hA : ∀ g ∈ inn b, g ∈ W.A j := fun g hg => by
    have := (hB.lt hg).2.2 (by omega)
    rw [hz, show (2 + 2 * j - 2) / 2 = j by omega] at this
    exact this
  refine ⟨v, inn b, ha.symm, hB.rowNone hr hM (fun _ _ _ => trivial) fun p hp hm => ?_, hA⟩
  rcases hMx p hp with hp | hp
  · exact h.argNot hmf hb (by omega) hm p hp rfl
  · exact hp _ (.inl ⟨j, hA _ hm⟩) rfl
theorem Good.argBox (h : Good W M0 S hdr inn M a w) {ds : List Nat} (hmf : mayFreeze S.heap ds = true) {Mx : Mem} (hMx : ∀ p, Mx p → plusMem M S inn ds p ∨ ∀ g, W.X g → p.block ≠ g) (hM : ∀ p, M p → Mx p) {j : Nat} {t : TypeId} {cs : List Cell} {fz : Nat} {T : Ty} {d : T.den} (hf : findArg S.heap j S.heap = some (.cells t cs fz)) (hd : takeAll [] T cs = some d) :
    ∃ v gs, W.arg j = some v ∧ RepBlk w Mx (fun _ => none) (fun _ _ => True) (.cells t (cellsOf T d) 0) v gs ∧ ∀ g ∈ gs, g ∈ W.A j := by
  obtain ⟨b, hb, hz⟩ := findArg_spec hf
  obtain ⟨v, hv, hB⟩ := h.hp b _ hb
  have ha := h.ag b _ hb (by omega) (by omega)
  rw [hz, show (2 + 2 * j - 2) / 2 = j by omega, hv] at ha
  have hA : ∀ g ∈ inn b, g ∈ W.A j := fun g hg => by
    have := (hB.lt hg).2.2 (by omega)
    rw [hz, show (2 + 2 * j - 2) / 2 = j by omega] at this
    exact this
  refine ⟨v, inn b, ha.symm, ?_, hA⟩
  have hnot : ∀ p, Mx p → p.block ∉ inn b := fun p hp hm => by
    rcases hMx p hp with hp | hp
    · exact h.argNot hmf hb (by omega) hm p hp rfl
    · exact hp _ (.inl ⟨j, hA _ hm⟩) rfl
  obtain ⟨g, vs, rfl, e2, k1, k2, k3, k4⟩ := hB
  have hD := takeAll_nil hd k3
  exact ⟨g, vs, rfl, e2, trivial, k2, (RepD.keep (fun _ _ => rfl) hM hD).cells, fun p hp e => absurd (by rw [e2]; simp [e]) (hnot p hp)⟩

/-- The same slices, in blocks that they lay in. -/
def Sub (a b : List Hd) : Prop := All2 (fun a b => a.1 = b.1 ∧ ∀ g ∈ a.2, g ∈ b.2) a b
theorem Sub.mem {a b : List Hd} (h : Sub a b) : ∀ g ∈ gsOf a, g ∈ gsOf b := by
  intro g hg
  obtain ⟨v, hv, hgv⟩ := mem_gsOf.1 hg
  obtain ⟨i, hi⟩ := List.getElem?_of_mem hv
  obtain ⟨u, hu, h1, h2⟩ := All2.get h hi
  exact mem_gsOf.2 ⟨u, List.mem_of_getElem? hu, h2 g hgv⟩
theorem Sub.nodup : ∀ {a b : List Hd}, Sub a b → (∀ v ∈ a, v.2.Nodup) → (gsOf b).Nodup → (gsOf a).Nodup
  | [], [], _, _, _ => .nil
  | u :: a, v :: b, h, ha, hb => by
    rw [gsOf_cons, List.nodup_append] at hb
    rw [gsOf_cons, List.nodup_append]
    refine ⟨ha u (by simp), Sub.nodup h.2 (fun v hv => ha v (by simp [hv])) hb.2.1, fun g hg g' hg' e => ?_⟩
    exact hb.2.2 g (h.1.2 g hg) g' (Sub.mem h.2 g' hg') e
  | [], _ :: _, h, _, _ => h.elim
  | _ :: _, [], h, _, _ => h.elim
theorem BW.nod {M : Mem} : ∀ {Bs : List Blk} {hs : List Hd}, BW w M Bs hs → ∀ v ∈ hs, v.2.Nodup
  | [], [], _, v, hv => by cases hv
  | B :: Bs, u :: hs, h, v, hv => by
    rcases List.mem_cons.1 hv with rfl | hv
    · exact RepBlk.nodup h.1
    · exact BW.nod h.2 v hv
  | [], _ :: _, h, _, _ => h.elim
  | _ :: _, [], h, _, _ => h.elim

section
variable {w0 : World} {Mx : Mem} {ds : List Nat}
theorem outR_rep (h : Good W M0 S hdr inn M a w) (hmf : mayFreeze S.heap ds = true) (hMx : ∀ p, Mx p → plusMem M S inn ds p ∨ ∀ g, W.X g → p.block ≠ g) (hM : ∀ p, M p → Mx p) (hk : ∀ p, M0 p → w.cell? p = w0.cell? p) (hM0 : ∀ p, M0 p → Mx p) :
    ∀ {T : RTy} {x x' : T.den} {vs : List Value} {hs : List Hd} {j j' : Nat}, RepR (fun _ => True) w0 M0 T x vs hs → (∀ (i : Nat) v, hs[i]? = some v → (W.arg (j + i), W.A (j + i)) = (some v.1, v.2)) → outR S.heap T x j = some (x', j') → ∃ hs', RepR (fun _ => True) w Mx T x' vs hs' ∧ Sub hs' hs ∧ j' = j + hs.length
  | .d T, x, x', vs, hs, j, j', ⟨h1, h2⟩, hh, ho => by
    unfold outR at ho
    cases ho; subst h2
    exact ⟨[], ⟨RepD.keep hk hM0 h1, rfl⟩, trivial, rfl⟩
  | .row t T, xs, x', vs, hs, j, j', ⟨v, gs, h1, h2, hB⟩, hh, ho => by
    unfold outR at ho
    subst h1; subst h2
    have hv := hh 0 (v, gs) rfl
    rw [Nat.add_zero] at hv
    obtain ⟨hv1, hv2⟩ := Prod.mk.inj hv
    split at ho
    · rename_i t' T' ys fz hf
      split at ho
      · rename_i hT
        split at ho
        · rename_i ht
          cases ho; subst hT; subst ht
          obtain ⟨u, gs', hu, hB', hA⟩ := h.argBlk hmf hMx hM hf rfl
          rw [hu] at hv1; cases hv1
          exact ⟨[(_, gs')], ⟨_, _, rfl, rfl, hB'⟩, .one ⟨rfl, fun g hg => by have := hA g hg; rw [hv2] at this; exact this⟩, rfl⟩
        · cases ho
      · cases ho
    · cases ho
  | .deep t T, xs, x', vs, hs, j, j', ⟨v, gs, h1, h2, hB⟩, hh, ho => by
    unfold outR at ho
    subst h1; subst h2
    have hv := hh 0 (v, gs) rfl
    rw [Nat.add_zero] at hv
    obtain ⟨hv1, hv2⟩ := Prod.mk.inj hv
    split at ho
    · rename_i t' T' ys fz hf
      split at ho
      · rename_i hT
        split at ho
        · rename_i ht
          cases ho; subst hT; subst ht
          obtain ⟨u, gs', hu, hB', hA⟩ := h.argBlk hmf hMx hM hf rfl
          rw [hu] at hv1; cases hv1
          exact ⟨[(_, gs')], ⟨_, _, rfl, rfl, hB'⟩, .one ⟨rfl, fun g hg => by have := hA g hg; rw [hv2] at this; exact this⟩, rfl⟩
        · cases ho
      · cases ho
    · cases ho
  | .pair A B, x, x', vs, hs, j, j', ⟨v1, v2, h1, h2, e1, e2, ha, hb⟩, hh, ho => by
    unfold outR at ho
    subst e1; subst e2
    obtain ⟨y, hy, ho⟩ := Option.bind_eq_some_iff.1 ho
    obtain ⟨z, hz, ho⟩ := Option.bind_eq_some_iff.1 ho
    cases ho
    obtain ⟨s1, s2⟩ := shift_hd (f := fun i => (W.arg i, W.A i)) (q := fun v : Hd => (some v.1, v.2)) hh
    obtain ⟨k1, a1, a3, a2⟩ := outR_rep h hmf hMx hM hk hM0 (x' := y.1) (j' := y.2) ha s1 hy
    obtain ⟨k2, b1, b3, b2⟩ := outR_rep h hmf hMx hM hk hM0 (j := y.2) (x' := z.1) (j' := z.2) hb (by rw [a2]; exact s2) hz
    exact ⟨k1 ++ k2, ⟨v1, v2, k1, k2, rfl, rfl, a1, b1⟩, a3.append b3, by rw [b2, a2, List.length_append]; omega⟩
  | .box t T, x, x', vs, hs, j, j', ⟨v, gs, h1, h2, hB⟩, hh, ho => by
    unfold outR at ho
    subst h1; subst h2
    have hv := hh 0 (v, gs) rfl
    rw [Nat.add_zero] at hv
    obtain ⟨hv1, hv2⟩ := Prod.mk.inj hv
    split at ho
    · rename_i t' cs fz hf
      split at ho
      · rename_i ht
        obtain ⟨d, hd, ho⟩ := Option.map_eq_some_iff.1 ho
        cases ho; subst ht
        obtain ⟨u, gs', hu, hB', hA⟩ := h.argBox hmf hMx hM hf hd
        rw [hu] at hv1; cases hv1
        exact ⟨[(_, gs')], ⟨_, _, rfl, rfl, hB'⟩, .one ⟨rfl, fun g hg => by have := hA g hg; rw [hv2] at this; exact this⟩, rfl⟩
      · cases ho
    · cases ho
theorem outA_rep (h : Good W M0 S hdr inn M a w) (hmf : mayFreeze S.heap ds = true) (hMx : ∀ p, Mx p → plusMem M S inn ds p ∨ ∀ g, W.X g → p.block ≠ g) (hM : ∀ p, M p → Mx p) (hk : ∀ p, M0 p → w.cell? p = w0.cell? p) (hM0 : ∀ p, M0 p → Mx p)
    {A : ATy} {x x' : A.den} {v : Value} {hs : List Hd} {j j' : Nat} (hA : RepA w0 M0 A x v hs) (hh : ∀ (i : Nat) v, hs[i]? = some v → (W.arg (j + i), W.A (j + i)) = (some v.1, v.2)) (ho : outA S.heap A x j = some (x', j')) : ∃ hs', RepA w Mx A x' v hs' ∧ Sub hs' hs ∧ j' = j + hs.length := by
  cases A with
  | v R =>
    obtain ⟨h1, h2⟩ := hA
    obtain ⟨hs', k1, k3, k2⟩ := outR_rep h hmf hMx hM hk hM0 h2 hh ho
    exact ⟨hs', ⟨h1, k1⟩, k3, k2⟩
  | box t T =>
    obtain ⟨gs, e, hB⟩ := hA
    subst e
    have hv := hh 0 (v, gs) rfl
    rw [Nat.add_zero] at hv
    obtain ⟨hv1, hv2⟩ := Prod.mk.inj hv
    simp only [outA] at ho
    split at ho
    · rename_i t' cs fz hf
      split at ho
      · rename_i ht
        obtain ⟨d, hd, ho⟩ := Option.map_eq_some_iff.1 ho
        cases ho; subst ht
        obtain ⟨u, gs', hu, hB', hA⟩ := h.argBox hmf hMx hM hf hd
        rw [hu] at hv1; cases hv1
        exact ⟨[(_, gs')], ⟨_, rfl, hB'⟩, .one ⟨rfl, fun g hg => by have := hA g hg; rw [hv2] at this; exact this⟩, rfl⟩
      · cases ho
    · cases ho
theorem outAs_rep (h : Good W M0 S hdr inn M a w) (hmf : mayFreeze S.heap ds = true) (hMx : ∀ p, Mx p → plusMem M S inn ds p ∨ ∀ g, W.X g → p.block ≠ g) (hM : ∀ p, M p → Mx p) (hk : ∀ p, M0 p → w.cell? p = w0.cell? p) (hM0 : ∀ p, M0 p → Mx p) :
    ∀ {As : List ATy} {x x' : ADens As} {vs : List Value} {hs : List Hd} {j : Nat}, RepAs w0 M0 As x vs hs → (∀ (i : Nat) v, hs[i]? = some v → (W.arg (j + i), W.A (j + i)) = (some v.1, v.2)) → outAs S.heap As x j = some x' → ∃ hs', RepAs w Mx As x' vs hs' ∧ Sub hs' hs
  | [], _, _, _, _, _, ⟨h0, h1⟩, _, _ => by subst h1; exact ⟨[], ⟨h0, rfl⟩, trivial⟩
  | [A], x, x', vs, hs, j, ⟨v, e, hA⟩, hh, ho => by
    have ho' : (outA S.heap A x j).map (·.1) = some x' := ho
    obtain ⟨y, hy, ho'⟩ := Option.map_eq_some_iff.1 ho'
    subst ho'
    obtain ⟨hs', k1, k2, _⟩ := outA_rep h hmf hMx hM hk hM0 (j' := y.2) hA hh hy
    exact ⟨hs', ⟨v, e, k1⟩, k2⟩
  | A :: B :: As, x, x', vs, hs, j, ⟨v, r, h1, h2, e, e', ha, hb⟩, hh, ho => by
    have ho' : ((outA S.heap A x.1 j).bind fun y => (outAs S.heap (B :: As) x.2 y.2).bind fun z => some (y.1, z)) = some x' := ho
    obtain ⟨y, hy, ho'⟩ := Option.bind_eq_some_iff.1 ho'
    obtain ⟨z, hz, ho'⟩ := Option.bind_eq_some_iff.1 ho'
    cases ho'
    subst e'
    obtain ⟨s1, s2⟩ := shift_hd (f := fun i => (W.arg i, W.A i)) (q := fun v : Hd => (some v.1, v.2)) hh
    obtain ⟨k1, a1, a3, a2⟩ := outA_rep h hmf hMx hM hk hM0 (x' := y.1) (j' := y.2) ha s1 hy
    obtain ⟨k2, b1, b3⟩ := outAs_rep h hmf hMx hM hk hM0 (j := y.2) hb (by rw [a2]; exact s2) hz
    exact ⟨k1 ++ k2, ⟨v, r, k1, k2, e, rfl, a1, b1⟩, a3.append b3⟩
end

/-- Blocks that are handed over lie in no memory that is looked at. -/
theorem BW.not {M : Mem} : ∀ {Bs : List Blk} {hs : List Hd}, BW w M Bs hs → (∀ B ∈ Bs, B.fz = 0) → ∀ p, M p → p.block ∉ gsOf hs
  | [], [], _, _, p, _ => by simp [gsOf]
  | B :: Bs, v :: hs, h, hz, p, hp => by
    have ih := BW.not h.2 (fun B hB => hz B (by simp [hB])) p hp
    rw [gsOf_cons]
    intro hm
    rcases List.mem_append.1 hm with e | hm
    · have h1 := (RepBlk.seen h.1 p hp e).1
      have h2 := hz B (by simp)
      omega
    · exact ih hm
  | [], _ :: _, h, _, _, _ => h.elim
  | _ :: _, [], h, _, _, _ => h.elim
theorem RTy.blks_fz : ∀ (T : RTy) (x : T.den), ∀ B ∈ T.blks x, B.fz = 0
  | .d _, _, _, h => by cases h
  | .row _ _, _, B, h => by simp [RTy.blks] at h; subst h; rfl
  | .pair a b, x, B, h => by
    rcases List.mem_append.1 h with h | h
    · exact RTy.blks_fz a x.1 B h
    · exact RTy.blks_fz b x.2 B h
  | .box _ _, _, B, h => by simp [RTy.blks] at h; subst h; rfl
  | .deep _ _, _, B, h => by simp [RTy.blks] at h; subst h; rfl
theorem ATy.blks_fz (A : ATy) (x : A.den) : ∀ B ∈ A.blks x, B.fz = 0 := by
  cases A with
  | v R => exact RTy.blks_fz R x
  | box t T => intro B h; simp [ATy.blks] at h; subst h; rfl
theorem blksA_fz : ∀ (As : List ATy) (x : ADens As), ∀ B ∈ blksA As x, B.fz = 0
  | [], _, _, h => by cases h
  | [A], x, B, h => ATy.blks_fz A x B h
  | A :: C :: As, x, B, h => by
    rcases List.mem_append.1 (show B ∈ A.blks x.1 ++ blksA (C :: As) x.2 from h) with h | h
    · exact ATy.blks_fz A x.1 B h
    · exact blksA_fz (C :: As) x.2 B h

/-- THE FUNCTION THAT WRITES. -/
theorem fnM_ok {f : FuncId} {fn : Func} {cd : Code} {con : MCon} (hE : EnvOK P E) (hf : P.funcs[f]? = some fn) (hb : fn.body = some cd) (hname : (fn.name == "runtime.NumGoroutine") = false)
    (hl : AllLoops P E fn.ntmps (loopsOf cd)) (hrun : ∀ x y, con.F x = some y → runFnM E fn con.dom con.cod x = some y) : con.ok P f := by
  refine ⟨⟨fn, cd, hf, hname, hb⟩, fun w M vs ms x y x' hld hgx0 hM hA hms hF => ?_⟩
  have hr := hrun x (y, x') hF
  unfold runFnM at hr
  rw [hb] at hr
  dsimp only at hr
  rw [force_eq, force_eq] at hr
  let hdr0 : Nat → Option Value := fun b => if b % 4 = 2 ∧ 4 * fn.ntmps + 2 ≤ b then (ms[(b - 2) / 4 - fn.ntmps]?).map (·.1) else none
  let inn0 : Nat → List Nat := fun b => if b % 4 = 2 ∧ 4 * fn.ntmps + 2 ≤ b then ((ms[(b - 2) / 4 - fn.ntmps]?).map (·.2)).getD [] else []
  have hd0 : ∀ i, hdr0 (lendId fn.ntmps i) = (ms[i]?).map (·.1) := fun i => by
    show (if _ then _ else _) = _
    unfold lendId
    rw [if_pos ⟨by omega, by omega⟩, show (4 * (fn.ntmps + i) + 2 - 2) / 4 - fn.ntmps = i by omega]
  have hi0 : ∀ i, inn0 (lendId fn.ntmps i) = ((ms[i]?).map (·.2)).getD [] := fun i => by
    show (if _ then _ else _) = _
    unfold lendId
    rw [if_pos ⟨by omega, by omega⟩, show (4 * (fn.ntmps + i) + 2 - 2) / 4 - fn.ntmps = i by omega]
  have hA2 := lendAll_rep (n := fn.ntmps) (hdr := hdr0) (j := 0) hA (fun i v hv => by rw [Nat.zero_add, hd0, hv]; rfl)
  have hvl : vs.length = con.dom.length := by rw [← hA2.len, lendAll_len]
  have hbw := RepAs.blks hA
  have hMn := BW.not hbw (blksA_fz con.dom x)
  refine calls_of_wp hf hb ?_
  have h0 : Good (lendW w ms hld hgx0) M (initM fn.ntmps con.dom x) hdr0 inn0 M { tmps := vs.toArray ++ Array.replicate (fn.ntmps - vs.toArray.size) undef, defers := [] } w := by
    refine ⟨.ofExt (Ext.refl w), rfl, ?_, fun t => ?_, fun b B hb => ?_, fun b hb => ?_, fun b b' B B' g hbb hb hb' hg => ?_, hM, fun p hp => .inl hp, fun b B hb hf hf2 => ?_⟩
    · simp [initM, lendAll_len, hvl]
    · simp only [initM]
      by_cases ht : t < vs.length
      · have hta : t < ((lendAll fn.ntmps con.dom x 0).map AV.v).length := by simp [lendAll_len]; omega
        have hta' : t < (lendAll fn.ntmps con.dom x 0).length := by simpa using hta
        have hgx : (lendAll fn.ntmps con.dom x 0)[t]? = some (lendAll fn.ntmps con.dom x 0)[t] := List.getElem?_eq_getElem hta'
        obtain ⟨v, hv1, hv2⟩ := hA2.get hgx
        rw [List.getElem?_append_left hta, List.getElem?_map, hgx]
        have : (vs.toArray ++ Array.replicate (fn.ntmps - vs.toArray.size) undef).getD t undef = v := by
          have h1 : (vs.toArray ++ Array.replicate (fn.ntmps - vs.toArray.size) undef)[t]? = some v := by
            rw [Array.getElem?_append_left (by simpa using ht)]
            simpa using hv1
          rw [Array.getD_eq_getD_getElem?, h1]; rfl
        rw [this]
        exact hv2
      · have e1 : (((lendAll fn.ntmps con.dom x 0).map AV.v ++ List.replicate (fn.ntmps - con.dom.length) AV.undef)[t]?).getD .undef = .undef := by
          rw [List.getElem?_append_right (by simp [lendAll_len]; omega), List.getElem?_replicate]
          split <;> rfl
        rw [e1]; trivial
    · obtain ⟨i, B0, rfl, h2, h3⟩ := lk_lend hb
      cases h3
      obtain ⟨v, hv1, hv2⟩ := hbw.get h2
      rw [Nat.zero_add]
      refine ⟨v.1, by rw [hd0, hv1]; rfl, ?_⟩
      rw [hi0, hv1]
      refine hv2.rehold (fun _ h => h) fun g hg => ?_
      have hm : g ∈ gsOf ms := mem_gsOf.2 ⟨v, List.mem_of_getElem? hv1, hg⟩
      refine ⟨⟨fun h => by omega, fun _ => ?_⟩, fun p hp e => hMn p hp (by rw [e]; exact hm)⟩
      show g ∈ ((ms[(2 + 2 * i - 2) / 2]?).map (·.2)).getD []
      rw [show (2 + 2 * i - 2) / 2 = i by omega, hv1]; exact hg
    · show (if _ then _ else _) = _
      split
      · rename_i hc
        have hbl : b = lendId fn.ntmps (0 + ((b - 2) / 4 - fn.ntmps)) := by unfold lendId; omega
        have := lk_lend_none hb _ hbl
        rw [hbw.len] at this
        rw [List.getElem?_eq_none this]; rfl
      · rfl
    · obtain ⟨i, B0, rfl, h2, h3⟩ := lk_lend hb
      obtain ⟨i', B0', rfl, h2', h3'⟩ := lk_lend hb'
      obtain ⟨v, hv1, _⟩ := hbw.get h2
      obtain ⟨v', hv1', _⟩ := hbw.get h2'
      rw [hi0, Nat.zero_add, hv1] at hg
      rw [hi0, Nat.zero_add, hv1']
      exact gs_sep hms (fun e => hbb (by rw [e])) hv1 hv1' hg
    · obtain ⟨i, B0, rfl, h2, h3⟩ := lk_lend hb
      cases h3
      rw [Blk.held_fz, Nat.zero_add, hd0, show (2 + 2 * i - 2) / 2 = i by omega]
      rfl
  refine exec_sound (W := lendW w ms hld hgx0) (M0 := M) hE cd (initM fn.ntmps con.dom x) _ _ w _ hl.get hr ⟨_, _, _, h0⟩ ?_
  intro e S' a' w' hk hG
  have done : finishM E fn.results.toList con.dom con.cod x S' = some (y, x') → a'.defers = [] ∧ ∃ v, (results fn a'.tmps).run P w' = .ok v w' ∧ ∃ rs hs ms' M', Ending.returned v = .returned (retOf rs) ∧ ExtW (lendW w ms hld hgx0) w' ∧ RepRs (fun g => w.heap.size ≤ g) w' M' con.cod y rs hs ∧ RepAs w' M' con.dom x' vs ms' ∧ (gsOf hs).Nodup ∧
      (All2 (fun a b => a.1 = b.1 ∧ ∀ g ∈ a.2, g ∈ b.2) ms' ms ∧ (gsOf ms').Nodup) ∧
      ∀ p, M' p → (M p ∨ w.heap.size ≤ p.block) ∧ p.block < w'.heap.size ∧ p.block ∉ gsOf hs ∧ p.block ∉ gsOf ms' := by
    intro hfin
    unfold finishM at hfin
    obtain ⟨y2, hfin, hk2⟩ := Option.bind_eq_some_iff.1 hfin
    obtain ⟨x2, hout, hk2⟩ := Option.bind_eq_some_iff.1 hk2
    cases hk2
    obtain ⟨hdr, inn, M1, g⟩ := hG
    unfold finish at hfin
    split at hfin
    · rename_i ys hys
      obtain ⟨q, hq, hfin⟩ := Option.bind_eq_some_iff.1 hfin
      split at hfin
      · rename_i hok
        cases hfin
        simp only [Bool.and_eq_true] at hok
        obtain ⟨vs', k1, k2⟩ := results_rep hE g hys
        have hdis : ∀ b ∈ q.2.1, b ∉ q.2.2 := fun b hb => disj_mem hok.1.2 hb
        obtain ⟨hs, m1, m2⟩ := resD_rep g hdis (x := q.1) (rs := q.2.1) (ds := q.2.2) hq k2 (fun _ h => h) (fun _ h => h)
        have hfz := g.freeze q.2.2 hok.2
        have hX : ∀ p, M p → p.block ∉ gsOf ms := hMn
        have hcell : ∀ p, M p → w'.cell? p = w.cell? p := fun p hp => World.cell?_of_block (w := w) (g.ext.block _ (hM p hp) (fun hx => hX p hp (lendW_X.1 hx)))
        have hge := RepRs.ge m1
        have hsz : w.heap.size ≤ w'.heap.size := g.ext.size
        have hfresh : ∀ gg ∈ gsOf hs, w.heap.size ≤ gg := fun gg hg => ((hge gg hg).1 (by decide)).resolve_right id
        have harg : ∀ p, plusMem M1 S' inn q.2.2 p → p.block ∉ gsOf ms := by
          intro p hp hm
          obtain ⟨v, hv, ho⟩ := mem_gsOf.1 hm
          -- a block that is handed over is old
          rcases hfz.mo p hp with h1 | h1
          · exact hX p h1 hm
          · -- it was there when the call began
            obtain ⟨i, hi⟩ := List.getElem?_of_mem hv
            have hlen := hbw.len
            have hil : i < (blksA con.dom x).length := by rw [hlen]; exact (List.getElem?_eq_some_iff.1 hi).1
            obtain ⟨u, hu1, hu2⟩ := hbw.get (List.getElem?_eq_getElem hil)
            rw [hi] at hu1; cases hu1
            have := (hu2.lt ho).1
            have h1' : w.heap.size ≤ p.block := h1.resolve_right id
            omega
        have hMxdef : ∀ p, (M p ∨ plusMem M1 S' inn q.2.2 p) → plusMem M1 S' inn q.2.2 p ∨ ∀ g, (lendW w ms hld hgx0).X g → p.block ≠ g := fun p hp => hp.elim (fun h => .inr fun g hg e => hX p h (by rw [e]; exact lendW_X.1 hg)) .inl
        obtain ⟨ms', hAs, hSub⟩ := outAs_rep (W := lendW w ms hld hgx0) (Mx := fun p => M p ∨ plusMem M1 S' inn q.2.2 p) (ds := q.2.2) (w0 := w) g hok.2 hMxdef (fun p hp => .inr (.inl hp)) hcell (fun p hp => .inl hp) (j := 0) hA (fun i v hv => by
          show ((ms[0 + i]?).map (·.1), ((ms[0 + i]?).map (·.2)).getD []) = _
          rw [Nat.zero_add, hv]; rfl) hout
        have hno : ∀ p, (M p ∨ plusMem M1 S' inn q.2.2 p) → p.block ∉ gsOf hs := by
          intro p hp hm
          rcases hp with hp | hp
          · have := hM p hp
            have := hfresh _ hm
            omega
          · obtain ⟨b, hb1, hb3, B, hb4, hz⟩ := m2.mem _ hm
            exact g.plus_not (ds := q.2.2) hb4 (by rw [hz]; decide) hb3 (hdis b hb1) p hp rfl
        refine ⟨g.nod, _, k1, vs', hs, ms', fun p => M p ∨ plusMem M1 S' inn q.2.2 p, rfl, g.ext, RepRs.base (fun g hg => (hg.1 (by decide)).resolve_right id) (RepRs.keepM (fun _ h => .inr h) hno m1), hAs, m2.nodup g (noDup_spec hok.1.1), ⟨hSub, hSub.nodup (BW.nod (RepAs.blks hAs)) hms⟩, fun p hp => ?_⟩
        rcases hp with hp | hp
        · exact ⟨.inl hp, Nat.lt_of_lt_of_le (hM p hp) hsz, hno p (.inl hp), fun hm => hX p hp (hSub.mem _ hm)⟩
        · exact ⟨(hfz.mo p hp).imp id fun h => h.resolve_right id, hfz.ml p hp, hno p (.inr hp), fun hm => harg p hp (hSub.mem _ hm)⟩
      · cases hfin
    · cases hfin
  cases e with
  | normal =>
    obtain ⟨d1, v, d2, d3⟩ := done hk
    exact ⟨d1, v, d2, d3⟩
  | ret =>
    obtain ⟨d1, v, d2, d3⟩ := done hk
    exact ⟨d1, v, d2, d3⟩
  | exit i => cases hk
end
end Rx
end Go.Proofs.YtonbgpliomhboaaGreatDoor

namespace Go.Proofs.YtonbgpliomhboaaGreatDoor
open Go.ChangeShapes Go.WideShapes Go.ChangeAt Go.RowKit
namespace Rx

/-! ### Types -/
def zeroOk : List Cell → List Value → Bool
  | [], [] => true
  | .int k n :: r, .int k' n' :: r' => k == k' && n == n' && zeroOk r r'
  | .bool b :: r, .bool b' :: r' => b == b' && zeroOk r r'
  | .str s :: r, .string s' :: r' => decide (s = s') && zeroOk r r'
  | .nils :: r, .slice none 0 0 :: r' => zeroOk r r'
  | _, _ => false
def pairsEq : List (Nat × TypeId) → List (Nat × TypeId) → Bool
  | [], [] => true
  | x :: r, y :: r' => x.1 == y.1 && x.2 == y.2 && pairsEq r r'
  | _, _ => false
def descOk : TD → TypeDesc → Bool
  | .int k, .int k' => k == k'
  | .bool, .bool => true
  | .str, .string => true
  | .slice e, .slice e' => e == e'
  | .struct fs, .struct fields => pairsEq fs (fields.toList.map fun f => (f.offset, f.type))
  | .ptr e, .pointer e' => e == e'
  | .array n e, .array n' e' => n == n' && e == e'
  | _, _ => false
def isAggV : Value → Bool
  | .agg _ => true
  | _ => false
def tiOk (P : Program) (t : TypeId) (i : TI) : Bool :=
  match P.info? t, P.underlying t with
  | some info, some d => match info.zero with
    | some z => info.size == i.size && info.bytes == i.bytes && z.cells.size == i.size && zeroOk i.zero z.cells.toList && (!i.isAgg || isAggV z) && descOk i.desc d && i.ty.size == i.size && decide (i.bytes ≤ 32768) && decide (i.size ≤ 256) && decide (0 < i.size)
    | none => false
  | _, _ => false
theorem zeroOk_spec : ∀ {cs : List Cell} {vs : List Value}, zeroOk cs vs = true → All2 (fun c v => absC v = some c) cs vs
  | [], [], _ => trivial
  | .int k n :: r, .int k' n' :: r', h => by
    simp only [zeroOk, Bool.and_eq_true, beq_iff_eq] at h
    obtain ⟨⟨rfl, rfl⟩, h⟩ := h
    exact ⟨rfl, zeroOk_spec h⟩
  | .bool b :: r, .bool b' :: r', h => by
    simp only [zeroOk, Bool.and_eq_true, beq_iff_eq] at h
    obtain ⟨rfl, h⟩ := h
    exact ⟨rfl, zeroOk_spec h⟩
  | .str s :: r, .string s' :: r', h => by
    simp only [zeroOk, Bool.and_eq_true, decide_eq_true_eq] at h
    obtain ⟨rfl, h⟩ := h
    exact ⟨rfl, zeroOk_spec h⟩
  | .nils :: r, v :: r', h => by
    unfold zeroOk at h
    split at h <;> first
      | (rename_i e1 e2; cases e1; cases e2; exact ⟨rfl, zeroOk_spec h⟩)
      | (rename_i e1 e2; cases e1)
      | cases h
      | (rename_i e1 _; cases e1)
theorem pairsEq_spec : ∀ {a b : List (Nat × TypeId)}, pairsEq a b = true → a = b
  | [], [], _ => rfl
  | x :: r, y :: r', h => by
    simp only [pairsEq, Bool.and_eq_true, beq_iff_eq] at h
    obtain ⟨⟨h1, h2⟩, h3⟩ := h
    rw [pairsEq_spec h3]
    congr 1
    exact Prod.ext h1 h2
theorem descOk_spec {a : TD} {d : TypeDesc} (h : descOk a d = true) : DescOK a d := by
  cases a <;> cases d <;> simp only [descOk, Bool.false_eq_true, beq_iff_eq] at h <;> simp only [DescOK]
  all_goals first
    | exact h
    | exact pairsEq_spec h
    | simpa using h
theorem tiOk_spec {P : Program} {t : TypeId} {i : TI} (h : tiOk P t i = true) : TIOK P t i := by
  unfold tiOk at h
  split at h
  · rename_i info d h1 h2
    split at h
    · rename_i z hz
      simp only [Bool.and_eq_true, beq_iff_eq, decide_eq_true_eq, Bool.or_eq_true, Bool.not_eq_true'] at h
      obtain ⟨⟨⟨⟨⟨⟨⟨⟨⟨a1, a2⟩, a3⟩, a4⟩, a5⟩, a6⟩, a7⟩, a8⟩, a9⟩, a10⟩ := h
      refine ⟨⟨info, z, h1, a1, a2, hz, a3, zeroOk_spec a4, fun ha => ?_⟩, ⟨d, h2, descOk_spec a6⟩, a7, a8, a9, a10⟩
      rcases a5 with a5 | a5
      · rw [ha] at a5; cases a5
      · cases z <;> simp only [isAggV, Bool.false_eq_true] at a5
        exact ⟨_, rfl⟩
    · cases h
  · cases h
def tabOk (P : Program) : List (TypeId × TI) → Bool
  | [] => true
  | x :: r => tiOk P x.1 x.2 && tabOk P r
theorem tabOk_spec {P : Program} : ∀ {tab : List (TypeId × TI)}, tabOk P tab = true → ∀ t i, tab.lookup t = some i → TIOK P t i
  | [], _, t, i, h => none_some h
  | (t', i') :: r, h, t, i, hl => by
    simp only [tabOk, Bool.and_eq_true] at h
    rw [List.lookup_cons] at hl
    by_cases e : t = t'
    · subst e
      simp at hl; subst hl
      exact tiOk_spec h.1
    · have : (t == t') = false := by simpa using e
      rw [this] at hl
      exact tabOk_spec h.2 t i hl

def ConsOK (P : Program) : List (FuncId × Con) → Prop
  | [] => True
  | x :: r => x.2.ok P x.1 ∧ ConsOK P r
theorem ConsOK.get {P : Program} : ∀ {l : List (FuncId × Con)}, ConsOK P l → ∀ f c, l.lookup f = some c → c.ok P f
  | [], _, f, c, h => none_some h
  | (f', c') :: r, h, f, c, hl => by
    rw [List.lookup_cons] at hl
    by_cases e : f = f'
    · subst e
      simp at hl; subst hl
      exact h.1
    · have : (f == f') = false := by simpa using e
      rw [this] at hl
      exact ConsOK.get h.2 f c hl

def MConsOK (P : Program) : List (FuncId × MCon) → Prop
  | [] => True
  | x :: r => x.2.ok P x.1 ∧ MConsOK P r
theorem MConsOK.get {P : Program} : ∀ {l : List (FuncId × MCon)}, MConsOK P l → ∀ f c, l.lookup f = some c → c.ok P f
  | [], _, f, c, h => none_some h
  | (f', c') :: r, h, f, c, hl => by
    rw [List.lookup_cons] at hl
    by_cases e : f = f'
    · subst e
      simp at hl; subst hl
      exact h.1
    · have : (f == f') = false := by simpa using e
      rw [this] at hl
      exact MConsOK.get h.2 f c hl

/-! ### Arguments -/
def flatTy : Ty → List CK
  | .int k => [.int k]
  | .bool => [.bool]
  | .str => [.str]
  | .unit => []
  | .slice e => [.sl (flatTy e)]
  | .ref _ => [.bool]
  | .clo _ _ => [.bool]
  | .pair a b => flatTy a ++ flatTy b
/-- Data without pointers and functions. -/
def Ty.plain : Ty → Bool
  | .slice e => e.plain
  | .pair a b => a.plain && b.plain
  | .ref _ => false
  | .clo _ _ => false
  | _ => true
def AllIn {α : Type} (p : α → Prop) (l : List α) : Prop := ∀ x ∈ l, p x
/-- What is known of data that came in. -/
def Wf : (T : Ty) → T.den → Prop
  | .int k, n => (Lit.int k n).wf = true
  | .bool, _ => True
  | .str, s => s.size ≤ maxLen
  | .unit, _ => True
  | .slice e, xs => List.length xs ≤ maxLen ∧ AllIn (Wf e) xs
  | .ref _, _ => True
  | .clo _ _, _ => True
  | .pair a b, x => Wf a x.1 ∧ Wf b x.2

theorem flatTy_len : ∀ (T : Ty), (flatTy T).length = T.size
  | .int _ => rfl
  | .bool => rfl
  | .str => rfl
  | .unit => rfl
  | .slice _ => rfl
  | .ref _ => rfl
  | .clo _ _ => rfl
  | .pair a b => by simp [flatTy, Ty.size, flatTy_len a, flatTy_len b]

theorem Has.split {w : World} {d : Nat} {l1 l2 : List CK} {cs : List Value} (h : Has w d (l1 ++ l2) cs) : ∃ c1 c2, cs = c1 ++ c2 ∧ Has w d l1 c1 ∧ Has w d l2 c2 := by
  have hl := h.1
  rw [List.length_append] at hl
  refine ⟨cs.take l1.length, cs.drop l1.length, (List.take_append_drop _ _).symm, ⟨by simp; omega, fun j ck u h1 h2 => ?_⟩, ⟨by simp; omega, fun j ck u h1 h2 => ?_⟩⟩
  · have hj := (List.getElem?_eq_some_iff.1 h1).1
    rw [List.getElem?_take_of_lt hj] at h2
    exact h.2 j ck u (by rw [List.getElem?_append_left hj]; exact h1) h2
  · rw [List.getElem?_drop] at h2
    exact h.2 (l1.length + j) ck u (by rw [List.getElem?_append_right (by omega)]; simpa using h1) h2

theorem has_data {w : World} : ∀ {T : Ty} {d : Nat} {cs : List Value}, T.plain = true → Has w d (flatTy T) cs → ∃ x, RepD w (fun p => p.block < w.heap.size) T x cs ∧ Wf T x
  | .int k, d, cs, _, h => by
    obtain ⟨v, cs', rfl, h1, h2⟩ := Has.cons h
    have := Has.nil h2; subst this
    obtain ⟨n, rfl, hw⟩ := One_int.1 h1
    exact ⟨n, rfl, hw⟩
  | .bool, d, cs, _, h => by
    obtain ⟨v, cs', rfl, h1, h2⟩ := Has.cons h
    have := Has.nil h2; subst this
    obtain ⟨b, rfl⟩ := One_bool.1 h1
    exact ⟨b, rfl, trivial⟩
  | .str, d, cs, _, h => by
    obtain ⟨v, cs', rfl, h1, h2⟩ := Has.cons h
    have := Has.nil h2; subst this
    obtain ⟨s, rfl, hs⟩ := One_str.1 h1
    exact ⟨s, rfl, hs⟩
  | .unit, d, cs, _, h => ⟨(), Has.nil h, trivial⟩
  | .pair a b, d, cs, hp, h => by
    simp only [Ty.plain, Bool.and_eq_true] at hp
    obtain ⟨c1, c2, rfl, h1, h2⟩ := Has.split h
    obtain ⟨x, k1, k2⟩ := has_data hp.1 h1
    obtain ⟨y, m1, m2⟩ := has_data hp.2 h2
    exact ⟨(x, y), ⟨c1, c2, rfl, k1, m1⟩, k2, m2⟩
  | .ref _, d, cs, hp, h => by cases hp
  | .clo _ _, d, cs, hp, h => by cases hp
  | .slice e, d, cs, hp, h => by
    obtain ⟨v, cs', rfl, h1, h2⟩ := Has.cons h
    have := Has.nil h2; subst this
    cases d with
    | zero => exact h1.elim
    | succ d =>
      obtain ⟨A, n, c, rfl, g1, g2, g3, g4⟩ := One_sl.1 h1
      cases A with
      | none =>
        obtain ⟨rfl, rfl⟩ := g3 rfl
        exact ⟨[], ⟨none, 0, [], rfl, Nat.le_refl _, Nat.zero_le _, rfl, .inl rfl⟩, Nat.zero_le _, fun x hx => by cases hx⟩
      | some ad =>
        have key : ∀ m, m ≤ n → ∃ (xs : List e.den) (us : List Value), xs.length = m ∧ RepL (RepD w (fun p => p.block < w.heap.size) e) xs us ∧ (∀ x ∈ xs, Wf e x) ∧ us.length = m * e.size ∧ ∀ (j : Nat) u, us[j]? = some u → w.cell? (ad.add j) = some u := by
          intro m
          induction m with
          | zero => intro _; exact ⟨[], [], rfl, rfl, fun x hx => (by cases hx), by simp, fun j u hu => by simp at hu⟩
          | succ m ih =>
            intro hm
            obtain ⟨xs, us, e1, e2, e3, e4, e5⟩ := ih (by omega)
            obtain ⟨cs, k1, k2, k3⟩ := g4 ad rfl m (by omega)
            obtain ⟨x, q1, q2⟩ := has_data (T := e) (d := d) (cs := cs) hp ⟨k1, fun j ck u a b => k3 j ck u a b⟩
            refine ⟨xs ++ [x], us ++ cs, by simp [e1], RepL.append e2 ⟨cs, [], by simp, q1, rfl⟩, ?_, ?_, ?_⟩
            · intro y hy
              rcases List.mem_append.1 hy with hy | hy
              · exact e3 y hy
              · simp at hy; subst hy; exact q2
            · rw [List.length_append, e4, k1, flatTy_len, Nat.add_mul]; omega
            · intro j u hu
              by_cases hj : j < us.length
              · rw [List.getElem?_append_left hj] at hu
                exact e5 j u hu
              · rw [List.getElem?_append_right (by omega)] at hu
                have := k2 (j - us.length) u hu
                rw [flatTy_len] at this
                rw [← this]
                congr 2
                omega
        obtain ⟨xs, us, e1, e2, e3, e4, e5⟩ := key n (Nat.le_refl _)
        refine ⟨xs, ⟨some ad, c, us, by rw [e1], by rw [e1]; exact g1, g2, e2, .inr ⟨ad, rfl, fun j u hu => ⟨e5 j u hu, ?_⟩⟩⟩, by rw [e1]; exact Nat.le_trans g1 g2, e3⟩
        exact World.block_lt_of_cell? _ _ (e5 j u hu)

def argShape : Ty → TypeDesc → Bool
  | .pair _ _, .struct _ => true
  | .int _, .int _ => true
  | .bool, .bool => true
  | .str, .string => true
  | .slice _, .slice _ => true
  | _, _ => false
def ParamOK (P : Program) (t : TypeId) (T : Ty) : Prop := flat P 8 t = some (flatTy T) ∧ ((P.underlying t).map fun d => argShape T d && T.plain) = some true
theorem arg_data {P : Program} {w : World} {t : TypeId} {T : Ty} {v : Value} (hp : ParamOK P t T) (h : ArgIs P w t v) : ∃ x, ValD w (fun p => p.block < w.heap.size) T x v ∧ Wf T x := by
  obtain ⟨h1, h2⟩ := hp
  obtain ⟨d, hd, hs⟩ := Option.map_eq_some_iff.1 h2
  rw [Bool.and_eq_true] at hs
  obtain ⟨hs, hpl⟩ := hs
  obtain ⟨x, k1, k2⟩ := has_data hpl (h.1 8 _ h1)
  refine ⟨x, ?_, k2⟩
  have hc := k1.cells (hdr := fun _ => none)
  unfold ValD
  cases T <;> cases d <;> simp only [argShape, Bool.false_eq_true] at hs
  case pair.struct fs =>
    obtain ⟨cs, rfl⟩ := h.2.1 _ hd
    exact ⟨cs.toList, by simp, by simpa only [Value.cells] using hc⟩
  case int.int k k' =>
    have := h.2.2 (.inl ⟨k', hd⟩)
    rw [this] at hc; exact hc.1
  case bool.bool =>
    have := h.2.2 (.inr (.inl hd))
    rw [this] at hc; exact hc.1
  case str.string =>
    have := h.2.2 (.inr (.inr (.inl hd)))
    rw [this] at hc; exact hc.1
  case slice.slice e e' =>
    have := h.2.2 (.inr (.inr (.inr ⟨e', hd⟩)))
    rw [this] at hc; exact hc.1
def ParamsOK (P : Program) : List TypeId → List Ty → Prop
  | [], [] => True
  | t :: ts, T :: Ts => ParamOK P t T ∧ ParamsOK P ts Ts
  | _, _ => False
def WfAll : (Ts : List Ty) → Dens Ts → Prop
  | [], _ => True
  | [T], x => Wf T x
  | T :: U :: Ts, x => Wf T x.1 ∧ WfAll (U :: Ts) x.2
theorem args_data {P : Program} {w : World} : ∀ {ts : List TypeId} {Ts : List Ty} {vs : List Value}, ParamsOK P ts Ts → vs.length = ts.length → (∀ (j : Nat) t v, ts[j]? = some t → vs[j]? = some v → ArgIs P w t v) → ∃ x, RepArgs w (fun p => p.block < w.heap.size) Ts x vs ∧ WfAll Ts x
  | [], [], vs, _, hl, _ => ⟨(), List.eq_nil_of_length_eq_zero hl, trivial⟩
  | [], _ :: _, _, h, _, _ => h.elim
  | _ :: _, [], _, h, _, _ => h.elim
  | t :: ts, [T], vs, h, hl, ha => by
    have hts : ts = [] := by
      cases ts with
      | nil => rfl
      | cons _ _ => exact h.2.elim
    subst hts
    obtain ⟨v, rfl⟩ : ∃ v, vs = [v] := by
      match vs, hl with
      | [v], _ => exact ⟨v, rfl⟩
    obtain ⟨x, k1, k2⟩ := arg_data h.1 (ha 0 t v rfl rfl)
    exact ⟨x, ⟨v, rfl, k1⟩, k2⟩
  | t :: ts, T :: U :: Ts, vs, h, hl, ha => by
    obtain ⟨v, r, rfl⟩ : ∃ v r, vs = v :: r := by
      match vs, hl with
      | v :: r, _ => exact ⟨v, r, rfl⟩
    obtain ⟨x, k1, k2⟩ := arg_data h.1 (ha 0 t v rfl rfl)
    obtain ⟨y, m1, m2⟩ := args_data (ts := ts) (Ts := U :: Ts) (vs := r) h.2 (by simpa using hl) (fun j t v a b => ha (j + 1) t v (by simpa using a) (by simpa using b))
    exact ⟨(x, y), ⟨v, r, rfl, k1, m1⟩, k2, m2⟩

/-- The core of a law's row: handed what the types allow, it returns true and leaves memory alone. -/
theorem law_coreL {P : Program} {f : FuncId} {ps : Array TypeId} {dom : List Ty} {F : Dens dom → Option Bool} (hok : Con.ok P f ⟨dom, [.d .bool], F⟩) (hp : ParamsOK P ps.toList dom) (hF : ∀ x, WfAll dom x → F x = some true) (W : World) (args : Array Value) (hs : args.size = ps.size)
    (ha : ∀ (j : Nat) t v, ps[j]? = some t → args[j]? = some v → ArgIs P W t v) (hl : Laid W) : Calls P f args W fun e W' => e = .returned (.bool true) ∧ Below W.heap.size W W' := by
  obtain ⟨x, h1, h2⟩ := args_data (w := W) (vs := args.toList) hp (by simpa using hs) (fun j t v a b => ha j t v (by simpa using a) (by simpa using b))
  have := hok.2 W (fun p => p.block < W.heap.size) args.toList x true hl (fun _ h => h) h1 (hF x h2)
  rw [Array.toArray_toList] at this
  refine this.mono ?_
  rintro e W' ⟨rs, hs, M', rfl, hE, hR, _⟩
  obtain ⟨v, rfl, hS, hD, _⟩ := hR
  have hv : v.oneCell' = true := hS
  have hc : v.cells = #[v] := by cases v <;> first | rfl | (simp [Value.oneCell'] at hv)
  have hD' : v.cells.toList = [.bool true] := hD
  rw [hc] at hD'
  simp at hD'
  exact ⟨by rw [hD']; rfl, hE⟩
end Rx
end Go.Proofs.YtonbgpliomhboaaGreatDoor

namespace Go.Proofs.YtonbgpliomhboaaGreatDoor
open Go.RowKit
namespace Rx

def eqCell : Cell → Cell → Option Bool
  | .int k a, .int k' b => if k = k' then some (a == b) else none
  | .bool a, .bool b => some (a == b)
  | .str a, .str b => some (a == b)
  | _, _ => none
theorem eqCells_cons {c c' : Cell} {r r' : List Cell} {b : Bool} (h : eqCells (c :: r) (c' :: r') = some b) : ∃ b1 b2, eqCell c c' = some b1 ∧ eqCells r r' = some b2 ∧ b = (b1 && b2) := by
  cases c <;> cases c' <;> simp only [eqCells] at h <;> try cases h
  case int.int k m k' n =>
    split at h
    · rename_i hk
      split at h
      · cases h; exact ⟨m == n, true, by simp [eqCell, hk], rfl, by simp⟩
      · obtain ⟨x, hx, h⟩ := Option.bind_eq_some_iff.1 h
        cases h; exact ⟨m == n, x, by simp [eqCell, hk], hx, rfl⟩
    · cases h
  case bool.bool m n =>
    split at h
    · cases h; exact ⟨_, true, rfl, rfl, by simp⟩
    · obtain ⟨x, hx, h⟩ := Option.bind_eq_some_iff.1 h
      cases h; exact ⟨_, x, rfl, hx, rfl⟩
  case str.str m n =>
    split at h
    · cases h; exact ⟨_, true, rfl, rfl, by simp⟩
    · obtain ⟨x, hx, h⟩ := Option.bind_eq_some_iff.1 h
      cases h; exact ⟨_, x, rfl, hx, rfl⟩
theorem eqCells_mk {c c' : Cell} {r r' : List Cell} {b1 b2 : Bool} (h1 : eqCell c c' = some b1) (h2 : eqCells r r' = some b2) : eqCells (c :: r) (c' :: r') = some (b1 && b2) := by
  cases c <;> cases c' <;> simp only [eqCell] at h1 <;> try cases h1
  case int.int k m k' n =>
    split at h1
    · rename_i hk
      cases h1
      simp only [eqCells, hk, if_true]
      split
      · simp only [eqCells] at h2; cases h2; simp
      · rw [h2]; rfl
    · cases h1
  case bool.bool m n =>
    simp only [eqCells]
    split
    · simp only [eqCells] at h2; cases h2; simp
    · rw [h2]; rfl
  case str.str m n =>
    simp only [eqCells]
    split
    · simp only [eqCells] at h2; cases h2; simp
    · rw [h2]; rfl
theorem eqCells_split : ∀ (k : Nat) {cs cs' : List Cell} {b : Bool}, eqCells cs cs' = some b → ∃ b1 b2, eqCells (cs.take k) (cs'.take k) = some b1 ∧ eqCells (cs.drop k) (cs'.drop k) = some b2 ∧ b = (b1 && b2)
  | 0, cs, cs', b, h => ⟨true, b, rfl, h, by simp⟩
  | k + 1, [], [], b, h => ⟨true, true, rfl, rfl, by simp only [eqCells] at h; cases h; rfl⟩
  | k + 1, [], _ :: _, b, h => by simp [eqCells] at h
  | k + 1, c :: _, [], b, h => by cases c <;> simp [eqCells] at h
  | k + 1, c :: r, c' :: r', b, h => by
    obtain ⟨b1, b2, h1, h2, rfl⟩ := eqCells_cons h
    obtain ⟨b3, b4, h3, h4, rfl⟩ := eqCells_split k h2
    exact ⟨b1 && b3, b4, eqCells_mk h1 h3, h4, by cases b1 <;> cases b3 <;> rfl⟩
theorem eqCells_len : ∀ {cs cs' : List Cell} {b : Bool}, eqCells cs cs' = some b → cs.length = cs'.length
  | [], [], _, _ => rfl
  | [], _ :: _, b, h => by simp [eqCells] at h
  | c :: _, [], b, h => by cases c <;> simp [eqCells] at h
  | c :: r, c' :: r', b, h => by
    obtain ⟨b1, b2, h1, h2, _⟩ := eqCells_cons h
    simp [eqCells_len h2]

/-- A struct's fields one behind the other. -/
def seqK (tab : List (TypeId × TI)) (eq : TypeId → Option (List EK)) : Nat → List (Nat × TypeId) → Option (Nat × List EK)
  | n, [] => some (n, [])
  | n, f :: fs => match tab.lookup f.2, eq f.2 with
    | some i, some ks => if f.1 = n ∧ ks.length = i.size then (seqK tab eq (n + i.size) fs).map fun r => (r.1, ks ++ r.2) else none
    | _, _ => none
def namesOk : List Field → Bool
  | [] => true
  | f :: fs => !(f.name == "_") && namesOk fs
def eqK (P : Program) (tab : List (TypeId × TI)) : Nat → TypeId → Option (List EK)
  | 0, _ => none
  | n + 1, t => match tab.lookup t with
    | some i => match i.desc with
      | .int k => some [.int k]
      | .bool => some [.bool]
      | .str => some [.str]
      | .struct fs => if !P.stoodInHeld t && namesOk (P.fieldsOf t).toList then (seqK tab (eqK P tab n) 0 fs).bind fun r => if r.1 = i.size then some r.2 else none else none
      | _ => none
    | none => none

section
variable {P : Program} {w : World} {M : Mem} {hdr : Nat → Option Value} {tab : List (TypeId × TI)}
theorem v1At_of {i : TI} {cs : List Cell} {off : Nat} (h : off + i.size ≤ cs.length) (h1 : i.isAgg = false → i.size = 1) : ∃ x, v1At i cs off = some x ∧ x.cells = (cs.drop off).take i.size ∧ (i.isAgg = true → ∃ r, x = .agg r) ∧ (i.isAgg = false → ∃ c, x = .one c) := by
  have hl : ((cs.drop off).take i.size).length = i.size := by simp; omega
  unfold v1At
  simp only [hl, if_true]
  cases ha : i.isAgg with
  | true => exact ⟨_, rfl, rfl, fun _ => ⟨_, rfl⟩, fun h => by cases h⟩
  | false =>
    rw [h1 ha] at hl ⊢
    obtain ⟨c, hc⟩ : ∃ c, (cs.drop off).take 1 = [c] := by
      match (cs.drop off).take 1, hl with
      | [c], _ => exact ⟨c, rfl⟩
    rw [hc]
    exact ⟨.one c, rfl, rfl, fun h => (by cases h), fun _ => ⟨c, rfl⟩⟩

theorem kindsOk_len : ∀ {ks : List EK} {cs : List Cell}, kindsOk ks cs = true → ks.length = cs.length
  | [], [], _ => rfl
  | [], _ :: _, h => by simp [kindsOk] at h
  | .int _ :: r, [], h => by simp [kindsOk] at h
  | .bool :: r, [], h => by simp [kindsOk] at h
  | .str :: r, [], h => by simp [kindsOk] at h
  | .int _ :: r, c :: cs, h => by
    cases c <;> simp only [kindsOk, Bool.false_eq_true, Bool.and_eq_true] at h
    simp [kindsOk_len h.2]
  | .bool :: r, c :: cs, h => by
    cases c <;> simp only [kindsOk, Bool.false_eq_true] at h
    simp [kindsOk_len h]
  | .str :: r, c :: cs, h => by
    cases c <;> simp only [kindsOk, Bool.false_eq_true] at h
    simp [kindsOk_len h]
theorem kindsOk_split : ∀ {ks ks' : List EK} {cs : List Cell}, kindsOk (ks ++ ks') cs = true → kindsOk ks (cs.take ks.length) = true ∧ kindsOk ks' (cs.drop ks.length) = true
  | [], ks', cs, h => ⟨rfl, h⟩
  | .int _ :: r, _, [], h => by simp [kindsOk] at h
  | .bool :: r, _, [], h => by simp [kindsOk] at h
  | .str :: r, _, [], h => by simp [kindsOk] at h
  | .int _ :: r, _, c :: cs, h => by
    cases c <;> simp only [List.cons_append, kindsOk, Bool.false_eq_true, Bool.and_eq_true] at h
    obtain ⟨h1, h2⟩ := kindsOk_split h.2
    exact ⟨by simp only [List.length_cons, List.take_succ_cons, kindsOk, Bool.and_eq_true]; exact ⟨h.1, h1⟩, h2⟩
  | .bool :: r, _, c :: cs, h => by
    cases c <;> simp only [List.cons_append, kindsOk, Bool.false_eq_true] at h
    obtain ⟨h1, h2⟩ := kindsOk_split h
    exact ⟨h1, h2⟩
  | .str :: r, _, c :: cs, h => by
    cases c <;> simp only [List.cons_append, kindsOk, Bool.false_eq_true] at h
    obtain ⟨h1, h2⟩ := kindsOk_split h
    exact ⟨h1, h2⟩

def EqRun (P : Program) (w : World) (M : Mem) (hdr : Nat → Option Value) (tab : List (TypeId × TI)) (n : Nat) (t : TypeId) (ks : List EK) : Prop := ∀ (i : TI) (d : Nat) (x x' : V1) (v v' : Value) (b : Bool), tab.lookup t = some i → n ≤ d → RepV1 w M hdr x v → RepV1 w M hdr x' v' → (i.isAgg = true → (∃ r, x = .agg r) ∧ ∃ r, x' = .agg r) →
  (i.isAgg = false → (∃ c, x = .one c) ∧ ∃ c, x' = .one c) → kindsOk ks x.cells = true → eqCells x.cells x'.cells = some b → (Op.equalIn d t v v').run P w = .ok b w

theorem seqK_le {eq : TypeId → Option (List EK)} : ∀ (fds : List (Nat × TypeId)) (c : Nat) (r : Nat × List EK), seqK tab eq c fds = some r → r.1 = c + r.2.length
  | [], c, r, h => by simp only [seqK] at h; cases h; rfl
  | g :: fds, c, r, h => by
    simp only [seqK] at h
    split at h
    · split at h
      · rename_i i ks hi hks hc
        obtain ⟨q, hq, h⟩ := Option.map_eq_some_iff.1 h
        cases h
        have := seqK_le _ _ _ hq
        simp only [List.length_append]
        omega
      · cases h
    · cases h

theorem eqFields_run (htab : ∀ t i, tab.lookup t = some i → TIOK P t i) (h1 : ∀ t i, tab.lookup t = some i → i.isAgg = false → i.size = 1) {n d : Nat} (hd : n ≤ d) {cs cs' : List Cell} {vs vs' : List Value} (hv : All2 (RepC w M hdr) cs vs) (hv' : All2 (RepC w M hdr) cs' vs') (hll : cs.length = cs'.length) {eq : TypeId → Option (List EK)} (hE : ∀ t ks, eq t = some ks → EqRun P w M hdr tab n t ks) :
    ∀ (fds : List Field) (cur : Nat) (r : Nat × List EK) (b : Bool), seqK tab eq cur (fds.map fun f => (f.offset, f.type)) = some r → r.1 = cs.length → namesOk fds = true → kindsOk r.2 (cs.drop cur) = true → eqCells (cs.drop cur) (cs'.drop cur) = some b → (Op.eqFields d vs.toArray vs'.toArray fds).run P w = .ok b w
  | [], cur, r, b, hs, hm, hn, hk, hb => by
    simp only [List.map_nil, seqK] at hs
    cases hs
    have hz : cs.drop cur = [] := List.drop_eq_nil_of_le (by simp only at hm; omega)
    have hz' : cs'.drop cur = [] := List.drop_eq_nil_of_le (by simp only at hm; omega)
    rw [hz, hz'] at hb
    simp only [eqCells] at hb
    cases hb
    rfl
  | f :: fds, cur, r, b, hs, hm, hn, hk, hb => by
    simp only [List.map_cons, seqK] at hs
    split at hs
    · rename_i i ks hi hks
      split at hs
      · rename_i hc
        obtain ⟨hoff, hsz⟩ := hc
        obtain ⟨q, hq, hs⟩ := Option.map_eq_some_iff.1 hs
        cases hs
        have hle := seqK_le _ _ _ hq
        simp only at hm
        simp only [namesOk, Bool.and_eq_true] at hn
        obtain ⟨k1, k2⟩ := kindsOk_split hk
        obtain ⟨b1, b2, e1, e2, rfl⟩ := eqCells_split i.size hb
        rw [hsz] at k1 k2
        rw [List.drop_drop] at k2 e2
        rw [List.drop_drop] at e2
        have ih := eqFields_run htab h1 hd hv hv' hll hE fds (cur + i.size) q b2 hq hm hn.2 k2 e2
        obtain ⟨x, x1, x2, x3, x4⟩ := v1At_of (i := i) (cs := cs) (off := cur) (by omega) (h1 _ _ hi)
        obtain ⟨y, y1, y2, y3, y4⟩ := v1At_of (i := i) (cs := cs') (off := cur) (by omega) (h1 _ _ hi)
        obtain ⟨v, p1, p2⟩ := run_part (htab _ _ hi) x1 hv
        obtain ⟨v', q1, q2⟩ := run_part (htab _ _ hi) y1 hv'
        have hrun := hE f.type ks hks i d x y v v' b1 hi hd p2 q2 (fun h => ⟨x3 h, y3 h⟩) (fun h => ⟨x4 h, y4 h⟩) (by rw [x2]; exact k1) (by rw [x2, y2]; exact e1)
        rw [hoff.symm] at p1 q1
        have hn' : f.name ≠ "_" := by have := hn.1; simpa using this
        simp only [Op.eqFields, if_pos hn', Sem.run_bind, p1, q1, hrun, Result.andThen_ok, Sem.run_ite, ih]
        cases b1 <;> simp
      · cases hs
    · cases hs

theorem eqRun (htab : ∀ t i, tab.lookup t = some i → TIOK P t i) (h1 : ∀ t i, tab.lookup t = some i → i.isAgg = false → i.size = 1) : ∀ (n : Nat) (t : TypeId) (ks : List EK), eqK P tab n t = some ks → EqRun P w M hdr tab n t ks
  | 0, t, ks, h => by simp [eqK] at h
  | n + 1, t, ks, h => by
    intro i d x x' v v' b hi hd hx hx' ha hna hk hb
    obtain ⟨d, rfl⟩ : ∃ e, d = e + 1 := ⟨d - 1, by omega⟩
    simp only [eqK, hi] at h
    have leaf : i.isAgg = false → ∃ c c' , x = .one c ∧ x' = .one c' ∧ kindsOk ks [c] = true ∧ eqCell c c' = some b ∧ RepC w M hdr c v ∧ RepC w M hdr c' v' := by
      intro hag
      obtain ⟨⟨c, rfl⟩, ⟨c', rfl⟩⟩ := hna hag
      obtain ⟨b1, b2, e1, e2, e3⟩ := eqCells_cons (r := []) (r' := []) hb
      simp only [eqCells] at e2; cases e2
      rw [Bool.and_true] at e3; subst e3
      exact ⟨c, c', rfl, rfl, hk, e1, hx, hx'⟩
    split at h
    · rename_i k hdsc
      cases h
      obtain ⟨c, c', rfl, rfl, e1, e2, e3, e4⟩ := leaf (by simp [TI.isAgg, hdsc])
      cases c <;> simp only [kindsOk, Bool.false_eq_true] at e1
      cases c' <;> simp only [eqCell] at e2 <;> try cases e2
      split at e2
      · rename_i hkk; subst hkk
        cases e2
        simp only [RepC] at e3 e4
        subst e3; subst e4
        exact run_equalIn_int w d t _ _ _ _ ((htab t i hi).int hdsc)
      · cases e2
    · rename_i hdsc
      cases h
      obtain ⟨c, c', rfl, rfl, e1, e2, e3, e4⟩ := leaf (by simp [TI.isAgg, hdsc])
      cases c <;> simp only [kindsOk, Bool.false_eq_true] at e1
      cases c' <;> simp only [eqCell] at e2 <;> try cases e2
      simp only [RepC] at e3 e4
      subst e3; subst e4
      have hu : P.underlying t = some .bool := by
        obtain ⟨dd, u1, u2⟩ := (htab t i hi).und
        rw [hdsc] at u2
        cases dd <;> simp [DescOK] at u2
        exact u1
      exact run_equalIn_bool' w d t _ _ hu
    · rename_i hdsc
      cases h
      obtain ⟨c, c', rfl, rfl, e1, e2, e3, e4⟩ := leaf (by simp [TI.isAgg, hdsc])
      cases c <;> simp only [kindsOk, Bool.false_eq_true] at e1
      cases c' <;> simp only [eqCell] at e2 <;> try cases e2
      simp only [RepC] at e3 e4
      subst e3; subst e4
      rw [run_equalIn_string (P := P) w d t _ _ ((htab t i hi).str hdsc), ← beq_toListBytes]
    · rename_i fs hdsc
      split at h
      · rename_i hg
        rw [Bool.and_eq_true] at hg
        obtain ⟨r, hr, h⟩ := Option.bind_eq_some_iff.1 h
        split at h
        · rename_i hsz
          cases h
          obtain ⟨⟨cs, rfl⟩, ⟨cs', rfl⟩⟩ := ha (by simp [TI.isAgg, hdsc])
          obtain ⟨vs, rfl, hv⟩ := hx
          obtain ⟨vs', rfl, hv'⟩ := hx'
          obtain ⟨fields, hu, rfl⟩ := (htab t i hi).struct hdsc
          have hf : P.fieldsOf t = fields := by simp [Program.fieldsOf, hu]
          have hkl := kindsOk_len hk
          have hrl := seqK_le _ _ _ hr
          rw [run_equalIn_struct w d t _ _ (by rw [hf]; exact hu) (by simpa using hg.1), hf]
          rw [hf] at hg
          have hkl' : r.2.length = cs.length := hkl
          exact eqFields_run htab h1 (by omega) hv hv' (eqCells_len hb) (fun t ks ht => eqRun htab h1 n t ks ht) fields.toList 0 r b hr (by omega) hg.2 hk hb
        · cases h
      · cases h
    · cases h

/-- Types of one cell. -/
def oneOk : List (TypeId × TI) → Bool
  | [] => true
  | x :: r => (x.2.isAgg || x.2.size == 1) && oneOk r
theorem oneOk_spec : ∀ {tab : List (TypeId × TI)}, oneOk tab = true → ∀ t i, tab.lookup t = some i → i.isAgg = false → i.size = 1
  | [], _, t, i, h => none_some h
  | (t', i') :: r, h, t, i, hl => by
    simp only [oneOk, Bool.and_eq_true] at h
    rw [List.lookup_cons] at hl
    by_cases e : t = t'
    · subst e
      simp at hl; subst hl
      intro ha
      have := h.1
      rw [ha] at this
      simpa using this
    · have : (t == t') = false := by simpa using e
      rw [this] at hl
      exact oneOk_spec h.2 t i hl
def eksEq : List EK → List EK → Bool
  | [], [] => true
  | .int k :: r, .int k' :: r' => k == k' && eksEq r r'
  | .bool :: r, .bool :: r' => eksEq r r'
  | .str :: r, .str :: r' => eksEq r r'
  | _, _ => false
theorem eksEq_spec : ∀ {a b : List EK}, eksEq a b = true → a = b
  | [], [], _ => rfl
  | .int k :: r, .int k' :: r', h => by
    simp only [eksEq, Bool.and_eq_true, beq_iff_eq] at h
    rw [h.1, eksEq_spec h.2]
  | .bool :: r, .bool :: r', h => by rw [eksEq_spec (a := r) (b := r') h]
  | .str :: r, .str :: r', h => by rw [eksEq_spec (a := r) (b := r') h]
def eqsOk (P : Program) (tab : List (TypeId × TI)) : List (TypeId × List EK) → Bool
  | [] => true
  | x :: r => !P.eqGuardType P.depth x.1 && (match eqK P tab 8 x.1, tab.lookup x.1 with | some ks, some i => eksEq ks x.2 && i.isAgg | _, _ => false) && eqsOk P tab r
theorem eqsOk_spec (htab : ∀ t i, tab.lookup t = some i → TIOK P t i) (h1 : ∀ t i, tab.lookup t = some i → i.isAgg = false → i.size = 1) : ∀ {l : List (TypeId × List EK)}, eqsOk P tab l = true → ∀ t ks, l.lookup t = some ks → StructEqOK P t ks
  | [], _, t, i, h => none_some h
  | (t', ks') :: r, h, t, ks, hl => by
    simp only [eqsOk, Bool.and_eq_true] at h
    rw [List.lookup_cons] at hl
    by_cases e : t = t'
    · subst e
      simp at hl; subst hl
      obtain ⟨⟨g1, g2⟩, _⟩ := h
      split at g2
      · rename_i ks i hks hi
        rw [Bool.and_eq_true] at g2
        have hk' := eksEq_spec g2.1
        subst hk'
        intro w M hdr x y cs cs' vs vs' b hk hv hv' hb
        have g1' : P.eqGuardType P.depth t = false := by simpa using g1
        refine ⟨run_eqGuard_agg w _ t x y _ _ g1', run_eqGuard_agg w _ t x y _ _ g1', ?_⟩
        show (Op.equalIn Op.maxDepth t _ _).run P w = _
        exact eqRun (w := w) (M := M) (hdr := hdr) htab h1 8 t ks hks i Op.maxDepth (.agg cs) (.agg cs') _ _ b hi (by decide) ⟨vs, rfl, hv⟩ ⟨vs', rfl, hv'⟩ (fun _ => ⟨⟨_, rfl⟩, ⟨_, rfl⟩⟩) (fun h => by rw [g2.2] at h; cases h) hk hb
      · cases g2
    · have : (t == t') = false := by simpa using e
      rw [this] at hl
      exact eqsOk_spec htab h1 h.2 t ks hl
end
end Rx
end Go.Proofs.YtonbgpliomhboaaGreatDoor

namespace Go.Proofs.YtonbgpliomhboaaGreatDoor
open Go.RowKit
namespace Rx

section
variable {P : Program} {E : Env}
end
end Rx
end Go.Proofs.YtonbgpliomhboaaGreatDoor
