/- From the evaluator's run to the function's contract. No conditions. -/
import Derived.Test.YthfgpnpoocepeaaGreatRxN
namespace Go.Proofs.YthfgpnpoocepeaaGreat
open Go.RowKit
namespace Rx

section
variable {P : Program} {W : WX} {M0 : Mem} {S : St} {hdr : Nat → Option Value} {inn : Nat → List Nat} {M : Mem} {a : Act} {w : World} {E : Env} {R : Type}

theorem takeRV_rep (h : Good W M0 S hdr inn M a w) {rsA dsA : List Nat} (hdis : ∀ b ∈ rsA, b ∉ dsA) {T : RTy} {y : V1} {x : T.den} {rs ds : List Nat} {v : Value} (hk : takeRV S.heap T y = some (x, [], rs, ds)) (hv : RepV1 w M hdr y v) (hr : ∀ b ∈ rs, b ∈ rsA) (hd : ∀ b ∈ ds, b ∈ dsA) :
    ShapeR T v ∧ ∃ hs, RepR (W.fresh 0) w (plusMem M S inn dsA) T x v.cells.toList hs ∧ HS S hdr inn rs hs := by
  unfold takeRV at hk
  split at hk
  · rename_i hs
    refine ⟨shapeR_of hs hv, ?_⟩
    obtain ⟨v1, v2, h1, e, a1, a2, a3⟩ := takeR_rep h hdis hk (RepV1.cells hv) hr hd
    cases a2.nil'
    rw [List.append_nil] at e
    rw [e]
    exact ⟨h1, a1, a3⟩
  · cases hk

theorem resD_rep (h : Good W M0 S hdr inn M a w) {rsA dsA : List Nat} (hdis : ∀ b ∈ rsA, b ∉ dsA) : ∀ {Ts : List RTy} {ys : List V1} {x : RDens Ts} {rs ds : List Nat} {vs : List Value}, resD S.heap Ts ys = some (x, rs, ds) → All2 (RepV1 w M hdr) ys vs → (∀ b ∈ rs, b ∈ rsA) → (∀ b ∈ ds, b ∈ dsA) →
    ∃ hs, RepRs (W.fresh 0) w (plusMem M S inn dsA) Ts x vs hs ∧ HS S hdr inn rs hs
  | [], [], x, rs, ds, vs, hk, hc, _, _ => by
    have hk' : (some ((), ([] : List Nat), ([] : List Nat))) = some (x, rs, ds) := hk
    cases hk'
    exact ⟨[], ⟨hc.nil', rfl⟩, rfl⟩
  | [], _ :: _, _, _, _, _, hk, _, _, _ => none_some hk
  | [T], [], _, _, _, _, hk, _, _, _ => none_some hk
  | [T], _ :: _ :: _, _, _, _, _, hk, _, _, _ => none_some hk
  | [T], [y], x, rs, ds, vs, hk, hc, hr, hd => by
    have hk' : ((takeRV S.heap T y).bind fun x => match x.2.1 with
      | [] => some (x.1, x.2.2.1, x.2.2.2)
      | _ => none) = some (x, rs, ds) := hk
    obtain ⟨z, hz, hk'⟩ := Option.bind_eq_some_iff.1 hk'
    obtain ⟨v, rfl, hv⟩ := hc.one'
    split at hk'
    · rename_i hn
      cases hk'
      obtain ⟨z1, z2, z3, z4⟩ := z
      simp only at hn; subst hn
      obtain ⟨s1, hs, s2, s3⟩ := takeRV_rep h hdis hz hv hr hd
      exact ⟨hs, ⟨v, rfl, s1, s2⟩, s3⟩
    · cases hk'
  | T :: U :: Ts, [], _, _, _, _, hk, _, _, _ => none_some hk
  | T :: U :: Ts, y :: r, x, rs, ds, vs, hk, hc, hr, hd => by
    have hk' : ((takeRV S.heap T y).bind fun x => match x.2.1 with
      | [] => (resD S.heap (U :: Ts) r).bind fun y => some ((x.1, y.1), x.2.2.1 ++ y.2.1, x.2.2.2 ++ y.2.2)
      | _ => none) = some (x, rs, ds) := hk
    obtain ⟨z, hz, hk'⟩ := Option.bind_eq_some_iff.1 hk'
    obtain ⟨v, us, rfl, hv, hu⟩ := hc.cons'
    split at hk'
    · rename_i hn
      obtain ⟨q, hq, hk'⟩ := Option.bind_eq_some_iff.1 hk'
      cases hk'
      obtain ⟨z1, z2, z3, z4⟩ := z
      simp only at hn; subst hn
      obtain ⟨s1, h1, s2, s3⟩ := takeRV_rep h hdis hz hv (fun b hb => hr b (List.mem_append.2 (.inl hb))) (fun b hb => hd b (List.mem_append.2 (.inl hb)))
      obtain ⟨h2, t1, t2⟩ := resD_rep h hdis (x := q.1) (rs := q.2.1) (ds := q.2.2) hq hu (fun b hb => hr b (List.mem_append.2 (.inr hb))) (fun b hb => hd b (List.mem_append.2 (.inr hb)))
      exact ⟨h1 ++ h2, ⟨v, us, h1, h2, rfl, rfl, s1, s2, t1⟩, s3.append t2⟩
    · cases hk'

theorem RepRs.base {w : World} {M : Mem} {b b' : Nat → Prop} (hb : ∀ g, b g → b' g) : ∀ {Ts : List RTy} {x : RDens Ts} {rs : List Value} {hs : List Hd}, RepRs b w M Ts x rs hs → RepRs b' w M Ts x rs hs
  | [], _, _, _, h => h
  | [T], x, rs, hs, ⟨v, h1, h2, h3⟩ => ⟨v, h1, h2, RepR.base hb h3⟩
  | T :: U :: Ts, x, rs, hs, ⟨v, r, h1, h2, e1, e2, h3, ha, hb'⟩ => ⟨v, r, h1, h2, e1, e2, h3, RepR.base hb ha, RepRs.base hb hb'⟩

def resRun (tm : Array Value) : ResultVar → Sem Value
  | .tmp t => pure (tm.getD t undef)
  | .cell q t => do loadVar t (← asAddr (tm.getD q undef))
theorem resV_rep (hE : EnvOK P E) (h : Good W M0 S hdr inn M a w) {rv : ResultVar} {y : V1} (hk : resV E S rv = some y) : ∃ v, (resRun a.tmps rv).run P w = .ok v w ∧ RepV1 w M hdr y v := by
  cases rv with
  | tmp t =>
    simp only [resV] at hk
    split at hk
    · rename_i v hv
      cases hk
      have := h.tm t
      rw [hv] at this
      exact ⟨_, rfl, this⟩
    · cases hk
  | cell q t =>
    simp only [resV] at hk
    split at hk
    · rename_i b off i hv hi
      split at hk
      · rename_i ty cs fz hb
        have := h.tm q
        rw [hv] at this
        obtain ⟨g, hh, hval⟩ := this
        obtain ⟨v0, hv0, hB⟩ := h.hp b _ (blkAt_some hb)
        obtain ⟨g', vs, rfl, _, h1, h2, h3, h4⟩ := hB
        rw [hh] at hv0
        simp at hv0; subst hv0
        obtain ⟨v, k1, k2⟩ := load_rep (P := P) (ad := ⟨g, 0, none⟩) (hE.tab _ _ hi) hk h3 (fun j u hu => by rw [add_zero_block, heap_cell h2]; simpa using hu)
        rw [add_zero_block] at k1
        refine ⟨v, ?_, k2⟩
        have hval' : a.tmps.getD q undef = .pointer (some ⟨g, off, none⟩) := hval
        simp only [resRun, hval']
        simpa [Instr.loadAt, Instr.sureAddr, asAddr] using k1
      · cases hk
    · cases hk

theorem results_rep (hE : EnvOK P E) (h : Good W M0 S hdr inn M a w) {fn : Func} {ys : List V1} (hk : fn.results.toList.mapM (resV E S) = some ys) : ∃ vs, (results fn a.tmps).run P w = .ok (retOf vs) w ∧ All2 (RepV1 w M hdr) ys vs := by
  have key : ∀ (l : List ResultVar) (ys : List V1), l.mapM (resV E S) = some ys → ∃ vs : List Value, (l.mapM (resRun a.tmps)).run P w = .ok vs w ∧ All2 (RepV1 w M hdr) ys vs := by
    intro l
    induction l with
    | nil => intro ys hy; simp at hy; subst hy; exact ⟨[], by simp, trivial⟩
    | cons x l ih =>
      intro ys hy
      simp only [List.mapM_cons, Option.bind_eq_bind, Option.pure_def] at hy
      obtain ⟨y, hy1, hy⟩ := Option.bind_eq_some_iff.1 hy
      obtain ⟨ys', hy2, hy⟩ := Option.bind_eq_some_iff.1 hy
      cases hy
      obtain ⟨v, k1, k2⟩ := resV_rep hE h hy1
      obtain ⟨vs, m1, m2⟩ := ih ys' hy2
      refine ⟨v :: vs, ?_, k2, m2⟩
      simp only [List.mapM_cons, Sem.run_bind, k1, Result.andThen_ok, m1, Sem.run_pure]
  obtain ⟨vs, k1, k2⟩ := key _ _ hk
  refine ⟨vs, ?_, k2⟩
  have e : results fn a.tmps = (do let us ← fn.results.mapM (resRun a.tmps); pure (if h : us.size = 1 then us[0] else .tuple us)) := rfl
  have fin : (if h : vs.toArray.size = 1 then vs.toArray[0] else Value.tuple vs.toArray) = retOf vs := by
    match vs with
    | [] => rfl
    | [v] => rfl
    | v :: u :: r => rfl
  rw [e, Array.mapM_eq_mapM_toList]
  simp only [map_eq_pure_bind, bind_assoc, pure_bind, Sem.run_bind, k1, Result.andThen_ok, Sem.run_pure, fin]

/-! ### Arguments -/
theorem args_len : ∀ (Ts : List Ty) (x : Dens Ts), (argVs Ts x).length = Ts.length
  | [], _ => rfl
  | [_], _ => rfl
  | _ :: U :: Ts, x => by
    show (argVs (U :: Ts) x.2).length + 1 = _
    rw [args_len (U :: Ts) x.2]; rfl
theorem args_rep {hdr : Nat → Option Value} : ∀ {Ts : List Ty} {x : Dens Ts} {vs : List Value}, RepArgs w M Ts x vs → All2 (RepV1 w M (fun _ => none)) (argVs Ts x) vs
  | [], _, vs, h => by have : vs = [] := h; subst this; trivial
  | [T], x, vs, ⟨v, e, h⟩ => by subst e; exact .one h
  | T :: U :: Ts, x, vs, ⟨v, r, e, h1, h2⟩ => by subst e; exact ⟨h1, args_rep (hdr := hdr) h2⟩

/-- The run from values that are true of the arguments. -/
theorem fn_from {f : FuncId} {fn : Func} {cd : Code} {cod : List RTy} {M : Mem} {w : World} {vs : List Value} {vs0 : List V1} {nd : Nat} {y : RDens cod} (hE : EnvOK P E) (hf : P.funcs[f]? = some fn) (hb : fn.body = some cd)
    (hl : AllLoops P E fn.ntmps (loopsOf cd)) (hld : Laid w) (hM : ∀ p, M p → p.block < w.heap.size) (hA2 : All2 (RepV1 w M (fun _ => none)) vs0 vs) (hnd : vs0.length = nd)
    (hr : exec E fn.ntmps cd ⟨vs0.map .v ++ List.replicate (fn.ntmps - nd) .undef, []⟩ (fun e S => match e with
      | .normal => finish E fn.results.toList cod S
      | .ret => finish E fn.results.toList cod S
      | .exit _ => none) = some y) :
    Calls P f vs.toArray w fun e w' => ∃ rs hs M', e = .returned (retOf rs) ∧ Ext w w' ∧ RepRs (fun g => w.heap.size ≤ g) w' M' cod y rs hs ∧ (gsOf hs).Nodup ∧ ∀ p, M' p → (M p ∨ w.heap.size ≤ p.block) ∧ p.block < w'.heap.size ∧ p.block ∉ gsOf hs := by
  have hvl : vs.length = nd := by rw [← hA2.len, hnd]
  refine calls_of_wp hf hb ?_
  have h0 : Good ⟨w, fun _ => [], fun _ => none, hld, fun _ _ h => (by cases h), fun _ => False, fun _ h => h.elim⟩ M ⟨vs0.map .v ++ List.replicate (fn.ntmps - nd) .undef, []⟩ (fun _ => none) (fun _ => []) M { tmps := vs.toArray ++ Array.replicate (fn.ntmps - vs.toArray.size) undef, defers := [] } w := by
    refine ⟨.ofExt (Ext.refl w), rfl, ?_, fun t => ?_, fun b B hb => none_some hb, fun _ _ => rfl, fun b b' B B' g _ hb => none_some hb, hM, fun p hp => .inl hp, fun b B hb => none_some hb⟩
    · simp [hnd, hvl]
    · by_cases ht : t < vs.length
      · have hta : t < (vs0.map AV.v).length := by simp [hnd]; omega
        have hta' : t < vs0.length := by simpa using hta
        have hgx : vs0[t]? = some vs0[t] := List.getElem?_eq_getElem hta'
        obtain ⟨v, hv1, hv2⟩ := hA2.get hgx
        rw [List.getElem?_append_left hta, List.getElem?_map, hgx]
        have : (vs.toArray ++ Array.replicate (fn.ntmps - vs.toArray.size) undef).getD t undef = v := by
          have h1 : (vs.toArray ++ Array.replicate (fn.ntmps - vs.toArray.size) undef)[t]? = some v := by
            rw [Array.getElem?_append_left (by simpa using ht)]
            simpa using hv1
          rw [Array.getD_eq_getD_getElem?, h1]; rfl
        rw [this]
        exact hv2
      · have e1 : ((vs0.map AV.v ++ List.replicate (fn.ntmps - nd) AV.undef)[t]?).getD .undef = .undef := by
          rw [List.getElem?_append_right (by simp [hnd]; omega), List.getElem?_replicate]
          split <;> rfl
        rw [e1]; trivial
  refine exec_sound (W := ⟨w, fun _ => [], fun _ => none, hld, fun _ _ h => (by cases h), fun _ => False, fun _ h => h.elim⟩) (M0 := M) hE cd _ _ _ w _ hl.get hr ⟨_, _, _, h0⟩ ?_
  intro e S' a' w' hk hG
  have done : finish E fn.results.toList cod S' = some y → a'.defers = [] ∧ ∃ v, (results fn a'.tmps).run P w' = .ok v w' ∧ ∃ rs hs M', Ending.returned v = .returned (retOf rs) ∧ Ext w w' ∧ RepRs (fun g => w.heap.size ≤ g) w' M' cod y rs hs ∧ (gsOf hs).Nodup ∧
      ∀ p, M' p → (M p ∨ w.heap.size ≤ p.block) ∧ p.block < w'.heap.size ∧ p.block ∉ gsOf hs := by
    intro hfin
    obtain ⟨hdr, inn, M1, g⟩ := hG
    unfold finish at hfin
    split at hfin
    · rename_i ys hys
      obtain ⟨q, hq, hfin⟩ := Option.bind_eq_some_iff.1 hfin
      split at hfin
      · rename_i hok
        cases hfin
        simp only [Bool.and_eq_true] at hok
        obtain ⟨vs', k1, k2⟩ := results_rep hE g hys
        have hdis : ∀ b ∈ q.2.1, b ∉ q.2.2 := fun b hb => disj_mem hok.1.2 hb
        obtain ⟨hs, m1, m2⟩ := resD_rep g hdis (x := q.1) (rs := q.2.1) (ds := q.2.2) hq k2 (fun _ h => h) (fun _ h => h)
        refine ⟨g.nod, _, k1, vs', hs, plusMem M1 S' inn q.2.2, rfl, g.ext.toExt (fun _ hx => hx.elim (fun ⟨_, h⟩ => by cases h) id), RepRs.base (fun g hg => (hg.1 (by decide)).resolve_right id) m1, m2.nodup g (noDup_spec hok.1.1), fun p hp => ?_⟩
        have hfz := g.freeze q.2.2 hok.2
        refine ⟨(hfz.mo p hp).imp id fun h => h.resolve_right id, hfz.ml p hp, fun hm => ?_⟩
        obtain ⟨b, hb1, hb3, B, hb4, hz⟩ := m2.mem _ hm
        exact g.plus_not (ds := q.2.2) hb4 (by rw [hz]; decide) hb3 (hdis b hb1) p hp rfl
      · cases hfin
    · cases hfin
  cases e with
  | normal =>
    obtain ⟨d1, v, d2, d3⟩ := done hk
    exact ⟨d1, v, d2, d3⟩
  | ret =>
    obtain ⟨d1, v, d2, d3⟩ := done hk
    exact ⟨d1, v, d2, d3⟩
  | exit i => cases hk
/-- THE FUNCTION: what the evaluator makes of the code is what a call returns. -/
theorem fn_ok {f : FuncId} {fn : Func} {cd : Code} {con : Con} (hE : EnvOK P E) (hf : P.funcs[f]? = some fn) (hb : fn.body = some cd) (hname : (fn.name == "runtime.NumGoroutine") = false)
    (hl : AllLoops P E fn.ntmps (loopsOf cd)) (hrun : ∀ x y, con.F x = some y → runFn E fn con.dom con.cod x = some y) : con.ok P f := by
  refine ⟨⟨fn, cd, hf, hname, hb⟩, fun w M vs x y hld hM hA hF => ?_⟩
  have hr := hrun x y hF
  unfold runFn at hr
  rw [hb] at hr
  dsimp only at hr
  rw [force_eq] at hr
  exact fn_from hE hf hb hl hld hM (args_rep (hdr := fun _ => none) hA) (args_len _ _) hr
theorem v1N_rep {w : World} {M : Mem} {T : Ty} {x : T.den} {v : Value} (h : ValD w M T x v) : ∃ b, RepV1 w M (fun _ => none) (v1N b T x) v ∧ (b = true → nilT T x) := by
  cases T with
  | slice e =>
    have h' : RepD w M (.slice e) x [v] := h
    obtain ⟨A, c, us, e1, e2, e3, e4, e5⟩ := h'
    simp at e1
    refine ⟨A.isNone, ⟨h, A, _, c, e1, rfl⟩, fun hn => ?_⟩
    rcases e5 with e5 | ⟨ad, e5, _⟩
    · exact e5
    · rw [e5] at hn; cases hn
  | _ => exact ⟨false, h, fun h => by cases h⟩
theorem args1_len (b : Bool) : ∀ (Ts : List Ty) (x : Dens Ts), (argVs1 b Ts x).length = Ts.length
  | [], _ => rfl
  | [_], _ => rfl
  | _ :: U :: Ts, x => by
    show (argVs (U :: Ts) x.2).length + 1 = _
    rw [args_len (U :: Ts) x.2]; rfl
/-- The same for a function that asks whether its first argument is nil. -/
theorem fn_okN {f : FuncId} {fn : Func} {cd : Code} {con : Con} (hE : EnvOK P E) (hf : P.funcs[f]? = some fn) (hb : fn.body = some cd) (hname : (fn.name == "runtime.NumGoroutine") = false)
    (hl : AllLoops P E fn.ntmps (loopsOf cd)) (hrun : ∀ b x y, (b = true → nil1 con.dom x) → con.F x = some y → runFnN E fn con.dom con.cod b x = some y) : con.ok P f := by
  refine ⟨⟨fn, cd, hf, hname, hb⟩, fun w M vs x y hld hM hA hF => ?_⟩
  obtain ⟨b, h1, h2⟩ : ∃ b, All2 (RepV1 w M (fun _ => none)) (argVs1 b con.dom x) vs ∧ (b = true → nil1 con.dom x) := by
    obtain ⟨dom, cod, F⟩ := con
    dsimp only at x hA ⊢
    match dom, x, hA with
    | [], x, hA => exact ⟨false, args_rep (hdr := fun _ => none) hA, fun h => by cases h⟩
    | [T], x, ⟨v, e, h⟩ =>
      subst e
      obtain ⟨b, k1, k2⟩ := v1N_rep h
      exact ⟨b, .one k1, k2⟩
    | T :: U :: Ts, x, ⟨v, r, e, h, h'⟩ =>
      subst e
      obtain ⟨b, k1, k2⟩ := v1N_rep h
      exact ⟨b, ⟨k1, args_rep (hdr := fun _ => none) h'⟩, k2⟩
  have hr := hrun b x y h2 hF
  unfold runFnN at hr
  rw [hb] at hr
  dsimp only at hr
  rw [force_eq] at hr
  exact fn_from hE hf hb hl hld hM h1 (args1_len _ _ _) hr
end
end Rx
end Go.Proofs.YthfgpnpoocepeaaGreat
