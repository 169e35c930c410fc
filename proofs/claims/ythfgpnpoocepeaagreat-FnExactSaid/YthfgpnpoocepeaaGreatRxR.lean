/- Functions that are handed a box with rows: from the evaluator's run to the contract. No conditions. -/
import Derived.Test.YthfgpnpoocepeaaGreatRxQ
namespace Go.Proofs.YthfgpnpoocepeaaGreat
open Go.RowKit
namespace Rx

section
variable {P : Program} {E : Env}
theorem arg_get {fn : Func} {vs : List Value} {t : Nat} {v : Value} (h : vs[t]? = some v) : (vs.toArray ++ Array.replicate (fn.ntmps - vs.toArray.size) undef).getD t undef = v := by
  have hl := (List.getElem?_eq_some_iff.1 h).1
  have h1 : (vs.toArray ++ Array.replicate (fn.ntmps - vs.toArray.size) undef)[t]? = some v := by
    rw [Array.getElem?_append_left (by simpa using hl)]
    simpa using h
  rw [Array.getD_eq_getD_getElem?, h1]; rfl
theorem RepR.own_not {w : World} {M : Mem} {base : Nat → Prop} : ∀ {T : RTy} {x : T.den} {vs : List Value} {hs : List Hd}, RepR base w M T x vs hs → ∀ p, M p → p.block ∉ gsOf hs
  | .d T, x, vs, hs, ⟨_, h2⟩, p, _, hm => by rw [h2] at hm; cases hm
  | .row t T, xs, vs, hs, ⟨v, gs, _, h2, hB⟩, p, hp, hm => by
    rw [h2, gsOf_one] at hm
    exact absurd (hB.seen p hp hm).1 (show ¬ (0 : Nat) = 1 by decide)
  | .box t T, xs, vs, hs, ⟨v, gs, _, h2, hB⟩, p, hp, hm => by
    rw [h2, gsOf_one] at hm
    exact absurd (hB.seen p hp hm).1 (show ¬ (0 : Nat) = 1 by decide)
  | .deep t T, xs, vs, hs, ⟨v, gs, _, h2, hB⟩, p, hp, hm => by
    rw [h2, gsOf_one] at hm
    exact absurd (hB.seen p hp hm).1 (show ¬ (0 : Nat) = 1 by decide)
  | .mp fr t T, xs, vs, hs, ⟨v, gs, _, h2, hB⟩, p, hp, hm => by
    rw [h2, gsOf_one] at hm
    exact absurd (hB.seen p hp hm).1 (show ¬ (0 : Nat) = 1 by decide)
  | .pair a b, x, vs, hs, ⟨v1, v2, h1, h2, _, e2, r1, r2⟩, p, hp, hm => by
    rw [e2, gsOf_append] at hm
    rcases List.mem_append.1 hm with hm | hm
    · exact RepR.own_not r1 p hp hm
    · exact RepR.own_not r2 p hp hm
/-- The world when such a function is called. -/
def nW (w : World) (g : Nat) (hs : List Hd) (hl : Laid w) (hx : ∀ k ∈ g :: gsOf hs, globs ≤ k) : WX :=
  ⟨w, fun j => if j = 0 then [g] else [], fun j => if j = 0 then some (.pointer (some ⟨g, 0, none⟩)) else none, hl, fun j k hk => (by
    split at hk
    · rw [List.mem_singleton] at hk; exact hx k (by rw [hk]; simp)
    · cases hk), fun k => k ∈ gsOf hs, fun k hk => hx k (List.mem_cons_of_mem _ hk)⟩
theorem nW_arg (w : World) (g : Nat) (hs : List Hd) (hl : Laid w) (hx : ∀ k ∈ g :: gsOf hs, globs ≤ k) : (nW w g hs hl hx).arg ((2 - 2) / 2) = some (.pointer (some ⟨g, 0, none⟩)) := rfl
theorem fnX_ok {f : FuncId} {fn : Func} {cd : Code} {con : NCon} (hE : EnvOK P E) (hf : P.funcs[f]? = some fn) (hb : fn.body = some cd) (hname : (fn.name == "runtime.NumGoroutine") = false)
    (hbox : con.R.noBox = true) (hRf : con.R.far = false) (hCf : con.cod.far = false) (hl : AllLoops P E fn.ntmps (loopsOf cd)) (hr : ∀ x y, con.F x = some y → runFnX E fn con x = some y) : con.ok P f := by
  refine ⟨⟨fn, cd, hf, hname, hb⟩, hbox, fun w M vs g cs hs x y r x' hld hM hg hR hnd hgl hMg hargs hF => ?_⟩
  have hrun := hr _ _ hF
  unfold runFnX at hrun
  rw [hb] at hrun
  simp only [force_eq] at hrun
  have hA2 := args_rep (hdr := fun _ => none) hargs
  have hvl : vs.length = con.dom.length := by rw [← hA2.len, args_len]
  refine calls_of_wp hf hb ?_
  obtain ⟨hgh, hndh⟩ := List.nodup_cons.1 hnd
  let S0 : St := { tmps := .undef :: ((argVs con.dom y).map .v ++ List.replicate (fn.ntmps - 1 - con.dom.length) .undef), heap := [] }
  let a0 : Act := { tmps := (Value.pointer (some ⟨g, 0, none⟩) :: vs).toArray ++ Array.replicate (fn.ntmps - (Value.pointer (some ⟨g, 0, none⟩) :: vs).toArray.size) undef, defers := [] }
  have h0 : Good (nW w g hs hld hgl) M S0 (fun _ => none) (fun _ => []) M a0 w := by
    refine ⟨.ofExt (Ext.refl w), rfl, ?_, fun t => ?_, fun b B hb => none_some hb, fun _ _ => rfl, fun b b' B B' g _ hb => none_some hb, hM, fun p hp => .inl hp, fun b B hb => none_some hb⟩
    · simp [S0, a0, args_len, hvl]; omega
    · cases t with
      | zero => trivial
      | succ t =>
        show RepAV w M (fun _ => none) ((((argVs con.dom y).map AV.v ++ List.replicate (fn.ntmps - 1 - con.dom.length) .undef)[t]?).getD .undef) (a0.tmps.getD (t + 1) undef)
        by_cases ht : t < vs.length
        · have hta : t < ((argVs con.dom y).map AV.v).length := by simp [args_len]; omega
          have hta' : t < (argVs con.dom y).length := by simpa using hta
          have hgx : (argVs con.dom y)[t]? = some (argVs con.dom y)[t] := List.getElem?_eq_getElem hta'
          obtain ⟨v, hv1, hv2⟩ := hA2.get hgx
          rw [List.getElem?_append_left hta, List.getElem?_map, hgx]
          have : a0.tmps.getD (t + 1) undef = v := arg_get (by simpa using hv1)
          rw [this]
          exact hv2
        · have e1 : (((argVs con.dom y).map AV.v ++ List.replicate (fn.ntmps - 1 - con.dom.length) AV.undef)[t]?).getD .undef = .undef := by
            rw [List.getElem?_append_right (by simp [args_len]; omega), List.getElem?_replicate]
            split <;> rfl
          rw [e1]; trivial
  obtain ⟨hdr1, inn1, a1, a2, a3, a4⟩ := add_heads (W := nW w g hs hld hgl) (t := 0) (k := 0) hbox hR h0 hndh (fun k hk => .own (.inr hk) (by decide)) (fun b B k hl => none_some hl) (fun b _ => rfl)
  have hb3 : (3 : Nat) ∉ (nestCells 0 con.R x 0).2.1.map (·.1) := fun hm => by
    obtain ⟨j, _, _, j3⟩ := (nest_ids 0 con.R x 0).2 3 hm
    unfold nestId at j3
    omega
  have hl3 : lk ((nestCells 0 con.R x 0).2.1 ++ S0.heap) 3 = none := by
    rw [lk_append_out hb3]; rfl
  have hv0 : a0.tmps.getD 0 undef = .pointer (some ⟨g, 0, none⟩) := arg_get rfl
  have g1 := a1.addBlkE (t := 0) (id := 3) (x := .v (.one (.ptr 3 0))) (B := .cells con.t (nestCells 0 con.R x 0).1 2) (v := .pointer (some ⟨g, 0, none⟩)) (gs := [g]) hl3 (fun _ _ => by
      show some (Value.pointer (some ⟨g, 0, none⟩)) = (nW w g hs hld hgl).arg ((2 - 2) / 2)
      exact (nW_arg w g hs hld hgl).symm)
    (fun hdr' hh => ⟨g, cs, rfl, rfl, ⟨fun h => absurd h (by decide), fun _ => by show g ∈ (if (0 : Nat) = 0 then [g] else []); simp⟩, hg, a4.mono fun _ _ h => h.keep (fun _ _ => rfl) (fun _ h => h) hh, fun p hp e => (hMg p hp e).elim⟩)
    (fun b' B' k hl' hk hk' => by
      rw [List.mem_singleton] at hk
      subst hk
      rcases a2 b' k hk' with h1 | ⟨h1, _⟩
      · exact hgh h1
      · cases h1)
    (fun hdr' h0 => ⟨g, h0, hv0⟩)
  refine exec_sound (W := nW w g hs hld hgl) (M0 := M) hE cd (initN fn.ntmps con x y) _ a0 w _ hl.get hrun ⟨_, _, _, g1⟩ ?_
  intro e S' a' w' hk hG
  have done : finishN E fn.results.toList con S' = some (r, x') → a'.defers = [] ∧ ∃ v, (results fn a'.tmps).run P w' = .ok v w' ∧ ∃ v2 cs' hs', Ending.returned v = .returned v2 ∧ ValD w' M con.cod r v2 ∧ w'.heap[g]? = some (.cells cs' con.t (0, 0)) ∧ RepR (fun _ => True) w' M con.R x' cs'.toList hs' ∧ (g :: gsOf hs').Nodup ∧ (∀ k ∈ gsOf hs', k ∈ gsOf hs ∨ w.heap.size ≤ k) ∧ Kept w w' (g :: gsOf hs) := by
    intro hfin
    obtain ⟨hdr, inn, M1, G1⟩ := hG
    unfold finishN at hfin
    split at hfin
    · rename_i y1 hys
      obtain ⟨r1, hr1, hfin⟩ := Option.bind_eq_some_iff.1 hfin
      obtain ⟨z, hz, hfin⟩ := Option.bind_eq_some_iff.1 hfin
      split at hfin
      case h_2 => cases hfin
      rename_i hno
      cases hfin
      obtain ⟨vs', k1, k2⟩ := results_rep hE G1 hys
      obtain ⟨v, us, rfl, q1, q2⟩ := k2.cons'
      cases q2.nil'
      unfold boxOut at hz
      split at hz
      · rename_i b hv
        split at hz
        · rename_i et cs2 fz hbk
          split at hz
          case isFalse => cases hz
          rename_i hc1
          obtain ⟨ht, hfz⟩ := hc1
          subst hfz
          obtain ⟨q, hq, hz⟩ := Option.bind_eq_some_iff.1 hz
          split at hz
          case h_2 => cases hz
          rename_i hq1 hq2
          cases hz
          have hb1 := blkAt_some hbk
          have hag : hdr b = some (.pointer (some ⟨g, 0, none⟩)) := by
            have h1 : hdr b = (nW w g hs hld hgl).arg ((2 - 2) / 2) := G1.ag b _ hb1 (Nat.le_refl _) (by show (2 : Nat) % 2 = 0; decide)
            exact h1.trans (nW_arg w g hs hld hgl)
          obtain ⟨v0, hv0, hB⟩ := G1.hp b _ hb1
          rw [hag] at hv0
          injection hv0 with hv0
          subst hv0
          obtain ⟨g', ws, e1, e2, c1, c2, c3, c4⟩ := hB
          simp only [Value.pointer.injEq, Option.some.injEq, Addr.mk.injEq, and_true] at e1
          subst e1
          rw [ht] at c2
          obtain ⟨u1, u2, hs', e3, m1, m2, m3⟩ := takeR_rep G1 (rsA := q.2.2.1) (dsA := []) (fun _ _ h => by cases h) (x := q.1) (r := q.2.1) (rs := q.2.2.1) (ds := q.2.2.2) hq c3 (fun _ h => h) (fun c hc => by rw [hq2] at hc; cases hc)
          rw [hq1] at m2
          cases m2.nil'
          rw [List.append_nil] at e3
          have hgb : g ∈ inn b := by rw [e2]; simp
          have hsub : ∀ k ∈ gsOf hs', k ∈ gsOf hs ∨ w.heap.size ≤ k := fun k hk => ((RepR.ge m1 k hk).1 (by decide)).symm
          have hgh' : g ∉ gsOf hs' := fun hm => by
            obtain ⟨b', n1, n2, B', n3, n4⟩ := m3.mem _ hm
            exact G1.sep b b' _ _ g (fun e => by subst e; rw [hb1] at n3; cases n3; exact absurd n4 (show ¬ (2 : Nat) = 0 by decide)) hb1 n3 hgb n2
          have hMs : ∀ p, M p → p.block ∉ gsOf hs := fun p hp hm => by
            have := RepR.own_not hR p hp hm
            exact this
          have hMh' : ∀ p, M p → p.block ∉ gsOf hs' := fun p hp hm => by
            rcases hsub _ hm with h1 | h1
            · exact hMs p hp h1
            · have := hM p hp; omega
          refine ⟨G1.nod, v, k1, v, ws, hs', rfl, ?_, c2, ?_, List.nodup_cons.2 ⟨hgh', m3.nodup G1 (noDup_spec hno)⟩, hsub, ?_⟩
          · unfold takeV at hr1
            split at hr1
            · rename_i hs2
              exact ValD.flat (M := M1) hCf (v1Of_of hs2 q1 (takeAll_nil hr1 (RepV1.cells q1)))
            · cases hr1
          · rw [e3]
            exact RepR.flat hRf hMh' (RepR.base (fun _ _ => trivial) m1)
          · refine ⟨G1.ext.os, G1.ext.tape, G1.ext.output, G1.ext.size, fun k hk hn => G1.ext.block k hk fun hx => hn ?_, G1.ext.drawn⟩
            rcases hx with ⟨j, hj⟩ | hx
            · have hj' : k ∈ (if j = 0 then [g] else []) := hj
              split at hj'
              · rw [List.mem_singleton] at hj'; rw [hj']; simp
              · cases hj'
            · exact List.mem_cons_of_mem _ hx
        · cases hz
      · cases hz
    · cases hfin
  cases e with
  | normal =>
    obtain ⟨d1, v, d2, d3⟩ := done hk
    exact ⟨d1, v, d2, d3⟩
  | ret =>
    obtain ⟨d1, v, d2, d3⟩ := done hk
    exact ⟨d1, v, d2, d3⟩
  | exit i => cases hk
end
end Rx
end Go.Proofs.YthfgpnpoocepeaaGreat
