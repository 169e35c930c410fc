/- Maps of the call's own: made, looked at, written, frozen. No conditions. -/
import Derived.Test.YthfgpnpoocepeaaGreatRxJ
import Derived.MapKept
import Derived.Carry
namespace Go.Proofs.YthfgpnpoocepeaaGreat
open Go.RowKit
namespace Rx

section
variable {P : Program} {W : WX} {M0 : Mem} {S : St} {hdr : Nat → Option Value} {inn : Nat → List Nat} {M : Mem} {a : Act} {w : World} {o : Oper} {e : Eff} {id : Nat} {E : Env}

theorem mapOf_spec {t : TypeId} {p : TypeId × TI} (htab : ∀ t i, E.tab.lookup t = some i → TIOK P t i) (h : mapOf E t = some p) : ∃ kt et, P.underlying t = some (.map kt et) ∧ P.underlying kt = some (.int .i64) ∧ ∀ w, (zeroValue et).run P w = .ok (.slice none 0 0) w := by
  unfold mapOf at h
  split at h
  · rename_i i hi
    split at h
    · rename_i kt et hd
      split at h
      · rename_i ki ei hki hei
        split at h
        · rename_i rt d1 d2 d3
          split at h
          · cases h
            have hT := htab _ _ hei
            refine ⟨kt, et, (htab _ _ hi).map hd, (htab _ _ hki).int d1, fun w => ?_⟩
            obtain ⟨info, z, g1, g2, g3, g4, g5, g6, g7⟩ := hT.info
            have hz1 := hT.one (by unfold TI.isAgg; rw [d2]) info z g1 g4
            rw [d3, hz1] at g6
            obtain ⟨u, hu, hc⟩ := g6.one'
            have hu : z = u := by simpa using hu
            subst hu
            have hzv : z = .slice none 0 0 := by
              unfold absC at hc
              split at hc <;> first | rfl | cases hc
            subst hzv
            simp [zeroValue, typeInfo, g1, g4]
          · cases h
        · cases h
      · cases h
    · cases h
  · cases h

/-- A key is looked for. -/
theorem same_int (k n : Int) : Instr.sameNow (.int .i64) (.int .i64 k) (.int .i64 n) = some (k == n) := by simp [Instr.sameNow]
theorem findM {t : TypeId} {T : Ty} {fr : Bool} {k : Int} : ∀ {x : List (Int × List T.den)} {es : List MapEntry} {gs : List Nat} (i : Nat), RepM w M t T fr x es gs →
    (Instr.findNow (.int .i64) (.int .i64 k) es i = some none ∧ getM x k = []) ∨ ∃ j v g2, Instr.findNow (.int .i64) (.int .i64 k) es i = some (some (j, v)) ∧ EntAt w M t T fr (getM x k) v g2
  | [], _, _, i, h => by
    rw [h.1]
    exact .inl ⟨rfl, rfl⟩
  | p :: x, _, _, i, ⟨en, es', g1, g2, h1, h2, h3, h4, h5⟩ => by
    subst h1
    unfold Instr.findNow getM
    rw [h3, same_int]
    by_cases hk : p.1 = k
    · rw [if_pos hk, show (k == p.1) = true by simp [hk]]
      exact .inr ⟨i, en.val, g1, rfl, h4⟩
    · rw [if_neg hk, show (k == p.1) = false by simpa using fun e => hk e.symm]
      exact findM (i + 1) h5
/-- What a map holds at a key is taken out. -/
theorem takeM {t : TypeId} {T : Ty} {k : Int} : ∀ {x : List (Int × List T.den)} {es : List MapEntry} {gs : List Nat} (i : Nat), RepM w M t T false x es gs →
    ∃ v gk gr, ((Instr.findNow (.int .i64) (.int .i64 k) es i = some none ∧ v = .slice none 0 0) ∨ ∃ j, Instr.findNow (.int .i64) (.int .i64 k) es i = some (some (j, v))) ∧ RowAt w M t T (getM x k) v gk ∧ RepH w M t T k x es gr ∧ gs.Perm (gk ++ gr)
  | [], _, _, i, h => by
    obtain ⟨rfl, rfl⟩ := h
    exact ⟨_, [], [], .inl ⟨rfl, rfl⟩, .inl ⟨rfl, rfl, rfl⟩, ⟨rfl, rfl⟩, .refl _⟩
  | p :: x, _, _, i, ⟨en, es', g1, g2, h1, h2, h3, h4, h5⟩ => by
    subst h1; subst h2
    unfold Instr.findNow getM
    rw [h3, same_int]
    by_cases hk : p.1 = k
    · rw [if_pos hk, show (k == p.1) = true by simp [hk]]
      exact ⟨en.val, g1, g2, .inr ⟨i, rfl⟩, h4, ⟨en, es', rfl, h3, .inl ⟨hk, h5⟩⟩, .refl _⟩
    · rw [if_neg hk, show (k == p.1) = false by simpa using fun e => hk e.symm]
      obtain ⟨v, gk, gr, a1, a2, a3, a4⟩ := takeM (i + 1) h5
      refine ⟨v, gk, g1 ++ gr, a1, a2, ⟨en, es', rfl, h3, .inr ⟨hk, g1, gr, rfl, h4, a3⟩⟩, ?_⟩
      have p1 : (g1 ++ g2).Perm (g1 ++ (gk ++ gr)) := a4.append_left g1
      refine p1.trans ?_
      rw [← List.append_assoc, ← List.append_assoc]
      exact List.perm_append_comm.append_right gr
/-- A row is put in at the key whose row was taken out. -/
theorem putM_rep {t : TypeId} {T : Ty} {k : Int} {ys : List T.den} {v : Value} {gv : List Nat} (hv : RowAt w M t T ys v gv) : ∀ {x : List (Int × List T.den)} {es : List MapEntry} {gr : List Nat} (i : Nat), RepH w M t T k x es gr →
    ∃ es' gs', RepM w M t T false (putM x k ys) es' gs' ∧ gs'.Perm (gv ++ gr) ∧ ((Instr.findNow (.int .i64) (.int .i64 k) es i = some none ∧ ∀ born, ∃ es', RepM w M t T false (putM x k ys) es' gs' ∧ es' = es ++ [⟨.int .i64 k, v, born⟩]) ∨
      ∃ j v0 e0, Instr.findNow (.int .i64) (.int .i64 k) es i = some (some (i + j, v0)) ∧ es[j]? = some e0 ∧ e0.key = .int .i64 k ∧ es' = es.modify j fun e => { e with key := .int .i64 k, val := v })
  | [], _, _, i, h => by
    obtain ⟨rfl, rfl⟩ := h
    refine ⟨[⟨.int .i64 k, v, 0⟩], gv ++ [], ⟨⟨.int .i64 k, v, 0⟩, [], gv, [], rfl, rfl, rfl, hv, rfl, rfl⟩, .refl _, .inl ⟨rfl, fun born => ⟨[⟨.int .i64 k, v, born⟩], ⟨⟨.int .i64 k, v, born⟩, [], gv, [], rfl, rfl, rfl, hv, rfl, rfl⟩, rfl⟩⟩⟩
  | p :: x, _, gr, i, ⟨en, es1, h1, h3, h⟩ => by
    subst h1
    unfold Instr.findNow putM
    rw [h3, same_int]
    rcases h with ⟨hk, h5⟩ | ⟨hk, g1, g2, h2, h4, h5⟩
    · rw [if_pos hk, show (k == p.1) = true by simp [hk]]
      exact ⟨_, gv ++ gr, ⟨{ en with key := .int .i64 k, val := v }, es1, gv, gr, rfl, rfl, by rw [hk], hv, h5⟩, .refl _, .inr ⟨0, en.val, en, rfl, rfl, by rw [h3, hk], rfl⟩⟩
    · rw [if_neg hk, show (k == p.1) = false by simpa using fun e => hk e.symm]
      subst h2
      obtain ⟨es', gs', a1, a2, a3⟩ := putM_rep hv (i + 1) h5
      have pm : (g1 ++ gs').Perm (gv ++ (g1 ++ g2)) := by
        refine (a2.append_left g1).trans ?_
        rw [← List.append_assoc, ← List.append_assoc]
        exact List.perm_append_comm.append_right g2
      refine ⟨en :: es', g1 ++ gs', ⟨en, es', g1, gs', rfl, rfl, h3, h4, a1⟩, pm, ?_⟩
      rcases a3 with ⟨b1, b2⟩ | ⟨j, v0, e0, b1, b2, b3, b4⟩
      · refine .inl ⟨b1, fun born => ?_⟩
        obtain ⟨es2, c1, c2⟩ := b2 born
        exact ⟨en :: es2, ⟨en, es2, g1, gs', rfl, rfl, h3, h4, c1⟩, by rw [c2]; rfl⟩
      · refine .inr ⟨j + 1, v0, e0, by rw [b1, show i + 1 + j = i + (j + 1) by omega], by simpa using b2, b3, ?_⟩
        rw [b4]
        rfl

theorem run_look {t kt et : TypeId} {g : Nat} {es : Array MapEntry} {cl : Nat} {k : Int} {r : Option (Nat × Value)} {v : Value} (ht : P.underlying t = some (.map kt et)) (hk : P.underlying kt = some (.int .i64)) (hz : ∀ w, (zeroValue et).run P w = .ok (.slice none 0 0) w)
    (hb : w.heap[g]? = some (.map es cl)) (hf : Instr.findNow (.int .i64) (.int .i64 k) es.toList 0 = some r) (hv : v = match r with | some p => p.2 | none => .slice none 0 0) : (Instr.lookup t (.map (some g)) (.int .i64 k) false).run P w = .ok v w := by
  subst hv
  cases r with
  | none => simp [Instr.lookup, run_underlying ht, MapKept.run_getObj_map hb, MapKept.run_checkKey hk (show MapKept.IsKey (.int .i64) (.int .i64 k) from rfl), MapKept.run_findKey hk hf, hz, Result.andThen]
  | some p => simp [Instr.lookup, run_underlying ht, MapKept.run_getObj_map hb, MapKept.run_checkKey hk (show MapKept.IsKey (.int .i64) (.int .i64 k) from rfl), MapKept.run_findKey hk hf, Result.andThen]

theorem run_look_nil {t kt et : TypeId} {k : Int} (ht : P.underlying t = some (.map kt et)) (hk : P.underlying kt = some (.int .i64)) (hz : ∀ w, (zeroValue et).run P w = .ok (.slice none 0 0) w) : (Instr.lookup t (.map none) (.int .i64 k) false).run P w = .ok (.slice none 0 0) w := by
  simp [Instr.lookup, run_underlying ht, MapKept.run_checkKey hk (show MapKept.IsKey (.int .i64) (.int .i64 k) from rfl), MapKept.run_findKey hk (show Instr.findNow (.int .i64) (.int .i64 k) [] 0 = some none from rfl), hz, Result.andThen]
/-- One block in the place of another. -/
def setB (w : World) (g : Nat) (o : Obj) : World := { w with heap := w.heap.setIfInBounds g o }
theorem run_upd {t kt et : TypeId} {g : Nat} {es : Array MapEntry} {cl : Nat} {k : Int} {v : Value} (ht : P.underlying t = some (.map kt et)) (hk : P.underlying kt = some (.int .i64)) (hb : w.heap[g]? = some (.map es cl)) :
    (Instr.findNow (.int .i64) (.int .i64 k) es.toList 0 = some none → (Instr.mapUpdate t (.map (some g)) (.int .i64 k) v).run P w = .ok () (setB w g (.map (es.push ⟨.int .i64 k, v, cl⟩) (cl + 1)))) ∧
    (∀ j v0 e0, Instr.findNow (.int .i64) (.int .i64 k) es.toList 0 = some (some (j, v0)) → es[j]? = some e0 → e0.key = .int .i64 k → (Instr.mapUpdate t (.map (some g)) (.int .i64 k) v).run P w = .ok () (setB w g (.map (es.modify j fun e => { e with key := .int .i64 k, val := v }) cl))) := by
  have hkey : MapKept.IsKey (.int .i64) (.int .i64 k) := rfl
  constructor
  · intro hf
    simp [Instr.mapUpdate, run_underlying ht, MapKept.run_getObj_map hb, MapKept.run_checkKey hk hkey, MapKept.run_findKey hk hf, MapKept.run_setObj_map _ hb, Result.andThen, setB]
  · intro j v0 e0 hf hj he
    simp [Instr.mapUpdate, run_underlying ht, MapKept.run_getObj_map hb, MapKept.run_checkKey hk hkey, MapKept.run_findKey hk hf, hj, he, MapKept.run_keyThatStays hkey, MapKept.run_setObj_map _ hb, Result.andThen, setB]

theorem setB_heap {g : Nat} {ob ob' : Obj} (hb : w.heap[g]? = some ob') : (setB w g ob).heap[g]? = some ob ∧ (∀ r, r ≠ g → (setB w g ob).heap[r]? = w.heap[r]?) ∧ (setB w g ob).heap.size = w.heap.size := by
  have := MapKept.heap_set (o' := ob) hb
  exact ⟨this.1, this.2, by simp [setB]⟩
theorem setB_ext {g : Nat} {ob ob' : Obj} (h : ExtW W w) (hb : w.heap[g]? = some ob') (hg : W.fresh 0 g) : ExtW W (setB w g ob) := by
  obtain ⟨_, h2, h3⟩ := setB_heap (ob := ob) hb
  refine ⟨h.os, h.tape, h.output, by rw [h3]; exact h.size, fun k hk hx => ?_, h.drawn⟩
  rw [h2 k fun e => ?_]
  · exact h.block k hk hx
  · subst e
    rcases hg.1 (by decide) with h1 | h1
    · omega
    · exact hx (.inr h1)
theorem setB_cell {g : Nat} {ob ob' : Obj} {p : Addr} (hb : w.heap[g]? = some ob') (h : p.block ≠ g) : (setB w g ob).cell? p = w.cell? p := by
  obtain ⟨_, h2, _⟩ := setB_heap (ob := ob) hb
  unfold World.cell?
  rw [h2 _ h]

/-- A map. -/
theorem sound_makeMap {t : TypeId} {r : Option Operand} (h : Good W M0 S hdr inn M a w) (ho : o.op = .makeMap t r) (hk : opK E o.op id S some = some e) : Sound P W M0 S a w o e := by
  rw [ho] at hk
  simp only [opK] at hk
  split at hk
  · rename_i p hp
    obtain ⟨hid, hk⟩ := chk_some hk
    cases hk
    intro K Q hK
    have hE : Ext w (w.alloc (.map #[] 0)) := Ext.alloc (Ext.refl w) _
    obtain ⟨hdr', inn', hg⟩ := h.fresh (dst := o.dst) (x := .v (.one (.mp id))) (u := .map (some w.heap.size)) (v0 := .map (some w.heap.size)) (rd := [id]) (gs := [w.heap.size]) (B := .obj (.mp false p.1 p.2.ty) [] 0) hid
      (by show 0 < 2; decide) hE (fun g hg => by rw [List.mem_singleton] at hg; omega)
      (fun hdr' hh _ => ⟨.inr ⟨w.heap.size, #[], 0, [], rfl, rfl, by simp, heap_alloc_new w _, rfl, rfl⟩, fun g hg => by rw [List.mem_singleton] at hg; exact .new (by rw [hg]; exact h.ext.size) (by decide), fun p hp hm => by rw [List.mem_singleton] at hm; have := h.ml p hp; omega⟩)
      (fun hdr' _ h0 => ⟨h0, _, rfl⟩)
    exact wp_val (by simp [execOp, ho, run_makeMap]) (hK _ _ ⟨_, _, _, hg⟩)
  · cases hk

/-- A block is parted in two. -/
theorem Good.part {dst : Option Tmp} {x : AV} {u v0 v2 : Value} {rd gr gk : List Nat} {b : Nat} {B0 B1 B2 : Blk} (h : Good W M0 S hdr inn M a w) (hb : lk S.heap b = some (some B0)) (hv0 : hdr b = some v0) (hid : isNew S.heap id = true) (hf0 : B1.fz = B0.fz) (hf2 : B2.fz < 2)
    (h1 : ∀ hdr', RepBlk w M hdr' W.fresh B1 v0 gr) (h2 : ∀ hdr', RepBlk w M hdr' W.fresh B2 v2 gk) (s1 : ∀ g ∈ gr, g ∈ inn b) (s2 : ∀ g ∈ gk, g ∈ inn b) (hd : ∀ g ∈ gr, g ∉ gk) (hx : ∀ hdr' : Nat → Option Value, hdr' id = some v2 → RepAV w M hdr' x u) :
    ∃ hdr' inn', Good W M0 (S.app dst ⟨x, [(b, some B1), (id, some B2)], rd⟩) hdr' inn' M (a.put dst u) w := by
  have hn : lk S.heap id = none := by simpa [isNew] using hid
  have hne := h.un id hn
  have hbi : b ≠ id := fun e => by rw [e, hn] at hb; cases hb
  have hh : ∀ c v, hdr c = some v → (fun c => if c = id then some v2 else hdr c) c = some v := fun c v hc => by
    have : c ≠ id := fun e => by rw [e, hne] at hc; cases hc
    simpa [this] using hc
  have old : ∀ {c C}, lk (setAll S.heap [(b, some B1), (id, some B2)]) c = some (some C) → (c = id ∧ C = B2) ∨ (c ≠ id ∧ c = b ∧ C = B1) ∨ (c ≠ id ∧ c ≠ b ∧ lk S.heap c = some (some C)) := by
    intro c C hc
    simp only [setAll, lk_cons] at hc
    split at hc
    · rename_i e; cases hc; exact .inl ⟨e.symm, rfl⟩
    · rename_i e
      split at hc
      · rename_i e'; cases hc; exact .inr (.inl ⟨fun e2 => e e2.symm, e'.symm, rfl⟩)
      · rename_i e'; exact .inr (.inr ⟨fun e2 => e e2.symm, fun e2 => e' e2.symm, hc⟩)
  refine ⟨fun c => if c = id then some v2 else hdr c, fun c => if c = id then gk else if c = b then gr else inn c, h.step h.ext (Nat.le_refl _) (fun _ _ => rfl) (fun _ h => h) hh (fun p hp => ⟨h.ml p hp, h.mo p hp⟩) ?_ ?_ ?_ (hx _ (by simp))⟩
  · intro c hc
    simp only [setAll, lk_cons] at hc
    split at hc
    · cases hc
    · rename_i e
      split at hc
      · cases hc
      · have : c ≠ id := fun e2 => e e2.symm
        simp [this, h.un c hc]
  · intro c C hc
    rcases old hc with ⟨rfl, rfl⟩ | ⟨e1, rfl, rfl⟩ | ⟨e1, e2, h0⟩
    · exact ⟨⟨v2, by simp, by simpa using h2 _⟩, fun hf => by omega⟩
    · simp only [e1, if_false, if_true]
      exact ⟨⟨v0, hv0, h1 _⟩, fun hf hf' => by rw [hf0] at hf hf' ⊢; exact h.ag _ _ hb hf hf'⟩
    · simp only [e1, e2, if_false]
      obtain ⟨v, hv, hr⟩ := h.hp c C h0
      exact ⟨⟨v, hv, hr.keep (fun _ _ => rfl) (fun _ h => h) hh fun g _ => ⟨rfl, fun p hp _ => hp⟩⟩, h.ag c C h0⟩
  · intro c c' C C' g hcc hc hc' hg
    rcases old hc with ⟨rfl, _⟩ | ⟨e1, rfl, _⟩ | ⟨e1, e2, h0⟩
    · simp only [if_true] at hg
      rcases old hc' with ⟨rfl, _⟩ | ⟨f1, rfl, _⟩ | ⟨f1, f2, k0⟩
      · exact absurd rfl hcc
      · simp only [f1, if_false, if_true]
        exact fun hg' => hd g hg' hg
      · simp only [f1, f2, if_false]
        exact h.sep b c' B0 C' g (fun e => f2 e.symm) hb k0 (s2 g hg)
    · simp only [e1, if_false, if_true] at hg
      rcases old hc' with ⟨rfl, _⟩ | ⟨f1, rfl, _⟩ | ⟨f1, f2, k0⟩
      · simp only [if_true]
        exact hd g hg
      · exact absurd rfl hcc
      · simp only [f1, f2, if_false]
        exact h.sep c c' B0 C' g (fun e => f2 e.symm) hb k0 (s1 g hg)
    · simp only [e1, e2, if_false] at hg
      rcases old hc' with ⟨rfl, _⟩ | ⟨f1, rfl, _⟩ | ⟨f1, f2, k0⟩
      · simp only [if_true]
        exact fun hg' => h.sep b c B0 C g (fun e => e2 e.symm) hb h0 (s2 g hg') hg
      · simp only [f1, if_false, if_true]
        exact fun hg' => h.sep c' c B0 C g (fun e => e2 e.symm) hb h0 (s1 g hg') hg
      · simp only [f1, f2, if_false]
        exact h.sep c c' C C' g hcc h0 k0 hg

theorem RowAt.slice {t : TypeId} {T : Ty} {xs : List T.den} {v : Value} {gs : List Nat} (h : RowAt w M t T xs v gs) : ∃ A c, v = .slice A xs.length c := by
  rcases h with ⟨rfl, rfl, _⟩ | ⟨g, cap, vs, rfl, _⟩ <;> exact ⟨_, _, rfl⟩

theorem sound_lookup {t : TypeId} {x y : Operand} {ok : Bool} (h : Good W M0 S hdr inn M a w) (htab : ∀ t i, E.tab.lookup t = some i → TIOK P t i) (ho : o.op = .lookup t x y ok) (hk : opK E o.op id S some = some e) : Sound P W M0 S a w o e := by
  rw [ho] at hk
  simp only [opK] at hk
  split at hk
  · rename_i p b n hp hx hy
    obtain ⟨kt, et, t1, t2, t3⟩ := mapOf_spec htab hp
    obtain ⟨hh, g0, hv⟩ := h.one hx
    have hi : a.eval y = .int .i64 n := intOf_rep h hy
    unfold lookK at hk
    split at hk
    · rename_i rt T x0 fz hb
      split at hk
      · rename_i hrt
        cases hk
        obtain ⟨v0, hv0, hO, _, _⟩ := h.hp b _ (blkAt_some hb)
        rw [hh] at hv0
        cases hv0
        rcases hO with ⟨_, q1, q2, _⟩ | ⟨g, es, cl, gi, k1, k2, k3, k4, k5⟩
        · refine sound_val h (v := .slice none 0 0) (by simp [execOp, ho, q2, hi, run_look_nil t1 t2 t3]) ?_
          rw [q1]
          exact ⟨none, 0, [], rfl, Nat.le_refl _, Nat.zero_le _, rfl, .inl rfl⟩
        rw [hv] at k1
        cases k1
        rcases findM (k := n) 0 k5 with ⟨f1, f2⟩ | ⟨j, v, g2, f1, f2⟩
        · refine sound_val h (v := .slice none 0 0) (by simp [execOp, ho, hv, hi, run_look t1 t2 t3 k4 f1 rfl]) ?_
          rw [f2]
          exact ⟨none, 0, [], rfl, Nat.le_refl _, Nat.zero_le _, rfl, .inl rfl⟩
        · exact sound_val h (v := v) (by simp [execOp, ho, hv, hi, run_look t1 t2 t3 k4 f1 rfl]) f2.1
      · cases hk
    · rename_i rt T x0 fz hb
      split at hk
      · rename_i hrt
        obtain ⟨v0, hv0, hO, hfr, hMn⟩ := h.hp b _ (blkAt_some hb)
        rcases hO with ⟨q1, _⟩ | ⟨g0, es, cl, gi, k1, k2, k3, k4, k5⟩
        · cases q1
        have hv0' := hv0
        rw [hh] at hv0'
        cases hv0'
        have hv := k1
        split at hk
        · cases hk
          rcases findM (k := n) 0 k5 with ⟨f1, f2⟩ | ⟨j, v, g2, f1, f2⟩
          · refine sound_val h (v := .slice none 0 0) (by simp [execOp, ho, hv, hi, run_look t1 t2 t3 k4 f1 rfl]) ?_
            rw [f2]
            exact ⟨none, 0, rfl⟩
          · exact sound_val h (v := v) (by simp [execOp, ho, hv, hi, run_look t1 t2 t3 k4 f1 rfl]) f2.slice
        · obtain ⟨hid, hk⟩ := chk_some hk
          cases hk
          obtain ⟨v, gk, gr, f1, f2, f3, f4⟩ := takeM (k := n) 0 k5
          have hr : (execOp a.eval o).run P w = .ok (.value v) w := by
            rcases f1 with ⟨f1, f5⟩ | ⟨j, f1⟩
            · simp [execOp, ho, hv, hi, run_look t1 t2 t3 k4 f1 rfl, f5]
            · simp [execOp, ho, hv, hi, run_look t1 t2 t3 k4 f1 rfl]
          have hnd : (g0 :: (gk ++ gr)).Nodup := by
            rw [k2] at k3
            exact ((f4.cons g0).nodup_iff).1 k3
          obtain ⟨n1, n2⟩ := List.nodup_cons.1 hnd
          obtain ⟨m1, m2, m3⟩ := List.nodup_append.1 n2
          have sub : ∀ g ∈ gk ++ gr, g ∈ inn b := fun g hg => by rw [k2]; exact List.mem_cons_of_mem _ (f4.mem_iff.2 hg)
          have hfz : fz = 0 := hrt.2
          subst hfz
          intro K Q hK
          obtain ⟨hdr', inn', hg⟩ := h.part (dst := o.dst) (x := .v (.one (.row id))) (u := v) (rd := [id, b]) (B1 := .obj (.mph rt T) (OK.rows x0, n) 0) (B2 := .row rt T (getM (OK.rows x0) n) 0) (gr := g0 :: gr) (gk := gk) (v2 := v) (blkAt_some hb) hv0 hid rfl (by show 0 < 2; decide)
            (fun hdr' => ⟨⟨g0, es, cl, gr, hv, rfl, List.nodup_cons.2 ⟨fun hm => n1 (List.mem_append.2 (.inr hm)), m2⟩, k4, f3⟩, fun g hg => hfr g (by
              rcases List.mem_cons.1 hg with rfl | hg
              · rw [k2]; simp
              · exact sub g (List.mem_append.2 (.inr hg))), fun p hp hm => hMn p hp (by
              rcases List.mem_cons.1 hm with e | hm
              · rw [k2, e]; simp
              · exact sub _ (List.mem_append.2 (.inr hm)))⟩)
            (fun hdr' => f2.blk (fun g hg => hfr g (sub g (List.mem_append.2 (.inl hg)))) fun p hp hm => by have := hMn p hp (sub _ (List.mem_append.2 (.inl hm))); omega)
            (fun g hg => by
              rcases List.mem_cons.1 hg with rfl | hg
              · rw [k2]; simp
              · exact sub g (List.mem_append.2 (.inr hg)))
            (fun g hg => sub g (List.mem_append.2 (.inl hg)))
            (fun g hg hg' => by
              rcases List.mem_cons.1 hg with rfl | hg
              · exact n1 (List.mem_append.2 (.inl hg'))
              · exact m3 g hg' g hg rfl)
            (fun hdr' h0 => ⟨h0, by obtain ⟨A, c, e⟩ := f2.slice; exact ⟨A, _, c, e⟩⟩)
          exact wp_val hr (hK _ _ ⟨_, _, _, hg⟩)
      · cases hk
    · cases hk
  · cases hk

theorem sound_mapUpdate {t : TypeId} {x y v : Operand} (h : Good W M0 S hdr inn M a w) (htab : ∀ t i, E.tab.lookup t = some i → TIOK P t i) (ho : o.op = .mapUpdate t x y v) (hk : opK E o.op id S some = some e) : Sound P W M0 S a w o e := by
  rw [ho] at hk
  simp only [opK] at hk
  split at hk
  · rename_i p b n hp hx hy
    obtain ⟨kt, et, t1, t2, t3⟩ := mapOf_spec htab hp
    obtain ⟨hh, g0, hv⟩ := h.one hx
    have hi : a.eval y = .int .i64 n := intOf_rep h hy
    unfold updK at hk
    split at hk
    · rename_i c hvc
      split at hk
      · rename_i rt T x0 fz rt' T' ys fz' hb hc
        split at hk
        · rename_i hT
          split at hk
          · rename_i hcond
            obtain ⟨_, ht, hfz, hfz', hbc⟩ := hcond
            have hk2 := br_some hk
            clear hk
            rcases hk2 with ⟨hkey, hk⟩ | ⟨_, hk⟩
            rotate_left
            · cases hk
            cases hk
            subst hT; subst ht; subst hfz; subst hfz'
            have hkey : (OK.hole x0).2 = n := by simpa using hkey
            have hb' := blkAt_some hb
            have hc' := blkAt_some hc
            obtain ⟨v0, hv0, ⟨g0, es, cl, gi, k1, k2, k3, k4, k5⟩, hfr, hMn⟩ := h.hp b _ hb'
            have hv0' := hv0
            rw [hh] at hv0'
            cases hv0'
            have hv := k1
            obtain ⟨hhc, _⟩ := h.one hvc
            obtain ⟨vc, hvc0, hBc⟩ := h.hp c _ hc'
            rw [hhc] at hvc0
            cases hvc0
            rw [hkey] at k5
            have hrow : RowAt w M rt' T' ys (a.eval v) (inn c) := by
              rcases hBc with hB | ⟨g, cap, vs, e1, e2, q1, q2, q3, q4, q5, q6, q7⟩
              · exact .inl hB
              · exact .inr ⟨g, cap, vs, e1, e2, q2, q3, q4, q5, q6⟩
            have hcfr : ∀ g ∈ inn c, W.fresh 0 g := fun g hg => (hBc.lt hg).2
            have hcM : ∀ p, M p → p.block ∉ inn c := fun p hp hm => by have := (hBc.seen p hp hm).1; simp [Blk.fz] at this
            have hsep : ∀ g, g ∈ inn b → g ∉ inn c := fun g => h.sep b c _ _ g hbc hb' hc'
            obtain ⟨es', gs', r1, r2, r3⟩ := putM_rep hrow 0 k5
            -- the map as it is then
            obtain ⟨ob, es2, cl2, hob, hrun, hrep⟩ : ∃ ob es2 cl2, ob = .map es2 cl2 ∧ (Instr.mapUpdate t (.map (some g0)) (.int .i64 n) (a.eval v)).run P w = .ok () (setB w g0 ob) ∧ RepM w M rt' T' false (putM (OK.hole x0).1 n ys) es2.toList gs' := by
              obtain ⟨u1, u2⟩ := run_upd (v := a.eval v) (k := n) t1 t2 k4
              rcases r3 with ⟨f1, f2⟩ | ⟨j, v1, e0, f1, f2, f3, f4⟩
              · obtain ⟨es3, c1, c2⟩ := f2 cl
                exact ⟨_, _, _, rfl, u1 f1, by rw [Array.toList_push, ← c2]; exact c1⟩
              · rw [Nat.zero_add] at f1
                exact ⟨_, _, _, rfl, u2 j v1 e0 f1 (by simpa using f2) f3, by rw [Array.toList_modify, ← f4]; exact r1⟩
            subst hob
            obtain ⟨w1, w2, w3⟩ := setB_heap (ob := .map es2 cl2) k4
            have hnd : (inn c ++ gi).Nodup := by
              rw [k2] at k3
              refine List.nodup_append.2 ⟨hBc.nodup, (List.nodup_cons.1 k3).2, fun g hg g' hg' e => ?_⟩
              subst e
              exact hsep g (by rw [k2]; exact List.mem_cons_of_mem _ hg') hg
            have hg0 : g0 ∉ inn c ++ gi := fun hm => by
              rcases List.mem_append.1 hm with hm | hm
              · exact hsep g0 (by rw [k2]; simp) hm
              · rw [k2] at k3; exact (List.nodup_cons.1 k3).1 hm
            have hin : ∀ g ∈ gs', g ∈ inn c ∨ g ∈ gi := fun g hg => List.mem_append.1 (r2.mem_iff.1 hg)
            have hcell : ∀ p, M p → (setB w g0 (.map es2 cl2)).cell? p = w.cell? p := fun p hp => setB_cell k4 fun e => by
              have := hMn p hp (by rw [k2, e]; simp)
              omega
            have hE : ExtW W (setB w g0 (.map es2 cl2)) := setB_ext h.ext k4 (hfr g0 (by rw [k2]; simp))
            have old : ∀ {d C}, lk (setAll S.heap [(c, none), (b, some (.obj (.mp false rt' T') (putM (OK.hole x0).1 n (castL rfl ys)) 0))]) d = some (some C) → (d = b ∧ C = .obj (.mp false rt' T') (putM (OK.hole x0).1 n (castL rfl ys)) 0) ∨ (d ≠ b ∧ d ≠ c ∧ lk S.heap d = some (some C)) := by
              intro d C hd
              simp only [setAll, lk_cons] at hd
              split at hd
              · rename_i e; cases hd; exact .inl ⟨e.symm, rfl⟩
              · rename_i e
                split at hd
                · cases hd
                · rename_i e'; exact .inr ⟨fun e2 => e e2.symm, fun e2 => e' e2.symm, hd⟩
            have hall : ∀ g ∈ g0 :: gs', g ∈ inn b ∨ g ∈ inn c := fun g hg => by
              rcases List.mem_cons.1 hg with rfl | hg
              · left; rw [k2]; simp
              · rcases hin g hg with hg | hg
                · exact .inr hg
                · left; rw [k2]; exact List.mem_cons_of_mem _ hg
            intro K Q hK
            refine wp_skp (w' := setB w g0 (.map es2 cl2)) (by simp [execOp, ho, hv, hi, hrun]) (hK _ _ ⟨hdr, fun d => if d = b then g0 :: gs' else inn d, M, ?_⟩)
            refine h.step hE (by rw [w3]; exact Nat.le_refl _) hcell (fun _ h => h) (fun _ _ h => h) (fun p hp => ⟨by rw [w3]; exact h.ml p hp, h.mo p hp⟩) ?_ ?_ ?_ trivial
            · intro d hd
              simp only [setAll, lk_cons] at hd
              split at hd
              · cases hd
              · split at hd
                · cases hd
                · exact h.un d hd
            · intro d C hd
              rcases old hd with ⟨rfl, rfl⟩ | ⟨e1, e2, h0⟩
              · simp only [if_true]
                refine ⟨⟨_, hv0, .inr ⟨g0, es2, cl2, gs', hv, rfl, List.nodup_cons.2 ⟨fun hm => hg0 (r2.mem_iff.1 hm), r2.nodup_iff.2 hnd⟩, w1, ?_⟩, fun g hg => ?_, fun p hp hm => ?_⟩, fun hf => by simp [Blk.fz] at hf⟩
                · exact hrep.keep hcell (fun _ h => h) fun g hg => w2 g fun e => hg0 (by rw [← e]; exact r2.mem_iff.1 hg)
                · rcases hall g hg with hg | hg
                  · exact hfr g hg
                  · exact hcfr g hg
                · rcases hall _ hm with hm | hm
                  · exact hMn p hp hm
                  · exact absurd hm (hcM p hp)
              · simp only [e1, if_false]
                obtain ⟨u, hu, hr⟩ := h.hp d C h0
                exact ⟨⟨u, hu, hr.keep hcell (fun _ h => h) (fun _ _ h => h) fun g hg => ⟨w2 g fun e => h.sep b d _ C g0 (fun e => e1 e.symm) hb' h0 (by rw [k2]; simp) (by rw [← e]; exact hg), fun p hp _ => hp⟩⟩, h.ag d C h0⟩
            · intro d d' C C' g hdd hd hd' hg
              rcases old hd with ⟨rfl, _⟩ | ⟨e1, e2, h0⟩
              · rcases old hd' with ⟨rfl, _⟩ | ⟨f1, f2, k0⟩
                · exact absurd rfl hdd
                · simp only [if_true] at hg
                  simp only [f1, if_false]
                  rcases hall g hg with hg | hg
                  · exact h.sep _ d' _ C' g hdd hb' k0 hg
                  · exact h.sep c d' _ C' g (fun e => f2 e.symm) hc' k0 hg
              · simp only [e1, if_false] at hg
                rcases old hd' with ⟨rfl, _⟩ | ⟨f1, f2, k0⟩
                · simp only [if_true]
                  intro hg'
                  rcases hall g hg' with hg' | hg'
                  · exact h.sep d _ C _ g hdd h0 hb' hg hg'
                  · exact h.sep d c C _ g e2 h0 hc' hg hg'
                · simp only [f1, if_false]
                  exact h.sep d d' C C' g hdd h0 k0 hg
          · cases hk
        · cases hk
      · cases hk
    · cases hk
  · cases hk

/-! ### Frozen maps -/
theorem RepM.frozen {M' : Mem} {t : TypeId} {T : Ty} (hM : ∀ p, M p → M' p) : ∀ {x : List (Int × List T.den)} {es : List MapEntry} {gs : List Nat}, (∀ g ∈ gs, ∀ j, M' ⟨g, j, none⟩) → RepM w M t T false x es gs → RepM w M' t T true x es []
  | [], _, _, _, h => ⟨h.1, rfl⟩
  | p :: x, _, _, hg, ⟨en, es', g1, g2, h1, h2, h3, h4, h5⟩ => by
    subst h2
    refine ⟨en, es', [], [], h1, rfl, h3, ⟨?_, rfl⟩, RepM.frozen hM (fun g hm => hg g (List.mem_append.2 (.inr hm))) h5⟩
    rcases h4 with ⟨e1, e2, _⟩ | ⟨g, cap, us, e1, e2, k2, k3, k4, k5, k6⟩
    · rw [e1, e2]
      exact ⟨none, 0, [], rfl, Nat.le_refl _, Nat.zero_le _, rfl, .inl rfl⟩
    · subst e2
      rw [e1]
      refine ⟨_, cap, _, rfl, k3, k4, k6.mono fun _ _ h => RepD.keep (fun _ _ => rfl) hM h, .inr ⟨_, rfl, fun j u hu => ?_⟩⟩
      have hj : j < p.2.length * T.size := by have := (List.getElem?_eq_some_iff.1 hu).1; simp at this; omega
      rw [add_zero_block]
      refine ⟨?_, hg g (by simp) j⟩
      rw [heap_cell k2]
      rw [List.getElem?_take_of_lt hj] at hu
      simpa using hu
theorem Good.mfreeze1 (h : Good W M0 S hdr inn M a w) {b : Nat} {t : TypeId} {T : Ty} {x : (OK.mp false t T).den} (hb : lk S.heap b = some (some (.obj (.mp false t T) x 0))) : ∃ inn' M', Good W M0 ⟨S.tmps, (b, some (.obj (.mp true t T) x 0)) :: S.heap⟩ hdr inn' M' a w := by
  obtain ⟨v0, hv0, hO, hfr, hMn⟩ := h.hp b _ hb
  rcases hO with ⟨q1, _⟩ | ⟨g, es, cl, gi, k1, k2, k3, k4, k5⟩
  · cases q1
  have hM : ∀ p, M p → (M p ∨ p.block ∈ gi) := fun p hp => .inl hp
  have hgi : ∀ g' ∈ gi, g' ∈ inn b := fun g' hg => by rw [k2]; exact List.mem_cons_of_mem _ hg
  have hsep : ∀ c C, c ≠ b → lk S.heap c = some (some C) → ∀ p, (M p ∨ p.block ∈ gi) → p.block ∈ inn c → M p := fun c C hcb hc p hp hm => hp.elim id fun hp => absurd hm (h.sep b c _ C _ (fun e => hcb e.symm) hb hc (hgi _ hp))
  have old : ∀ {c C}, lk ((b, some (.obj (.mp true t T) x 0)) :: S.heap) c = some (some C) → (c = b ∧ C = .obj (.mp true t T) x 0) ∨ (c ≠ b ∧ lk S.heap c = some (some C)) := by
    intro c C hc
    simp only [lk_cons] at hc
    split at hc
    · rename_i e; cases hc; exact .inl ⟨e.symm, rfl⟩
    · rename_i e; exact .inr ⟨fun e2 => e e2.symm, hc⟩
  have lt : ∀ g' ∈ inn b, g' < w.heap.size := fun g' hg => by
    obtain ⟨v, hv, hr⟩ := h.hp b _ hb
    exact (hr.lt hg).1
  refine ⟨fun c => if c = b then [g] else inn c, fun p => M p ∨ p.block ∈ gi, h.ext, h.nod, h.len, fun t => (h.tm t).keep (fun _ _ => rfl) hM (fun _ _ h => h), ?_, ?_, ?_, ?_, ?_, ?_⟩
  · intro c C hc
    rcases old hc with ⟨rfl, rfl⟩ | ⟨e, h0⟩
    · refine ⟨v0, hv0, .inr ⟨g, es, cl, [], k1, by simp, by simp, k4, RepM.frozen hM (fun g' hg j => .inr hg) k5⟩, fun g' hg => ?_, fun p hp hm => ?_⟩
      · simp only [if_true, List.mem_singleton] at hg
        subst hg
        exact hfr g' (by rw [k2]; simp)
      · simp only [if_true, List.mem_singleton] at hm
        rcases hp with hp | hp
        · exact hMn p hp (by rw [k2, hm]; simp)
        · rw [k2] at k3
          rw [hm] at hp
          exact absurd hp (List.nodup_cons.1 k3).1
    · simp only [e, if_false]
      obtain ⟨v, hv, hr⟩ := h.hp c C h0
      exact ⟨v, hv, hr.keep (fun _ _ => rfl) hM (fun _ _ h => h) fun g' hg => ⟨rfl, fun p hp hm => hsep c C e h0 p hp (by rw [hm]; exact hg)⟩⟩
  · intro c hc
    simp only [lk_cons] at hc
    split at hc
    · cases hc
    · exact h.un c hc
  · intro c c' C C' g' hcc hc hc' hg
    have gm : g ∈ inn b := by rw [k2]; simp
    rcases old hc with ⟨rfl, _⟩ | ⟨e, h0⟩
    · rcases old hc' with ⟨rfl, _⟩ | ⟨e', h0'⟩
      · exact absurd rfl hcc
      · simp only [if_true, List.mem_singleton] at hg
        subst hg
        simp only [e', if_false]
        exact h.sep c c' _ C' g' hcc hb h0' gm
    · simp only [e, if_false] at hg
      rcases old hc' with ⟨rfl, _⟩ | ⟨e', h0'⟩
      · simp only [if_true, List.mem_singleton]
        intro he
        subst he
        exact h.sep c c' C _ g' hcc h0 hb hg gm
      · simp only [e', if_false]
        exact h.sep c c' C C' g' hcc h0 h0' hg
  · intro p hp
    rcases hp with hp | hp
    · exact h.ml p hp
    · exact lt _ (hgi _ hp)
  · intro p hp
    rcases hp with hp | hp
    · exact h.mo p hp
    · exact .inr ((hfr _ (hgi _ hp)).1 (by decide))
  · intro c C hc hf hf'
    rcases old hc with ⟨rfl, rfl⟩ | ⟨e, h0⟩
    · simp [Blk.fz] at hf
    · exact h.ag c C h0 hf hf'
theorem G.mfrozen : ∀ (ids : List Nat) {H : Heap} {tm : List AV}, G W M0 ⟨tm, H⟩ a w → G W M0 ⟨tm, mfreeze ids H⟩ a w
  | [], _, _, h => h
  | b :: r, H, tm, h => by
    unfold mfreeze
    refine G.mfrozen r ?_
    split
    · rename_i t T x hb
      obtain ⟨hdr, inn, M, hg⟩ := h
      obtain ⟨inn', M', hg'⟩ := hg.mfreeze1 (blkAt_some hb)
      exact ⟨_, _, _, hg'⟩
    · exact h
end
end Rx
end Go.Proofs.YthfgpnpoocepeaaGreat
