/- The evaluator's regions are true of the program's: those in the order of the text, and those that draw their order. No conditions. -/
import Derived.Test.YthfgpnpoocepeaaGreatRxK
namespace Go.Proofs.YthfgpnpoocepeaaGreat
open Go.RowKit
namespace Rx

section
variable {P : Program} {W : WX} {M0 : Mem} {S : St} {hdr : Nat → Option Value} {inn : Nat → List Nat} {M : Mem} {a : Act} {w : World} {o : Oper} {e : Eff} {id : Nat} {E : Env} {R : Type}

theorem set_same {l : List AV} {t : Nat} {v : AV} (h : (l[t]?).getD .undef = v) (hv : v ≠ .undef) : l.set t v = l := by
  apply List.ext_getElem?
  intro j
  by_cases hj : t = j
  · subst hj
    cases hl : l[t]? with
    | none => rw [hl] at h; exact absurd h.symm hv
    | some x =>
      rw [hl] at h
      have := (List.getElem?_eq_some_iff.1 hl).1
      simp [this]
      simpa using h.symm
  · rw [List.getElem?_set_ne hj]
theorem refine_same {t : Nat} {b : Bool} (h : (S.tmps[t]?).getD .undef = .v (.one (.bool b))) : S.refine t b = S := by
  unfold St.refine
  rw [set_same h (by simp)]

/-- An operation with its guard, by itself. -/
def opG (E : Env) (ops : Array Oper) (o : Oper) (S : St) : Option Eff := guardK E ops o S fun _ e => some e

theorem guard_some {ops : Array Oper} {k : St → Eff → Option R} {r : R} (h : guardK E ops o S k = some r) : ∃ e, opG E ops o S = some e ∧ k S e = some r := by
  unfold opG
  unfold guardK at h ⊢
  split at h
  · rename_i hg
    obtain ⟨e, h1, h2⟩ := opK_some h
    exact ⟨e, h1, h2⟩
  · rename_i j want hg
    split at h
    · cases h
    · rename_i t ht
      dsimp only
      split at h
      · rename_i b hb
        cases b
        · have hs := refine_same hb
          cases want
          · rcases br_some h with ⟨hc, _⟩ | ⟨_, h⟩
            · cases hc
            · rw [hs] at h
              obtain ⟨e, h1, h2⟩ := opK_some h
              refine ⟨e, ?_, h2⟩
              simp only [br, hs]; exact h1
          · rcases br_some h with ⟨hc, _⟩ | ⟨_, h⟩
            · cases hc
            · rw [hs] at h
              exact ⟨_, rfl, h⟩
        · have hs := refine_same hb
          cases want
          · rcases br_some h with ⟨_, h⟩ | ⟨hc, _⟩
            · rw [hs] at h
              exact ⟨_, rfl, h⟩
            · cases hc
          · rcases br_some h with ⟨_, h⟩ | ⟨hc, _⟩
            · rw [hs] at h
              obtain ⟨e, h1, h2⟩ := opK_some h
              refine ⟨e, ?_, h2⟩
              simp only [br, hs]; exact h1
            · cases hc
      · exact ⟨_, rfl, h⟩
      · cases h

/-- What a guarded operation comes to. -/
inductive GCase (E : Env) (ops : Array Oper) (o : Oper) (S : St) (e : Eff) : Prop where
  | free (hg : o.guard = none) (hk : opK E o.op (blockId o.dst) S some = some e)
  | yes (j : Nat) (t : Tmp) (b : Bool) (hg : o.guard = some (j, b)) (ht : (ops[j]?).bind (·.dst) = some t) (hb : (S.tmps[t]?).getD .undef = .v (.one (.bool b))) (hk : opK E o.op (blockId o.dst) S some = some e)
  | no (j : Nat) (t : Tmp) (b : Bool) (hg : o.guard = some (j, !b)) (ht : (ops[j]?).bind (·.dst) = some t) (hb : (S.tmps[t]?).getD .undef = .v (.one (.bool b))) (he : e = ⟨.tup [], [], []⟩)
  | skip (j : Nat) (t : Tmp) (b : Bool) (hg : o.guard = some (j, b)) (ht : (ops[j]?).bind (·.dst) = some t) (hb : (S.tmps[t]?).getD .undef = .tup []) (he : e = ⟨.tup [], [], []⟩)

theorem opG_iff {ops : Array Oper} : opG E ops o S = some e ↔ GCase E ops o S e := by
  constructor
  · intro h
    unfold opG guardK at h
    split at h
    · rename_i hg
      exact .free hg h
    · rename_i j want hg
      split at h
      · cases h
      · rename_i t ht
        split at h
        · rename_i b hb
          have hs := refine_same hb
          cases b <;> cases want <;> simp only [br, hs] at h
          · exact .yes j t false hg ht hb h
          · cases h; exact .no j t false hg ht hb rfl
          · cases h; exact .no j t true hg ht hb rfl
          · exact .yes j t true hg ht hb h
        · rename_i hb
          cases h; exact .skip j t want hg ht hb rfl
        · cases h
  · intro h
    cases h with
    | free hg hk => unfold opG guardK; simp only [hg]; exact hk
    | yes j t b hg ht hb hk =>
      have hs := refine_same hb
      unfold opG guardK; simp only [hg, ht, hb]
      cases b <;> simp only [br, hs] <;> exact hk
    | no j t b hg ht hb he =>
      unfold opG guardK; simp only [hg, ht, hb, he]
      cases b <;> rfl
    | skip j t b hg ht hb he =>
      unfold opG guardK; simp only [hg, ht, hb, he]

theorem yielded_of {ops : Array Oper} {j : Nat} {t : Tmp} {b : Bool} (h : Good W M0 S hdr inn M a w) (ht : (ops[j]?).bind (·.dst) = some t) (hb : (S.tmps[t]?).getD .undef = .v (.one (.bool b))) : yielded ops a.tmps j = some b := by
  have := h.tm t
  rw [hb] at this
  have hv : a.tmps.getD t undef = .bool b := this
  unfold yielded
  rw [ht, Option.bind_some]
  by_cases hlt : t < a.tmps.size
  · simp [hlt] at hv ⊢
    rw [hv]
  · simp [hlt] at hv
    cases hv

theorem yielded_skip {ops : Array Oper} {j : Nat} {t : Tmp} (h : Good W M0 S hdr inn M a w) (ht : (ops[j]?).bind (·.dst) = some t) (hb : (S.tmps[t]?).getD .undef = .tup []) : yielded ops a.tmps j = none := by
  have := h.tm t
  rw [hb] at this
  obtain ⟨l, hv, hl⟩ := this
  have hv : a.tmps.getD t undef = .tuple l.toArray := hv
  unfold yielded
  rw [ht, Option.bind_some]
  by_cases hlt : t < a.tmps.size
  · simp [hlt] at hv ⊢
    rw [hv]
  · simp [hlt]

theorem opG_sound {ops : Array Oper} (hE : EnvOK P E) (h : Good W M0 S hdr inn M a w) (hk : opG E ops o S = some e) :
    (Region.wanted o (yielded ops a.tmps) = true ∧ Sound P W M0 S a w o e) ∨ (Region.wanted o (yielded ops a.tmps) = false ∧ G W M0 (S.app o.dst e) (a.put o.dst undef) w) := by
  rcases opG_iff.1 hk with ⟨hg, hk⟩ | ⟨j, t, b, hg, ht, hb, hk⟩ | ⟨j, t, b, hg, ht, hb, he⟩ | ⟨j, t, b, hg, ht, hb, he⟩
  · exact .inl ⟨by simp [Region.wanted, hg], op_sound hE h hk⟩
  · exact .inl ⟨by simp [Region.wanted, hg, yielded_of h ht hb], op_sound hE h hk⟩
  · subst he
    refine .inr ⟨?_, hdr, inn, M, h.val ⟨[], rfl, trivial⟩⟩
    simp [Region.wanted, hg, yielded_of h ht hb]
  · subst he
    refine .inr ⟨?_, hdr, inn, M, h.val ⟨[], rfl, trivial⟩⟩
    simp [Region.wanted, hg, yielded_skip h ht hb]

theorem runOps_sound {ops : Array Oper} {Q : Exit → Act → World → Prop} (hE : EnvOK P E) {k : St → Option R} {r : R} (hQ : ∀ S' a' w', k S' = some r → G W M0 S' a' w' → Q .normal a' w') :
    ∀ (l : List Oper) (S : St) (a : Act) (w : World), runOps E ops l S k = some r → G W M0 S a w → wpList P ops Q l a w
  | [], S, a, w, h, hG => hQ S a w h hG
  | o :: rest, S, a, w, h, hG => by
    obtain ⟨hdr, inn, M, hg⟩ := hG
    unfold runOps at h
    obtain ⟨e, h1, h2⟩ := guard_some h
    rw [appK_eq] at h2
    unfold wpList
    rcases opG_sound hE hg h1 with ⟨hw, hs⟩ | ⟨hw, hs⟩
    · rw [if_pos hw]
      exact .inl (hs _ _ fun a' w' hG' => runOps_sound hE hQ rest _ a' w' h2 hG')
    · rw [if_neg (by rw [hw]; simp)]
      exact runOps_sound hE hQ rest _ _ w h2 hs

/-! ### An operation looks at what it says it looks at -/
theorem opK_ev {o : Op} {S S2 : St} (hev : ∀ x ∈ o.operands.toList, S.ev x = S2.ev x) (hh : S.heap = S2.heap) (k : Eff → Option R) : opK E o id S k = opK E o id S2 k := by
  have mapev : ∀ l : List Operand, (∀ x ∈ l, S.ev x = S2.ev x) → l.map S.ev = l.map S2.ev := fun l h => List.map_congr_left h
  cases o with
  | move x => simp only [opK, hev x (by simp [Op.operands])]
  | assign x => simp only [opK, hev x (by simp [Op.operands])]
  | pick c x y => simp only [opK, hev c (by simp [Op.operands]), hev x (by simp [Op.operands]), hev y (by simp [Op.operands])]
  | alloc t => simp only [opK, hh]
  | box t x => simp only [opK, hev x (by simp [Op.operands]), hh]
  | build t ps =>
    have : (ps.toList.map fun p => (p.1, S.ev p.2)) = ps.toList.map fun p => (p.1, S2.ev p.2) := List.map_congr_left fun p hp => by
      rw [hev p.2 (by simp only [Op.operands]; exact List.mem_map_of_mem hp)]
    simp only [opK, this]
  | buildSlice t n ps =>
    have : (ps.toList.map fun p => (p.1, S.ev p.2)) = ps.toList.map fun p => (p.1, S2.ev p.2) := List.map_congr_left fun p hp => by
      rw [hev p.2 (by simp only [Op.operands]; exact List.mem_map_of_mem hp)]
    simp only [opK, this, hh]
  | load t x => simp only [opK, hev x (by simp [Op.operands]), hh]
  | store t x y => simp only [opK, hev x (by simp [Op.operands]), hev y (by simp [Op.operands]), hh]
  | nilCheck x => simp only [opK, hev x (by simp [Op.operands])]
  | binOp b t x y ty => simp only [opK, hev x (by simp [Op.operands]), hev y (by simp [Op.operands]), hh]
  | makeMap t r => simp only [opK, hh]
  | lookup t x y ok => simp only [opK, hev x (by simp [Op.operands]), hev y (by simp [Op.operands]), hh]
  | mapUpdate t x y v => simp only [opK, hev x (by simp [Op.operands]), hev y (by simp [Op.operands]), hev v (by simp [Op.operands]), hh]
  | unOp u t x => simp only [opK, hev x (by simp [Op.operands])]
  | convert s d x => simp only [opK, hev x (by simp [Op.operands]), hh]
  | makeSlice t x y => simp only [opK, hev x (by simp [Op.operands]), hev y (by simp [Op.operands]), hh]
  | fieldAddr t x f => simp only [opK, hev x (by simp [Op.operands])]
  | field t x f => simp only [opK, hev x (by simp [Op.operands])]
  | indexAddr t x y => simp only [opK, hev x (by simp [Op.operands]), hev y (by simp [Op.operands]), hh]
  | index t x y => simp only [opK, hev x (by simp [Op.operands]), hev y (by simp [Op.operands])]
  | extract x n => simp only [opK, hev x (by simp [Op.operands])]
  | makeFunc fn first caps =>
    simp only [opK]
    split
    · rfl
    · rename_i f x h1 h2
      have e2 : caps = #[x] := by apply Array.ext'; simpa using h2
      rw [hev x (by subst e2; simp [Op.operands])]
    · rfl
  | slice t x lo hi mx =>
    have b1 : ∀ d, boundOf S lo d = boundOf S2 lo d := by
      intro d; cases lo with
      | none => rfl
      | some y => simp only [boundOf, hev y (by simp [Op.operands])]
    have b2 : ∀ d, boundOf S hi d = boundOf S2 hi d := by
      intro d; cases hi with
      | none => rfl
      | some y => simp only [boundOf, hev y (by simp [Op.operands])]
    simp only [opK, hev x (by simp [Op.operands]), b1, b2, hh]
  | call c =>
    have hm : c.args.toList.map S.ev = c.args.toList.map S2.ev := mapev _ fun x hx => hev x (by simp only [Op.operands, Call.operands, Array.toList_append, List.mem_append]; exact .inr hx)
    have hm1 : ∀ x, x ∈ c.args.toList → S.ev x = S2.ev x := fun x hx => hev x (by simp only [Op.operands, Call.operands, Array.toList_append, List.mem_append]; exact .inr hx)
    simp only [opK]
    split
    · split
      · simp only [callK, hm, hh]
      · split
        · simp only [mcallK, hm, hh]
        · simp only [hm, hh]
    · rename_i x _ hc
      have hx : S.ev x = S2.ev x := hev x (by simp only [Op.operands, Call.operands, Array.toList_append, List.mem_append]; exact .inl (by rw [hc]; simp))
      rw [← hx]
      split
      · split
        · simp only [callK, hm, hh]
        · rfl
      · split
        · simp only [callK, hm, hh]
        · rfl
      · rfl
    · split
      · rename_i t x ht hx
        rw [hm1 x (by rw [hx]; simp), hh]
      · rfl
    · have : ∀ l : List Operand, (∀ x ∈ l, S.ev x = S2.ev x) → (l.mapM fun x => intOfAV (S.ev x)) = l.mapM fun x => intOfAV (S2.ev x) := by
        intro l
        induction l with
        | nil => intro _; rfl
        | cons x l ih =>
          intro h
          rw [List.mapM_cons, List.mapM_cons, h x (by simp), ih fun y hy => h y (by simp [hy])]
      rw [this _ hm1]
    · have : ∀ l : List Operand, (∀ x ∈ l, S.ev x = S2.ev x) → (l.mapM fun x => intOfAV (S.ev x)) = l.mapM fun x => intOfAV (S2.ev x) := by
        intro l
        induction l with
        | nil => intro _; rfl
        | cons x l ih =>
          intro h
          rw [List.mapM_cons, List.mapM_cons, h x (by simp), ih fun y hy => h y (by simp [hy])]
      rw [this _ hm1]
    · split
      · rename_i t t2 s x ht hx
        rw [hm1 s (by rw [hx]; simp), hm1 x (by rw [hx]; simp), hh]
      · rfl
    · rfl
  | _ => rfl

theorem blkAt_eq {H H' : Heap} {b : Nat} (h : lk H b = lk H' b) : blkAt H b = blkAt H' b := by unfold blkAt; rw [h]
theorem isNew_eq {H H' : Heap} {b : Nat} (h : lk H b = lk H' b) : isNew H b = isNew H' b := by unfold isNew; rw [h]

theorem takeD_eq {H H' : Heap} : ∀ {T : Ty} {cs : List Cell}, (∀ b ∈ rowsIn cs, lk H b = lk H' b) → takeD H T cs = takeD H' T cs ∧ ∀ x, takeD H T cs = some x → ∀ b ∈ rowsIn x.2, b ∈ rowsIn cs
  | .unit, cs, h => ⟨by first | rfl | trivial, fun x hx b hb => by simp only [takeD] at hx; cases hx; exact hb⟩
  | .pair A B, cs, h => by
    obtain ⟨e1, s1⟩ := takeD_eq (T := A) h
    simp only [takeD]
    rw [← e1]
    cases hx : takeD H A cs with
    | none => exact ⟨by first | rfl | trivial, fun x hx => by cases hx⟩
    | some x =>
      have sx := s1 x hx
      obtain ⟨e2, s2⟩ := takeD_eq (T := B) (cs := x.2) fun b hb => h b (sx b hb)
      simp only [Option.bind_some]
      rw [← e2]
      refine ⟨rfl, fun z hz b hb => ?_⟩
      obtain ⟨y, hy, hz⟩ := Option.bind_eq_some_iff.1 hz
      cases hz
      exact sx b (s2 y hy b hb)
  | .int k, cs, h => by
    simp only [takeD]
    split
    · split
      · exact ⟨by first | rfl | trivial, fun x hx b hb => by cases hx; simpa [rowsIn] using hb⟩
      · exact ⟨by first | rfl | trivial, fun x hx => by cases hx⟩
    · exact ⟨by first | rfl | trivial, fun x hx => by cases hx⟩
  | .bool, cs, h => by
    simp only [takeD]
    split
    · exact ⟨by first | rfl | trivial, fun x hx b hb => by cases hx; simpa [rowsIn] using hb⟩
    · exact ⟨by first | rfl | trivial, fun x hx => by cases hx⟩
  | .str, cs, h => by
    simp only [takeD]
    split
    · exact ⟨by first | rfl | trivial, fun x hx b hb => by cases hx; simpa [rowsIn] using hb⟩
    · exact ⟨by first | rfl | trivial, fun x hx => by cases hx⟩
  | .slice T, cs, h => by
    simp only [takeD]
    split
    · split
      · exact ⟨by first | rfl | trivial, fun x hx b hb => by cases hx; simpa [rowsIn] using hb⟩
      · exact ⟨by first | rfl | trivial, fun x hx => by cases hx⟩
    · split
      · exact ⟨by first | rfl | trivial, fun x hx b hb => by cases hx; simpa [rowsIn] using hb⟩
      · exact ⟨by first | rfl | trivial, fun x hx => by cases hx⟩
    · exact ⟨by first | rfl | trivial, fun x hx b hb => by cases hx; simpa [rowsIn] using hb⟩
    · rename_i c r
      have := h c (by simp [rowsIn])
      rw [← blkAt_eq this]
      refine ⟨by first | rfl | trivial, fun x hx b hb => ?_⟩
      split at hx
      · split at hx
        · cases hx; simp only [rowsIn, List.mem_cons]; exact .inr hb
        · cases hx
      · split at hx
        · cases hx; simp only [rowsIn, List.mem_cons]; exact .inr hb
        · cases hx
      · split at hx
        · cases hx; simp only [rowsIn, List.mem_cons]; exact .inr hb
        · cases hx
      · cases hx
    · exact ⟨by first | rfl | trivial, fun x hx => by cases hx⟩
  | .ref T, cs, h => by
    simp only [takeD]
    split
    · split
      · exact ⟨by first | rfl | trivial, fun x hx b hb => by cases hx; simpa [rowsIn] using hb⟩
      · exact ⟨by first | rfl | trivial, fun x hx => by cases hx⟩
    · rename_i c r
      have := h c (by simp [rowsIn])
      rw [← blkAt_eq this]
      split
      · rename_i t cs' fz hb
        split
        · rename_i hr
          have hT := (takeD_eq (H := H) (H' := H') (T := T) (cs := cs') fun b hb => by rw [hr] at hb; cases hb).1
          rw [hT]
          refine ⟨rfl, fun x hx b hb => ?_⟩
          obtain ⟨y, hy, hx⟩ := Option.bind_eq_some_iff.1 hx
          split at hx
          · cases hx; simp only [rowsIn, List.mem_cons]; exact .inr hb
          · cases hx
        · exact ⟨by first | rfl | trivial, fun x hx => by cases hx⟩
      · exact ⟨by first | rfl | trivial, fun x hx => by cases hx⟩
    · exact ⟨by first | rfl | trivial, fun x hx => by cases hx⟩
  | .clo f T, cs, h => by
    simp only [takeD]
    split
    · split
      · split
        · exact ⟨by first | rfl | trivial, fun x hx b hb => by cases hx; simpa [rowsIn] using hb⟩
        · exact ⟨by first | rfl | trivial, fun x hx => by cases hx⟩
      · exact ⟨by first | rfl | trivial, fun x hx => by cases hx⟩
    · rename_i f' c r
      split
      · have := h c (by simp [rowsIn])
        rw [← blkAt_eq this]
        split
        · rename_i t cs' fz hb
          split
          · rename_i hr
            have hT := (takeD_eq (H := H) (H' := H') (T := T) (cs := cs') fun b hb => by rw [hr] at hb; cases hb).1
            rw [hT]
            refine ⟨rfl, fun x hx b hb => ?_⟩
            obtain ⟨y, hy, hx⟩ := Option.bind_eq_some_iff.1 hx
            split at hx
            · cases hx; simp only [rowsIn, List.mem_cons]; exact .inr hb
            · cases hx
          · exact ⟨by first | rfl | trivial, fun x hx => by cases hx⟩
        · exact ⟨by first | rfl | trivial, fun x hx => by cases hx⟩
      · exact ⟨by first | rfl | trivial, fun x hx => by cases hx⟩
    · exact ⟨by first | rfl | trivial, fun x hx => by cases hx⟩
theorem takeV_eq {H H' : Heap} {T : Ty} {x : V1} (h : ∀ b ∈ rowsIn x.cells, lk H b = lk H' b) : takeV H T x = takeV H' T x := by
  unfold takeV takeAll
  rw [(takeD_eq h).1]
theorem takeVR_eq {H H' : Heap} {T : Ty} {x : V1} (h : ∀ b ∈ rowsIn x.cells, lk H b = lk H' b ∧ ∀ c ∈ nestRows H b, lk H c = lk H' c) : takeVR H T x = takeVR H' T x := by
  unfold takeVR
  rw [takeV_eq fun b hb => (h b hb).1]
  split
  · rfl
  · split
    · rename_i e b _ _
      have hb := h b (by simp [V1.cells, rowsIn])
      rw [← blkAt_eq hb.1]
      cases hc : blkAt H b with
      | none => rfl
      | some B =>
        cases B with
        | row t e xs fz => rfl
        | deep t R xs op fz => rfl
        | obj o x fz => rfl
        | cells t cs fz =>
          show takeAll H e cs = takeAll H' e cs
          unfold takeAll
          rw [(takeD_eq fun c hm => hb.2 c (by unfold nestRows; rw [hc]; exact hm)).1]
    · rfl
theorem nestRows_eq {H H' : Heap} {b : Nat} (h : lk H b = lk H' b) : nestRows H b = nestRows H' b := by
  unfold nestRows
  rw [blkAt_eq h]
theorem argRows_eq {H H' : Heap} {args : List AV} (h : ∀ b ∈ rowsIn (args.flatMap avCells), lk H b = lk H' b) : argRows H args = argRows H' args := by
  unfold argRows
  dsimp only
  congr 1
  rw [List.flatMap_def, List.flatMap_def (f := nestRows H'), List.map_congr_left fun b hb => nestRows_eq (h b hb)]
theorem argsD_eq {H H' : Heap} : ∀ {Ts : List Ty} {xs : List AV}, (∀ b ∈ rowsIn (xs.flatMap avCells), lk H b = lk H' b ∧ ∀ c ∈ nestRows H b, lk H c = lk H' c) → argsD H Ts xs = argsD H' Ts xs
  | [], _, _ => rfl
  | [T], [], _ => rfl
  | [T], .undef :: _, _ => rfl
  | [T], .tup _ :: _, _ => rfl
  | [T], .v y :: _ :: _, _ => rfl
  | [T], [.v y], h => takeVR_eq fun b hb => h b (by simpa [avCells] using hb)
  | T :: U :: Ts, [], _ => rfl
  | T :: U :: Ts, .undef :: _, _ => rfl
  | T :: U :: Ts, .tup _ :: _, _ => rfl
  | T :: U :: Ts, .v y :: r, h => by
    have e1 : takeVR H T y = takeVR H' T y := takeVR_eq fun b hb => h b (by simp only [List.flatMap_cons, rowsIn_append, List.mem_append, avCells]; exact .inl hb)
    have e2 := argsD_eq (H := H) (H' := H') (Ts := U :: Ts) (xs := r) fun b hb => h b (by simp only [List.flatMap_cons, rowsIn_append, List.mem_append]; exact .inr hb)
    show ((takeVR H T y).bind fun d => (argsD H (U :: Ts) r).bind fun ds => some (d, ds)) = ((takeVR H' T y).bind fun d => (argsD H' (U :: Ts) r).bind fun ds => some (d, ds))
    rw [e1, e2]
theorem takeW_eq {H H' : Heap} : ∀ {T : RTy} {cs : List Cell} {q : T.den × List Cell × List Nat × List Nat}, takeW H T cs = some q → (∀ b ∈ q.2.2.1, lk H b = lk H' b) → (∀ b ∈ q.2.2.2, lk H b = lk H' b) → takeW H' T cs = some q
  | .d T, cs, q, h, h1, h2 => by
    unfold takeW at h ⊢
    obtain ⟨y, hy, h⟩ := Option.map_eq_some_iff.1 h
    cases h
    have : takeAll H' T (cs.take T.size) = some y := by
      unfold takeAll at hy ⊢
      rw [← (takeD_eq (H := H) (H' := H') (cs := cs.take T.size) h2).1]; exact hy
    rw [this]; rfl
  | .row t T, cs, q, h, h1, h2 => by
    unfold takeW at h ⊢
    split at h
    · rename_i b r
      split at h
      · rename_i t' e' xs fz hb
        split at h
        · rename_i hT
          split at h
          · rename_i ht
            cases h
            rw [← blkAt_eq (h1 b (by simp)), hb]
            simp only
            rw [dif_pos hT, if_pos ht]
          · cases h
        · cases h
      · cases h
    · cases h
  | .pair A B, cs, q, h, h1, h2 => by
    unfold takeW at h ⊢
    obtain ⟨y, hy, h⟩ := Option.bind_eq_some_iff.1 h
    obtain ⟨z, hz, h⟩ := Option.bind_eq_some_iff.1 h
    cases h
    rw [takeW_eq hy (fun b hb => h1 b (List.mem_append.2 (.inl hb))) (fun b hb => h2 b (List.mem_append.2 (.inl hb)))]
    simp only [Option.bind_some]
    rw [takeW_eq hz (fun b hb => h1 b (List.mem_append.2 (.inr hb))) (fun b hb => h2 b (List.mem_append.2 (.inr hb)))]
    rfl
  | .box t T, cs, q, h, h1, h2 => by
    unfold takeW at h ⊢
    split at h
    · rename_i b r
      split at h
      · rename_i t' cs' fz hb
        split at h
        · rename_i ht
          obtain ⟨d, hd, h⟩ := Option.map_eq_some_iff.1 h
          cases h
          rw [← blkAt_eq (h1 b (by simp)), hb]
          simp only
          rw [if_pos ht, hd]; rfl
        · cases h
      · cases h
    · cases h
  | .deep t T, cs, q, h, h1, h2 => by
    unfold takeW at h ⊢
    split at h
    · rename_i b r
      split at h
      · rename_i t' e' xs fz hb
        split at h
        · rename_i hT
          split at h
          · rename_i ht
            cases h
            rw [← blkAt_eq (h1 b (by simp)), hb]
            simp only
            rw [dif_pos hT, if_pos ht]
          · cases h
        · cases h
      · cases h
    · cases h
theorem takeO_eq {H H' : Heap} {fz : Nat} : ∀ {T : RTy} {cs : List Cell} {q : T.den × List Cell × List Nat}, takeO H fz T cs = some q → (∀ b ∈ q.2.2, lk H b = lk H' b) → takeO H' fz T cs = some q
  | .d T, cs, q, h, _ => h
  | .row t T, cs, q, h, h1 => by
    unfold takeO at h ⊢
    split at h
    · exact h
    · rename_i b r
      split at h
      · rename_i t' e' xs fz hb
        split at h
        · rename_i hT
          split at h
          · rename_i ht
            cases h
            rw [← blkAt_eq (h1 b (by simp)), hb]
            simp only
            rw [dif_pos hT, if_pos ht]
          · cases h
        · cases h
      · cases h
    · cases h
  | .pair A B, cs, q, h, h1 => by
    unfold takeO at h ⊢
    obtain ⟨y, hy, h⟩ := Option.bind_eq_some_iff.1 h
    obtain ⟨z, hz, h⟩ := Option.bind_eq_some_iff.1 h
    cases h
    rw [takeO_eq hy (fun b hb => h1 b (List.mem_append.2 (.inl hb)))]
    simp only [Option.bind_some]
    rw [takeO_eq hz (fun b hb => h1 b (List.mem_append.2 (.inr hb)))]
    rfl
  | .box t T, cs, q, h, _ => by unfold takeO at h; cases h
  | .deep t T, cs, q, h, _ => by unfold takeO at h; cases h
theorem takeE_eq {H H' : Heap} {fz : Nat} {T : RTy} {cs : List Cell} {q : T.den × List Nat} (h : takeE H fz T cs = some q) (h1 : ∀ b ∈ q.2, lk H b = lk H' b) : takeE H' fz T cs = some q := by
  unfold takeE at h ⊢
  obtain ⟨y, hy, h⟩ := Option.bind_eq_some_iff.1 h
  split at h
  · rename_i hn
    cases h
    rw [takeO_eq hy h1]
    simp only [Option.bind_some, hn]
  · cases h
theorem partsO_eq {H H' : Heap} {T : RTy} : ∀ {n : Nat} {ps : List (Nat × AV)} {q : List T.den × List Nat}, partsO H T n ps = some q → (∀ b ∈ q.2, lk H b = lk H' b) → partsO H' T n ps = some q
  | n, [], q, h, _ => by simp only [partsO] at h ⊢; exact h
  | n, (i, .undef) :: _, q, h, _ => by simp [partsO] at h
  | n, (i, .tup _) :: _, q, h, _ => by simp [partsO] at h
  | n, (i, .v x) :: r, q, h, h1 => by
    simp only [partsO] at h ⊢
    split at h
    · rename_i hi
      rw [if_pos hi]
      obtain ⟨d, hd, h⟩ := Option.bind_eq_some_iff.1 h
      obtain ⟨ds, hds, h⟩ := Option.bind_eq_some_iff.1 h
      cases h
      rw [takeE_eq hd (fun b hb => h1 b (List.mem_append.2 (.inl hb)))]
      simp only [Option.bind_some]
      rw [partsO_eq hds (fun b hb => h1 b (List.mem_append.2 (.inr hb)))]
      rfl
    · cases h
theorem openK_three {β : Type} (H : Heap) (b : Nat) (t : TypeId) (T : RTy) (xs : List T.den) (op : Option (Nat × List Cell)) (fz n id : Nat) (f : List Cell → List (Nat × Option Blk) → List Nat → Option β) : openK H b t T xs op fz n id f = (openK H b t T xs op fz n id fun a b c => some (a, b, c)).bind fun q => f q.1 q.2.1 q.2.2 := by
  rw [openK_bind]
  rfl
theorem openK_eq {H H' : Heap} {b : Nat} {t : TypeId} {T : RTy} {xs : List T.den} {op : Option (Nat × List Cell)} {fz n id : Nat} {q : List Cell × List (Nat × Option Blk) × List Nat} (h : openK H b t T xs op fz n id (fun a b c => some (a, b, c)) = some q) (h1 : ∀ b ∈ q.2.2, lk H b = lk H' b) :
    openK H' b t T xs op fz n id (fun a b c => some (a, b, c)) = some q := by
  unfold openK at h ⊢
  split at h
  · obtain ⟨x, hx, h⟩ := ob_some h
    obtain ⟨hc, h⟩ := chk_some h
    cases h
    simp only [hx, ob]
    rw [Bool.and_eq_true] at hc
    have : ((openC (Rx.inner fz) T x id).2.1.map (·.1)).all (isNew H') = true := by
      rw [List.all_eq_true] at hc ⊢
      intro c hm
      rw [← isNew_eq (h1 c hm)]
      exact hc.1 c hm
    rw [this, hc.2]
    rfl
  · exact h
theorem takeA_eq {H H' : Heap} {A : ATy} {x : V1} {q : A.den × List Nat × List Nat} (h : takeA H A x = some q) (h1 : ∀ b ∈ q.2.1, lk H b = lk H' b) (h2 : ∀ b ∈ q.2.2, lk H b = lk H' b) : takeA H' A x = some q := by
  cases A with
  | v R =>
    simp only [takeA] at h ⊢
    split at h
    · rename_i hs
      rw [if_pos hs]
      obtain ⟨y, hy, h⟩ := Option.bind_eq_some_iff.1 h
      split at h
      · rename_i hn
        cases h
        rw [takeW_eq hy h1 h2]
        simp only [Option.bind_some, hn]
      · cases h
    · cases h
  | box t T =>
    simp only [takeA] at h ⊢
    split at h
    · rename_i b
      split at h
      · rename_i t' cs fz hb
        split at h
        · rename_i ht
          obtain ⟨d, hd, h⟩ := Option.map_eq_some_iff.1 h
          cases h
          rw [← blkAt_eq (h1 b (by simp)), hb]
          simp only
          rw [if_pos ht, hd]; rfl
        · cases h
      · cases h
    · cases h
theorem argsA_eq {H H' : Heap} : ∀ {As : List ATy} {xs : List AV} {q : ADens As × List Nat × List Nat}, argsA H As xs = some q → (∀ b ∈ q.2.1, lk H b = lk H' b) → (∀ b ∈ q.2.2, lk H b = lk H' b) → argsA H' As xs = some q
  | [], [], q, h, _, _ => h
  | [], _ :: _, q, h, _, _ => none_some h
  | [A], [], _, h, _, _ => none_some h
  | [A], .undef :: _, _, h, _, _ => none_some h
  | [A], .tup _ :: _, _, h, _, _ => none_some h
  | [A], .v y :: _ :: _, _, h, _, _ => none_some h
  | [A], [.v y], q, h, h1, h2 => takeA_eq (A := A) (x := y) h h1 h2
  | A :: B :: As, [], _, h, _, _ => none_some h
  | A :: B :: As, .undef :: _, _, h, _, _ => none_some h
  | A :: B :: As, .tup _ :: _, _, h, _, _ => none_some h
  | A :: B :: As, .v y :: r, q, h, h1, h2 => by
    have h' : ((takeA H A y).bind fun d => (argsA H (B :: As) r).bind fun ds => some ((d.1, ds.1), d.2.1 ++ ds.2.1, d.2.2 ++ ds.2.2)) = some q := h
    obtain ⟨d, hd, h'⟩ := Option.bind_eq_some_iff.1 h'
    obtain ⟨ds, hds, h'⟩ := Option.bind_eq_some_iff.1 h'
    cases h'
    show ((takeA H' A y).bind fun d => (argsA H' (B :: As) r).bind fun ds => some ((d.1, ds.1), d.2.1 ++ ds.2.1, d.2.2 ++ ds.2.2)) = _
    rw [takeA_eq hd (fun b hb => h1 b (List.mem_append.2 (.inl hb))) (fun b hb => h2 b (List.mem_append.2 (.inl hb)))]
    simp only [Option.bind_some]
    rw [argsA_eq hds (fun b hb => h1 b (List.mem_append.2 (.inr hb))) (fun b hb => h2 b (List.mem_append.2 (.inr hb)))]
    rfl
theorem bytesK_eq {E : Env} {H H' : Heap} {i' i : TI} {x : AV} {e : Eff} (hk : bytesK E H i' i x some = some e) (hh : ∀ b ∈ e.rd, lk H b = lk H' b) : bytesK E H' i' i x some = some e := by
  unfold bytesK at hk ⊢
  split at hk
  · split at hk
    · split at hk
      · split at hk
        · rename_i xs rd hel
          cases hk
          have : elems H' (.int .u8) x = some (xs, rd) := by
            unfold elems at hel ⊢
            split at hel
            · exact hel
            · exact hel
            · exact hel
            · rename_i b
              split at hel
              · rename_i t e' ys fz hb
                split at hel
                · rename_i hT
                  cases hel
                  rw [← blkAt_eq (hh b (by simp)), hb]
                  simp only
                  rw [dif_pos hT]
                · cases hel
              · cases hel
            · cases hel
          simp only [this]
        · cases hk
      · cases hk
    · cases hk
  · cases hk
theorem backs_eq {H H' : Heap} : ∀ {ids : List Nat} {Bs : List Blk}, (∀ b ∈ ids, lk H b = lk H' b) → backs H ids Bs = backs H' ids Bs
  | [], [], _ => rfl
  | [], _ :: _, _ => rfl
  | _ :: _, [], _ => rfl
  | b :: ids, B :: Bs, h => by
    unfold backs
    have : fzAt H b = fzAt H' b := by unfold fzAt; rw [blkAt_eq (h b (by simp))]
    rw [this, backs_eq fun c hc => h c (by simp [hc])]
theorem mayFreeze_eq {H H' : Heap} : ∀ {rows : List Nat}, (∀ b ∈ rows, lk H b = lk H' b) → mayFreeze H rows = mayFreeze H' rows
  | [], _ => rfl
  | b :: r, h => by
    unfold mayFreeze
    rw [blkAt_eq (h b (by simp)), mayFreeze_eq (rows := r) fun c hc => h c (by simp [hc])]
theorem freeze_eq {H H' : Heap} : ∀ {rows : List Nat}, (∀ b ∈ rows, lk H b = lk H' b) → freeze H rows = freeze H' rows
  | [], _ => rfl
  | b :: r, h => by
    unfold freeze
    rw [blkAt_eq (h b (by simp)), freeze_eq (rows := r) fun c hc => h c (by simp [hc])]

theorem appendR_rd {H : Heap} {et : TypeId} {T : Ty} {s x : AV} {e : Eff} (hk : appendR H et T s x id some = some e) : ∃ ys rd, elems H T x = some (ys, rd) ∧ ∀ b ∈ rd, b ∈ e.rd := by
  unfold appendR at hk
  split at hk
  · cases hk
  · rename_i ys rd hel
    refine ⟨ys, rd, hel, fun b hb => ?_⟩
    split at hk
    · obtain ⟨_, hk⟩ := chk_some hk
      rcases br_some hk with ⟨_, hk⟩ | ⟨_, hk⟩
      · cases hk; simp [hb]
      · cases hk
    · split at hk
      · split at hk
        · split at hk
          · obtain ⟨_, hk⟩ := chk_some hk
            rcases br_some hk with ⟨_, hk⟩ | ⟨_, hk⟩
            · cases hk; simp [hb]
            · cases hk
          · cases hk
        · cases hk
      · split at hk
        · split at hk
          · obtain ⟨_, hk⟩ := chk_some hk
            rcases br_some hk with ⟨_, hk⟩ | ⟨_, hk⟩
            · cases hk; simp [hb]
            · cases hk
          · cases hk
        · cases hk
      · cases hk
    · cases hk
theorem appendR_eq {H H' : Heap} {et : TypeId} {T : Ty} {s x : AV} {e : Eff} (hk : appendR H et T s x id some = some e) (hh : ∀ b ∈ e.rd, lk H b = lk H' b) : appendR H' et T s x id some = some e := by
  unfold appendR at hk ⊢
  split at hk
  · cases hk
  · rename_i ys rd hel
    have hrd : ∀ b ∈ rd, b ∈ e.rd := by
      intro b hb
      split at hk
      · obtain ⟨_, hk⟩ := chk_some hk
        rcases br_some hk with ⟨_, hk⟩ | ⟨_, hk⟩
        · cases hk; simp [hb]
        · cases hk
      · split at hk
        · split at hk
          · split at hk
            · obtain ⟨_, hk⟩ := chk_some hk
              rcases br_some hk with ⟨_, hk⟩ | ⟨_, hk⟩
              · cases hk; simp [hb]
              · cases hk
            · cases hk
          · cases hk
        · split at hk
          · split at hk
            · obtain ⟨_, hk⟩ := chk_some hk
              rcases br_some hk with ⟨_, hk⟩ | ⟨_, hk⟩
              · cases hk; simp [hb]
              · cases hk
            · cases hk
          · cases hk
        · cases hk
      · cases hk
    have hel' : elems H' T x = some (ys, rd) := by
      unfold elems at hel ⊢
      split at hel
      · exact hel
      · exact hel
      · exact hel
      · rename_i b
        split at hel
        · rename_i ty e1 xs fz hb
          split at hel
          · rename_i he1
            cases hel
            rw [← blkAt_eq (hh b (hrd b (by simp))), hb]
            simp only [he1, dite_true]
          · cases hel
        · cases hel
      · cases hel
    rw [hel']
    dsimp only
    split at hk
    · obtain ⟨h1, h2⟩ := chk_some hk
      have : id ∈ e.rd := by
        rcases br_some h2 with ⟨_, h2⟩ | ⟨_, h2⟩
        · cases h2; simp
        · cases h2
      rw [← isNew_eq (hh id this), h1]
      exact h2
    · rename_i b
      split at hk
      · rename_i ty e1 xs fz hb
        split at hk
        · rename_i he1
          split at hk
          · rename_i htt
            obtain ⟨h1, h2⟩ := chk_some hk
            have hm : id ∈ e.rd ∧ b ∈ e.rd := by
              rcases br_some h2 with ⟨_, h2⟩ | ⟨_, h2⟩
              · cases h2; simp
              · cases h2
            rw [← isNew_eq (hh id hm.1), h1, ← blkAt_eq (hh b hm.2), hb]
            simp only [he1, dite_true, htt]
            exact h2
          · cases hk
        · cases hk
      · rename_i ty e1 xs fz hb
        split at hk
        · rename_i he1
          split at hk
          · rename_i htt
            obtain ⟨h1, h2⟩ := chk_some hk
            have hm : id ∈ e.rd ∧ b ∈ e.rd := by
              rcases br_some h2 with ⟨_, h2⟩ | ⟨_, h2⟩
              · cases h2; simp
              · cases h2
            rw [← isNew_eq (hh id hm.1), h1, ← blkAt_eq (hh b hm.2), hb]
            simp only [he1, dite_true, htt, and_self, if_true]
            exact h2
          · cases hk
        · cases hk
      · cases hk
    · cases hk
theorem appendD_eq {H H' : Heap} {et : TypeId} {T : Ty} {s : AV} {bx : Nat} {t : TypeId} {R : RTy} {ys : List R.den} {e : Eff} (hk : appendD H et T s bx t R ys id some = some e) (hh : ∀ b ∈ e.rd, lk H b = lk H' b) : appendD H' et T s bx t R ys id some = some e ∧ bx ∈ e.rd := by
  unfold appendD at hk ⊢
  split at hk
  · split at hk
    · rename_i htt
      rw [if_pos htt]
      obtain ⟨h1, h2⟩ := chk_some hk
      have hm : id ∈ e.rd ∧ bx ∈ e.rd := by
        rcases br_some h2 with ⟨_, h2⟩ | ⟨_, h2⟩
        · cases h2; simp
        · cases h2
      refine ⟨?_, hm.2⟩
      rw [← isNew_eq (hh id hm.1), h1]
      exact h2
    · cases hk
  · rename_i b
    split at hk
    · rename_i t' T' xs fz hb
      split at hk
      · rename_i hT
        split at hk
        · rename_i htt
          obtain ⟨h1, h2⟩ := chk_some hk
          have hm : id ∈ e.rd ∧ bx ∈ e.rd ∧ b ∈ e.rd := by
            rcases br_some h2 with ⟨_, h2⟩ | ⟨_, h2⟩
            · cases h2; simp
            · cases h2
          refine ⟨?_, hm.2.1⟩
          rw [← blkAt_eq (hh b hm.2.2), hb]
          (try dsimp only)
          rw [dif_pos hT, if_pos htt, ← isNew_eq (hh id hm.1), h1]
          exact h2
        · cases hk
      · cases hk
    · cases hk
  · cases hk
theorem appendK_eq {H H' : Heap} {et : TypeId} {T : Ty} {s x : AV} {e : Eff} (hk : appendK H et T s x id some = some e) (hh : ∀ b ∈ e.rd, lk H b = lk H' b) : appendK H' et T s x id some = some e := by
  unfold appendK at hk ⊢
  split at hk
  · rename_i bx
    split at hk
    · rename_i t R ys fz hb
      obtain ⟨hf, hk⟩ := chk_some hk
      obtain ⟨k1, k2⟩ := appendD_eq hk hh
      rw [← blkAt_eq (hh bx k2), hb]
      simp only [hf, chk]
      exact k1
    · rename_i hno
      obtain ⟨ys, rd, hel, hrd⟩ := appendR_rd hk
      have hbx : bx ∈ e.rd := by
        unfold elems at hel
        dsimp only at hel
        split at hel
        · split at hel
          · cases hel
            exact hrd bx (by simp)
          · cases hel
        · cases hel
      rw [← blkAt_eq (hh bx hbx)]
      split
      · rename_i t R ys fz hb
        exact (hno t R ys fz hb).elim
      · exact appendR_eq hk hh
  · exact appendR_eq hk hh

theorem callK_heap {S : St} {H : Heap} {e : Eff} {con : Con} {args : List AV} (hk : callK S con args id some = some e) (hh : ∀ b ∈ e.rd, lk S.heap b = lk H b) : callK ⟨S.tmps, H⟩ con args id some = some e := by
  unfold callK at hk ⊢
  obtain ⟨x, hx, hk⟩ := Option.bind_eq_some_iff.1 hk
  obtain ⟨y, hy, hk⟩ := ob_some hk
  dsimp only at hk
  obtain ⟨h1, hk⟩ := chk_some hk
  rw [Bool.and_eq_true] at h1
  obtain ⟨h1, h1f⟩ := h1
  cases hk
  have hr : ∀ b ∈ argRows S.heap args, lk S.heap b = lk H b := fun b hb => hh b (by simp only [List.mem_append]; exact .inr hb)
  have hr0 : ∀ b ∈ rowsIn (args.flatMap avCells), lk S.heap b = lk H b := fun b hb => hr b (List.mem_append.2 (.inl hb))
  have hn : ((resAV con.cod y id).2.map (·.1)).all (isNew H) = true := by
    rw [List.all_eq_true] at h1 ⊢
    intro b hb
    rw [← isNew_eq (hh b (by simp only [List.mem_append]; exact .inl hb))]
    exact h1 b hb
  rw [← argsD_eq (fun b hb => ⟨hr0 b hb, fun c hc => hr c (List.mem_append.2 (.inr (List.mem_flatMap.2 ⟨b, hb, hc⟩)))⟩), hx, ← argRows_eq hr0]
  simp only [Option.bind_some, hy, ob, hn, chk, freeze_eq hr, Bool.true_and]
  rw [mayFreeze_eq hr] at h1f
  simp only [h1f]

theorem bldW_heap {H H' : Heap} {t e' : TypeId} {args : List AV} {e : Eff} (hk : bldW H t e' args some = some e) (hh : ∀ b ∈ e.rd, lk H b = lk H' b) : bldW H' t e' args some = some e := by
  unfold bldW at hk ⊢
  split at hk
  · rename_i b s
    split at hk
    · rename_i t' e1 x fz hb
      split at hk
      · rename_i hcnd
        rcases br_some hk with ⟨hq, hk⟩ | ⟨hq, hk⟩
        · cases hk
          rw [← blkAt_eq (hh b (by simp)), hb]
          simp only [hcnd, and_self, if_true, hq, br]
        · cases hk
      · cases hk
    · cases hk
  · cases hk
theorem bldS_heap {H H' : Heap} {t e' : TypeId} {args : List AV} {e : Eff} (hk : bldS H t e' args some = some e) (hh : ∀ b ∈ e.rd, lk H b = lk H' b) : bldS H' t e' args some = some e := by
  unfold bldS at hk ⊢
  split at hk
  · rename_i b
    split at hk
    · rename_i t' e1 x fz hb
      split at hk
      · rename_i hcnd
        cases hk
        rw [← blkAt_eq (hh b (by simp)), hb]
        simp only [hcnd, and_self, if_true]
      · cases hk
    · cases hk
  · cases hk
theorem takeR_eq {H H' : Heap} : ∀ {T : RTy} {cs : List Cell} {q : T.den × List Cell × List Nat × List Nat}, takeR H T cs = some q → (∀ b ∈ q.2.2.1, lk H b = lk H' b) → (∀ b ∈ q.2.2.2, lk H b = lk H' b) → takeR H' T cs = some q
  | .d T, cs, q, h, _, h2 => by
    unfold takeR at h ⊢
    obtain ⟨y, hy, h⟩ := Option.map_eq_some_iff.1 h
    cases h
    have : takeAll H' T (cs.take T.size) = some y := by
      unfold takeAll at hy ⊢
      rw [← (takeD_eq (H := H) (H' := H') (cs := cs.take T.size) h2).1]; exact hy
    rw [this]
    rfl
  | .row t e, cs, q, h, hh, _ => by
    unfold takeR at h ⊢
    split at h
    · exact h
    · rename_i b r
      split at h
      · rename_i t' e' xs fz hb
        split at h
        · rename_i he
          split at h
          · rename_i hc
            cases h
            rw [← blkAt_eq (hh b (by simp)), hb]
            simp only
            rw [dif_pos he, if_pos hc]
          · cases h
        · cases h
      · rename_i t' e' xs fz hb
        split at h
        · rename_i he
          split at h
          · rename_i hc
            cases h
            rw [← blkAt_eq (hh b (by simp)), hb]
            simp only
            rw [dif_pos he, if_pos hc]
          · cases h
        · cases h
      · cases h
    · cases h
  | .mp fr t e, cs, q, h, hh, _ => by
    unfold takeR at h ⊢
    split at h
    · rename_i b r
      split at h
      · rename_i o' x0 fz hb
        split at h
        · rename_i he
          split at h
          · rename_i hc
            cases h
            rw [← blkAt_eq (hh b (by simp)), hb]
            simp only
            rw [dif_pos he, if_pos hc]
          · cases h
        · cases h
      · cases h
    · cases h
  | .pair a b, cs, q, h, hh, h2 => by
    unfold takeR at h ⊢
    obtain ⟨y, hy, h⟩ := Option.bind_eq_some_iff.1 h
    obtain ⟨z, hz, h⟩ := Option.bind_eq_some_iff.1 h
    cases h
    simp only [List.mem_append] at hh h2
    rw [takeR_eq hy (fun b hb => hh b (.inl hb)) (fun b hb => h2 b (.inl hb))]
    simp only [Option.bind_some]
    rw [takeR_eq hz (fun b hb => hh b (.inr hb)) (fun b hb => h2 b (.inr hb))]
    rfl
  | .box t T, cs, q, h, hh, _ => by
    unfold takeR at h ⊢
    split at h
    · rename_i b r
      split at h
      · rename_i t' cs' fz hb
        split at h
        · rename_i hc
          obtain ⟨y, hy, h⟩ := Option.map_eq_some_iff.1 h
          cases h
          rw [← blkAt_eq (hh b (by simp)), hb]
          simp only
          rw [if_pos hc, hy]
          rfl
        · cases h
      · cases h
    · cases h
  | .deep t R, cs, q, h, hh, _ => by
    unfold takeR at h ⊢
    split at h
    · exact h
    · rename_i b r
      split at h
      · rename_i t' e' xs fz hb
        split at h
        · rename_i he
          split at h
          · rename_i hc
            cases h
            rw [← blkAt_eq (hh b (by simp)), hb]
            simp only
            rw [dif_pos he, if_pos hc]
          · cases h
        · cases h
      · cases h
    · cases h
theorem ncallK_heap {H H' : Heap} {c : NCon} {args : List AV} {id : Nat} {e : Eff} (hk : ncallK H c args id some = some e) (hh : ∀ b ∈ e.rd, lk H b = lk H' b) : ncallK H' c args id some = some e := by
  unfold ncallK at hk ⊢
  split at hk
  · rename_i b rest
    split at hk
    · rename_i t' cs fz hb
      obtain ⟨hc1, hk⟩ := chk_some hk
      obtain ⟨q, hq, hk⟩ := Option.bind_eq_some_iff.1 hk
      obtain ⟨hc2, hk⟩ := chk_some hk
      obtain ⟨x, hx, hk⟩ := Option.bind_eq_some_iff.1 hk
      obtain ⟨y, hy, hk⟩ := ob_some hk
      dsimp only at hk
      obtain ⟨hc3, hk⟩ := chk_some hk
      cases hk
      simp only [List.mem_append, List.mem_cons] at hh
      have hr : ∀ c ∈ argRows H rest, lk H c = lk H' c := fun c hc => hh c (.inr hc)
      have hr0 : ∀ c ∈ rowsIn (rest.flatMap avCells), lk H c = lk H' c := fun c hc => hr c (List.mem_append.2 (.inl hc))
      have hx' : argsD H' c.dom rest = some x := by
        rw [← argsD_eq (fun b hb => ⟨hr0 b hb, fun c hc => hr c (List.mem_append.2 (.inr (List.mem_flatMap.2 ⟨b, hb, hc⟩)))⟩), hx]
      have hds : q.2.2.2 = [] := by
        simp only [Bool.and_eq_true, List.isEmpty_iff] at hc2
        exact hc2.2
      have hn : ((nestCells id c.R y.2 0).2.1.map (·.1)).all (isNew H') = true := by
        simp only [Bool.and_eq_true] at hc3
        have h1 := hc3.1.1
        rw [List.all_eq_true] at h1 ⊢
        intro b hb
        rw [← isNew_eq (hh b (.inl (.inl hb)))]
        exact h1 b hb
      rw [← blkAt_eq (hh b (.inl (.inr (.inl rfl)))), hb]
      simp only [Bool.and_eq_true] at hc3
      simp only [hc1, chk, takeR_eq hq (fun c hc => hh c (.inl (.inr (.inr hc)))) (fun c hc => by rw [hds] at hc; cases hc), Option.bind_some, hc2, hx', hy, ob, ← argRows_eq hr0, hn, hc3.1.2, hc3.2, Bool.and_self]
    · cases hk
  · cases hk
theorem opK_heap {o : Op} {S : St} {H : Heap} {e : Eff} (hk : opK E o id S some = some e) (hh : ∀ b ∈ e.rd, lk S.heap b = lk H b) : opK E o id ⟨S.tmps, H⟩ some = some e := by
  have hev : ∀ x, (⟨S.tmps, H⟩ : St).ev x = S.ev x := fun x => by cases x <;> rfl
  have hmap : ∀ l : List Operand, l.map (⟨S.tmps, H⟩ : St).ev = l.map S.ev := fun l => List.map_congr_left fun x _ => hev x
  cases o with
  | alloc t =>
    simp only [opK] at hk ⊢
    split at hk
    · rename_i e' he
      obtain ⟨h1, h2⟩ := chk_some hk
      cases h2
      rw [← isNew_eq (hh id (by simp)), h1]
      rfl
    split at hk
    · rename_i i hi
      obtain ⟨h1, h2⟩ := chk_some hk
      cases h2
      rw [← isNew_eq (hh id (by simp)), h1]
      (try simp only [hi]); rfl
    · cases hk
  | box t x =>
    simp only [opK, hev] at hk ⊢
    split at hk
    · rename_i y hy
      obtain ⟨h1, h2⟩ := chk_some hk
      cases h2
      rw [← isNew_eq (hh id (by simp)), h1]
      rfl
    · cases hk
  | buildSlice t n ps =>
    simp only [opK, hev] at hk ⊢
    have data : ∀ {et : TypeId} {ei : TI}, (match partsD ei.ty 0 (ps.toList.map fun p => (p.1, S.ev p.2)) with
        | some xs => if xs.length = n ∧ n ≤ 65536 then chk (isNew S.heap id) (some (⟨.v (.one (.row id)), [(id, some (.row et ei.ty xs 0))], [id]⟩ : Eff)) else none
        | none => none) = some e → (match partsD ei.ty 0 (ps.toList.map fun p => (p.1, S.ev p.2)) with
        | some xs => if xs.length = n ∧ n ≤ 65536 then chk (isNew H id) (some (⟨.v (.one (.row id)), [(id, some (.row et ei.ty xs 0))], [id]⟩ : Eff)) else none
        | none => none) = some e := by
      intro et ei hk
      split at hk
      · rename_i xs hxs
        split at hk
        · rename_i hn
          obtain ⟨h1, h2⟩ := chk_some hk
          cases h2
          rw [← isNew_eq (hh id (by simp)), h1, if_pos hn]
          rfl
        · cases hk
      · cases hk
    split at hk
    · rename_i i hi
      (try simp only [hi] at hk ⊢)
      split at hk
      · rename_i et hd
        split at hk
        · rename_i ei hei
          split at hk
          · exact data hk
          · split at hk
            · split at hk
              · rename_i xs hxs
                split at hk
                · rename_i hn
                  obtain ⟨h1, h2⟩ := chk_some hk
                  cases h2
                  rw [partsO_eq hxs fun b hb => hh b (by simp [hb])]
                  dsimp only
                  rw [if_pos hn]
                  rw [Bool.and_eq_true] at h1
                  rw [← isNew_eq (hh id (by simp)), h1.1, h1.2]
                  rfl
                · cases hk
              · cases hk
            · exact data hk
        · cases hk
      · cases hk
    · cases hk
  | binOp b t x y ty =>
    simp only [opK, hev] at hk ⊢
    have key : ∀ c, nilAt S.heap (S.ev x) (S.ev y) = some c → lk S.heap c.2 = lk H c.2 → nilAt H (S.ev x) (S.ev y) = some c := by
      intro c hc hl
      unfold nilAt at hc ⊢
      split at hc
      · rename_i b0 e1 e2
        split at hc
        · rename_i hb
          cases hc
          rw [← blkAt_eq hl, hb]
        · cases hc
      · cases hc
    split at hk
    · rename_i c hc
      have hrd : e.rd = [c.2] := by
        unfold nilK at hk
        split at hk
        · split at hk
          · split at hk
            · cases hk; rfl
            · cases hk; rfl
            · cases hk
          · cases hk
        · cases hk
      rw [key c hc (hh _ (by rw [hrd]; simp))]
      exact hk
    · rename_i hc
      have : nilAt H (S.ev x) (S.ev y) = none := by
        unfold nilAt
        split
        · rename_i e1 e2
          unfold binK at hk
          rw [e1, e2] at hk
          cases hk
        · rfl
      rw [this]
      exact hk
  | makeMap t r =>
    simp only [opK] at hk ⊢
    split at hk
    · rename_i p hp
      obtain ⟨h1, h2⟩ := chk_some hk
      cases h2
      rw [← isNew_eq (hh id (by simp)), h1]
      rfl
    · cases hk
  | lookup t x y ok =>
    simp only [opK, hev] at hk ⊢
    split at hk
    · rename_i p b n hp hx hy
      unfold lookK at hk ⊢
      split at hk
      · rename_i rt T x0 fz hb
        split at hk
        · rename_i hrt
          cases hk
          rw [← blkAt_eq (hh b (by simp)), hb]
          dsimp only
          rw [if_pos hrt]
        · cases hk
      · rename_i rt T x0 fz hb
        split at hk
        · rename_i hrt
          split at hk
          · rename_i hpk
            cases hk
            rw [← blkAt_eq (hh b (by simp)), hb]
            dsimp only
            rw [if_pos hrt]
          · rename_i hpk
            obtain ⟨h1, h2⟩ := chk_some hk
            cases h2
            rw [← blkAt_eq (hh b (by simp)), hb]
            dsimp only
            rw [if_pos hrt, ← isNew_eq (hh id (by simp)), h1]
            rfl
        · cases hk
      · cases hk
    · cases hk
  | mapUpdate t x y v =>
    simp only [opK, hev] at hk ⊢
    split at hk
    · rename_i p b n hp hx hy
      unfold updK at hk ⊢
      split at hk
      · rename_i c hvc
        split at hk
        · rename_i rt T x0 fz rt' T' ys fz' hb hc
          split at hk
          · rename_i hT
            split at hk
            · rename_i hcond
              rcases br_some hk with ⟨hq, hk2⟩ | ⟨hq, hk2⟩
              · cases hk2
                rw [← blkAt_eq (hh b (by simp)), hb, ← blkAt_eq (hh c (by simp)), hc]
                dsimp only
                rw [dif_pos hT, if_pos hcond, hq]
                rfl
              · cases hk2
            · cases hk
          · cases hk
        · cases hk
      · cases hk
    · cases hk
  | makeSlice t x y =>
    simp only [opK, hev] at hk ⊢
    split at hk
    · rename_i i n m hi hn hm
      split at hk
      · rename_i et hd
        split at hk
        · rename_i ei hei
          split at hk
          · split at hk
            · rename_i z hz
              obtain ⟨h1, h2⟩ := chk_some hk
              have hrd : e.rd = [id] := by
                rcases br_some h2 with ⟨_, h3⟩ | ⟨_, h3⟩
                · cases h3; rfl
                · cases h3
              rw [← isNew_eq (hh id (by rw [hrd]; simp)), h1]
              (try simp only [hi, hd, hei, hz]); exact h2
            · cases hk
          · split at hk
            · rename_i z hz
              obtain ⟨h1, h2⟩ := chk_some hk
              have hrd : e.rd = [id] := by
                rcases br_some h2 with ⟨_, h3⟩ | ⟨_, h3⟩
                · cases h3; rfl
                · cases h3
              rw [← isNew_eq (hh id (by rw [hrd]; simp)), h1]
              exact h2
            · cases hk
        · cases hk
      · cases hk
    · cases hk
  | load t x =>
    simp only [opK, hev] at hk ⊢
    split at hk
    · rename_i i c hi hc
      unfold loadK at hk ⊢
      split at hk
      · rename_i b off
        split at hk
        · rename_i ty cs hb
          split at hk
          · rename_i x1 hx1
            cases hk
            rw [← blkAt_eq (hh b (by simp)), hb]
            (try simp only [hx1])
          · cases hk
        · cases hk
      · rename_i b n sz off
        split at hk
        · rename_i ty et xs fz hb
          split at hk
          · rename_i hsz
            obtain ⟨y, hy, hk⟩ := ob_some hk
            split at hk
            · rename_i x1 hx1
              cases hk
              rw [← blkAt_eq (hh b (by simp)), hb]
              (try simp only [hsz, if_true, hy, ob, hx1])
            · cases hk
          · cases hk
        · rename_i ty T xs op fz hb
          split at hk
          · rename_i hsz
            rw [openK_three] at hk
            obtain ⟨q, hq, hk⟩ := Option.bind_eq_some_iff.1 hk
            split at hk
            · rename_i x1 hx1
              cases hk
              rw [← blkAt_eq (hh b (by simp)), hb]
              dsimp only
              rw [if_pos hsz, openK_three, openK_eq hq fun c hc => hh c (by simp [hc])]
              simp only [Option.bind_some, hx1]
            · cases hk
          · cases hk
        · cases hk
      · rename_i b n sz
        split at hk
        · rename_i ty et xs fz hb
          split at hk
          · rename_i hsz
            obtain ⟨y, hy, hk⟩ := ob_some hk
            split at hk
            · rename_i x1 hx1
              cases hk
              rw [← blkAt_eq (hh b (by simp)), hb]
              (try simp only [hsz, if_true, hy, ob, hx1])
            · cases hk
          · cases hk
        · cases hk
      · exact hk
      · cases hk
    · cases hk
  | store t x y =>
    simp only [opK, hev] at hk ⊢
    split at hk
    · rename_i i c v hi hc hv
      unfold storeK at hk ⊢
      dsimp only at hk ⊢
      split at hk
      · rename_i hlen
        (try rw [if_pos hlen])
        split at hk
        · rename_i b off
          split at hk
          · rename_i ty cs hb
            split at hk
            · rename_i hoff
              cases hk
              rw [← blkAt_eq (hh b (by simp)), hb]
              simp only
              rw [if_pos hoff]
            · cases hk
          · cases hk
        · rename_i b n sz off
          split at hk
          · rename_i ty et xs hb
            split at hk
            · rename_i hsz
              obtain ⟨x0, hx0, hk⟩ := ob_some hk
              obtain ⟨x1, hx1, hk⟩ := Option.bind_eq_some_iff.1 hk
              cases hk
              rw [← blkAt_eq (hh b (by simp)), hb]
              simp only
              rw [if_pos hsz]
              simp only [hx0, ob, hx1, Option.bind_some]
            · cases hk
          · rename_i ty T xs op fz hb
            split at hk
            · rename_i hsz
              rw [openK_three] at hk
              obtain ⟨q, hq, hk⟩ := Option.bind_eq_some_iff.1 hk
              cases hk
              rw [← blkAt_eq (hh b (by simp)), hb]
              dsimp only
              rw [if_pos hsz, openK_three, openK_eq hq fun c hc => hh c (by simp [hc])]
              simp only [Option.bind_some]
            · cases hk
          · cases hk
        · cases hk
      · cases hk
    · cases hk
  | convert s d x =>
    simp only [opK, hev] at hk ⊢
    generalize E.tab.lookup s = a at hk ⊢
    generalize E.tab.lookup d = b at hk ⊢
    generalize S.ev x = v at hk ⊢
    cases a with
    | none => cases hk
    | some a =>
      cases b with
      | none => cases hk
      | some b =>
        rcases v with _ | x | _
        · exact bytesK_eq hk hh
        · rcases x with c | _
          · cases c <;> first | exact hk | exact bytesK_eq hk hh
          · exact bytesK_eq hk hh
        · exact bytesK_eq hk hh
  | slice t x lo hi mx =>
    have hbd : ∀ o d, boundOf ⟨S.tmps, H⟩ o d = boundOf S o d := fun o d => by
      cases o with
      | none => rfl
      | some y => simp only [boundOf, hev]
    simp only [opK, hev, hbd] at hk ⊢
    split at hk
    · exact hk
    · exact hk
    · rename_i ti b hti hx
      (try simp only [hti, hx])
      split at hk
      · rename_i et hd
        (try simp only [hd])
        split at hk
        · rename_i ei hei
          (try simp only [hei])
          split at hk
          · rename_i rt e1 xs fz hb
            split at hk
            · rename_i hsz
              split at hk
              · rename_i l h hl hhi
                rcases br_some hk with ⟨hq, hk⟩ | ⟨hq, hk⟩
                · cases hk
                  rw [← blkAt_eq (hh b (by simp)), hb]
                  simp only [hsz, and_self, if_true, hl, hhi, hq, br]
                · cases hk
              · cases hk
            · cases hk
          · rename_i rt e1 xs fz hb
            split at hk
            · split at hk
              · rename_i hsz
                split at hk
                · rename_i l hl
                  obtain ⟨h1, hk⟩ := chk_some hk
                  rcases br_some hk with ⟨hq, hk⟩ | ⟨hq, hk⟩
                  · cases hk
                    rw [← blkAt_eq (hh b (by simp)), hb, ← isNew_eq (hh id (by simp)), h1]
                    simp only [hsz, and_self, if_true, hq, br, chk]
                  · cases hk
                · cases hk
              · cases hk
            · cases hk
          · cases hk
        · cases hk
      · cases hk
    · cases hk
  | indexAddr t x y =>
    simp only [opK, hev] at hk ⊢
    split at hk
    · rename_i ti c k0 n hti hc hn
      split at hk
      · rename_i et hd
        split at hk
        · rename_i ei hei
          (try simp only [hti, hd, hei])
          split at hk
          · exact hk
          · exact hk
          · rename_i b
            split at hk
            · rename_i ty e1 xs fz hb
              split at hk
              · rename_i hsz
                obtain ⟨z, hz, hk⟩ := ob_some hk
                cases hk
                rw [← blkAt_eq (hh b (by simp)), hb]
                simp only [hsz, if_true, hz, ob]
              · cases hk
            · rename_i ty T xs op fz hb
              split at hk
              · rename_i hsz
                obtain ⟨z, hz, hk⟩ := ob_some hk
                cases hk
                rw [← blkAt_eq (hh b (by simp)), hb]
                simp only [hsz, if_true, hz, ob]
              · cases hk
            · rename_i ty e1 xs fz hb
              split at hk
              · rename_i hsz
                obtain ⟨z, hz, hk⟩ := ob_some hk
                cases hk
                rw [← blkAt_eq (hh b (by simp)), hb]
                simp only [hsz, if_true, hz, ob]
              · cases hk
            · cases hk
          · cases hk
        · cases hk
      · exact hk
      · cases hk
    · cases hk
  | call c =>
    simp only [opK] at hk ⊢
    split at hk
    · rename_i f hc
      split at hk
      · rename_i con hcon
        (try simp only [hcon])
        rw [hmap]
        exact callK_heap hk hh
      · rename_i hcon
        split at hk
        · rename_i con hmcon
          (try simp only [hcon, hmcon])
          unfold mcallK at hk ⊢
          obtain ⟨q, hq, hk⟩ := Option.bind_eq_some_iff.1 hk
          obtain ⟨y, hy, hk⟩ := ob_some hk
          dsimp only at hk
          obtain ⟨h1, hk⟩ := chk_some hk
          simp only [Bool.and_eq_true] at h1
          obtain ⟨⟨⟨hnew, hnd⟩, hdj⟩, hmf⟩ := h1
          cases hk
          have r1 : ∀ b ∈ q.2.1, lk S.heap b = lk H b := fun b hb => hh b (by simp only [List.mem_append]; exact .inl (.inr hb))
          have r2 : ∀ b ∈ q.2.2, lk S.heap b = lk H b := fun b hb => hh b (by simp only [List.mem_append]; exact .inr hb)
          have hn : ((resAV con.cod y.1 id).2.map (·.1)).all (isNew H) = true := by
            rw [List.all_eq_true] at hnew ⊢
            intro b hb
            rw [← isNew_eq (hh b (by simp only [List.mem_append]; exact .inl (.inl hb)))]
            exact hnew b hb
          rw [hmap, argsA_eq hq r1 r2]
          rw [mayFreeze_eq r2] at hmf
          simp only [Option.bind_some, hy, ob, hn, chk, freeze_eq r2, backs_eq r1, hnd, hdj, hmf, Bool.and_self]
        · rename_i hmcon
          split at hk
          · rename_i p hp
            (try simp only [hcon, hmcon, hp])
            rw [hmap]
            exact bldW_heap hk hh
          · rename_i hp
            split at hk
            · rename_i p hp2
              (try simp only [hcon, hmcon, hp, hp2])
              rw [hmap]
              exact bldS_heap hk hh
            · rename_i hp2
              split at hk
              · rename_i con hp3
                (try simp only [hcon, hmcon, hp, hp2, hp3])
                rw [hmap]
                exact ncallK_heap hk hh
              · cases hk
    · rename_i x hc
      simp only [hev] at hk ⊢
      split at hk
      · split at hk
        · rename_i con hcon
          (try simp only [hcon])
          rw [hmap]
          exact callK_heap hk hh
        · cases hk
      · split at hk
        · rename_i con hcon
          (try simp only [hcon])
          rw [hmap]
          exact callK_heap hk hh
        · cases hk
      · cases hk
    · split at hk
      · rename_i t x ht hx
        split at hk
        · rename_i i hi
          (try simp only [hev])
          split at hk
          · exact hk
          · unfold lenK at hk ⊢
            split at hk
            · exact hk
            · exact hk
            · exact hk
            · rename_i b hb0
              split at hk
              · rename_i ty e1 xs fz hb
                cases hk
                rw [← blkAt_eq (hh b (by simp)), hb]
              · rename_i ty T xs op fz hb
                cases hk
                rw [← blkAt_eq (hh b (by simp)), hb]
              · rename_i ty e1 xs fz hb
                cases hk
                rw [← blkAt_eq (hh b (by simp)), hb]
              · cases hk
            · exact hk
            · cases hk
          · cases hk
        · cases hk
      · cases hk
    · simp only [hev]
      exact hk
    · simp only [hev]
      exact hk
    · split at hk
      · rename_i t t2 s x ht hx
        split at hk
        · rename_i htt
          split at hk
          · rename_i i hi
            split at hk
            · rename_i et hd
              split at hk
              · rename_i ei hei
                (try simp only [htt, if_true, hev])
                exact appendK_eq hk hh
              · cases hk
            · cases hk
          · cases hk
        · cases hk
      · cases hk
    · cases hk
  | _ =>
    simp only [opK, hev] at hk ⊢
    exact hk
end
end Rx
end Go.Proofs.YthfgpnpoocepeaaGreat
