/- The state of the evaluator over a true state; what operands say. No conditions. -/
import Derived.Test.YtfapjkcmoefilaaGreatDoorRxC
namespace Go.Proofs.YtfapjkcmoefilaaGreatDoor
open Go.RowKit
namespace Rx

/-- The world when the call began; the blocks that are handed over, and what points to them. -/
structure WX where
  w : World
  X : Nat → Prop
  arg : Nat → Option Value
  ld : Laid w
  nx : ∀ g, X g → globs ≤ g
/-- A block that the call may write, by how it is held. -/
def WX.fresh (W : WX) (fz g : Nat) : Prop := (fz < 2 → W.w.heap.size ≤ g) ∧ (2 ≤ fz → W.X g)
theorem WX.fresh.new {W : WX} {fz g : Nat} (h : W.w.heap.size ≤ g) (hf : fz < 2) : W.fresh fz g := ⟨fun _ => h, fun h => by omega⟩
structure ExtW (W : WX) (w' : World) : Prop where
  os : w'.os = W.w.os
  tape : w'.tape = W.w.tape
  output : w'.output = W.w.output
  size : W.w.heap.size ≤ w'.heap.size
  block : ∀ k, k < W.w.heap.size → ¬ W.X k → w'.heap[k]? = W.w.heap[k]?
theorem ExtW.trans {W : WX} {w w' : World} (h : ExtW W w) (k : Ext w w') : ExtW W w' :=
  ⟨k.os.trans h.os, k.tape.trans h.tape, k.output.trans h.output, Nat.le_trans h.size k.size, fun i hi hx => (Below.block k i (Nat.lt_of_lt_of_le hi h.size)).trans (h.block i hi hx)⟩
theorem ExtW.drew {W : WX} {w : World} (h : ExtW W w) : ExtW W w.drew := ⟨h.os, h.tape, h.output, h.size, h.block⟩
theorem ExtW.toExt {W : WX} {w : World} (hX : ∀ g, ¬ W.X g) (h : ExtW W w) : Ext W.w w := ⟨h.os, h.tape, h.output, h.size, fun k hk => h.block k hk (hX k)⟩
theorem ExtW.ofExt {W : WX} {w : World} (h : Ext W.w w) : ExtW W w := ⟨h.os, h.tape, h.output, h.size, fun k hk _ => Below.block h k hk⟩
theorem ExtW.laid {W : WX} {w : World} (h : ExtW W w) : Laid w := W.ld.keep h.size fun g hg => h.block g (Nat.lt_of_lt_of_le hg W.ld.1) fun hx => by have := W.nx g hx; omega
theorem below_row {W : WX} {w : World} {fz g : Nat} {cs : Array Value} (h : ExtW W w) (hg : W.fresh fz g) : ExtW W (w.setRow g cs) :=
  ⟨h.os, h.tape, h.output, by have := h.size; simpa [World.setRow] using this, fun k hk hx => by
    rw [setRow_other w g k cs (fun e => by
      subst e
      rcases Nat.lt_or_ge fz 2 with hf | hf
      · have := hg.1 hf; omega
      · exact hx (hg.2 hf))]
    exact h.block k hk hx⟩

/-- The evaluator's state S is true of the frame a and the world w; W: the world when the call began, M0: what it may look at of it. -/
structure Good (W : WX) (M0 : Mem) (S : St) (hdr : Nat → Option Value) (M : Mem) (a : Act) (w : World) : Prop where
  ext : ExtW W w
  nod : a.defers = []
  len : S.tmps.length = a.tmps.size
  tm : ∀ t, RepAV w M hdr ((S.tmps[t]?).getD .undef) (a.tmps.getD t undef)
  hp : ∀ b B, lk S.heap b = some (some B) → ∃ v, hdr b = some v ∧ RepBlk w M hdr W.fresh B v
  un : ∀ b, lk S.heap b = none → hdr b = none
  sep : ∀ b b' B B' v v' g, b ≠ b' → lk S.heap b = some (some B) → lk S.heap b' = some (some B') → hdr b = some v → hdr b' = some v' → own v = some g → own v' ≠ some g
  ml : ∀ p, M p → p.block < w.heap.size
  mo : ∀ p, M p → M0 p ∨ W.w.heap.size ≤ p.block
  ag : ∀ b B, lk S.heap b = some (some B) → 2 ≤ B.fz → hdr b = W.arg (B.fz - 2)
def G (W : WX) (M0 : Mem) (S : St) (a : Act) (w : World) : Prop := ∃ hdr M, Good W M0 S hdr M a w

section
variable {W : WX} {M0 : Mem} {S : St} {hdr : Nat → Option Value} {M : Mem} {a : Act} {w : World}

theorem absC_rep {v : Value} {c : Cell} (h : absC v = some c) : RepC w M hdr c v := by
  unfold absC at h
  split at h <;> first | (cases h; rfl) | cases h
theorem absV_rep (v : Value) : RepAV w M hdr (absV v) v := by
  unfold absV
  cases h : absC v with
  | none => trivial
  | some c => exact absC_rep h
theorem Good.ev (h : Good W M0 S hdr M a w) (x : Operand) : RepAV w M hdr (S.ev x) (a.eval x) := by
  cases x with
  | tmp t => exact h.tm t
  | const v => exact absV_rep v
  | global g => trivial
  | func f => exact ⟨#[], rfl, .inl ⟨rfl, rfl⟩⟩
/-- Three words at a time: an operand that the evaluator knows. -/
theorem Good.int {x : Operand} {k : IntKind} {n : Int} (h : Good W M0 S hdr M a w) (e : S.ev x = .v (.one (.int k n))) : a.eval x = .int k n := by
  have := h.ev x; rw [e] at this; exact this
theorem Good.bool {x : Operand} {b : Bool} (h : Good W M0 S hdr M a w) (e : S.ev x = .v (.one (.bool b))) : a.eval x = .bool b := by
  have := h.ev x; rw [e] at this; exact this
theorem Good.str {x : Operand} {s : ByteArray} (h : Good W M0 S hdr M a w) (e : S.ev x = .v (.one (.str s))) : a.eval x = .string s := by
  have := h.ev x; rw [e] at this; exact this
theorem Good.one {x : Operand} {c : Cell} (h : Good W M0 S hdr M a w) (e : S.ev x = .v (.one c)) : RepC w M hdr c (a.eval x) := by
  have := h.ev x; rw [e] at this; exact this
theorem Good.v1 {x : Operand} {c : V1} (h : Good W M0 S hdr M a w) (e : S.ev x = .v c) : RepV1 w M hdr c (a.eval x) := by
  have := h.ev x; rw [e] at this; exact this

theorem getD_put (l : List AV) (tm : Array Value) (d t : Nat) (v : AV) (u : Value) (hl : l.length = tm.size) (P : AV → Value → Prop) (h0 : P .undef undef) (hv : P v u) (h : ∀ t, P ((l[t]?).getD .undef) (tm.getD t undef)) :
    P (((l.set d v)[t]?).getD .undef) ((tm.setIfInBounds d u).getD t undef) := by
  by_cases hd : d = t
  · subst hd
    by_cases hlt : d < l.length
    · have hlt' : d < tm.size := hl ▸ hlt
      simp [hlt, hlt']; exact hv
    · have hlt' : ¬ d < tm.size := hl ▸ hlt
      simp [hlt, hlt']; exact h0
  · have := h t
    simp [List.getElem?_set_ne hd]
    by_cases ht : t < tm.size
    · simp [ht, Array.getElem_setIfInBounds_ne ht hd] at this ⊢; exact this
    · simp [ht] at this ⊢; exact this

theorem put_tm {dst : Option Tmp} {v : AV} {u : Value} {w' : World} {M' : Mem} {hdr' : Nat → Option Value} (h : Good W M0 S hdr M a w) (hc : ∀ p, M p → w'.cell? p = w.cell? p) (hM : ∀ p, M p → M' p)
    (hh : ∀ b v, hdr b = some v → hdr' b = some v) (hv : RepAV w' M' hdr' v u) (t : Nat) : RepAV w' M' hdr' (((putT S.tmps dst v)[t]?).getD .undef) ((a.put dst u).tmps.getD t undef) := by
  cases dst with
  | none => exact (h.tm t).keep hc hM hh
  | some d => exact getD_put S.tmps a.tmps d t v u h.len (RepAV w' M' hdr') trivial hv fun t => (h.tm t).keep hc hM hh
theorem put_len {dst : Option Tmp} {v : AV} {u : Value} (h : Good W M0 S hdr M a w) : (putT S.tmps dst v).length = (a.put dst u).tmps.size := by
  cases dst with
  | none => exact h.len
  | some d => simp [putT, Act.put, h.len]
theorem put_nod {dst : Option Tmp} {u : Value} (h : Good W M0 S hdr M a w) : (a.put dst u).defers = [] := by
  cases dst <;> exact h.nod

/-- A value alone. -/
theorem Good.val {dst : Option Tmp} {x : AV} {u : Value} {rd : List Nat} (h : Good W M0 S hdr M a w) (hv : RepAV w M hdr x u) : Good W M0 (S.app dst ⟨x, [], rd⟩) hdr M (a.put dst u) w :=
  ⟨h.ext, put_nod h, put_len h, put_tm h (fun _ _ => rfl) (fun _ h => h) (fun _ _ h => h) hv, h.hp, h.un, h.sep, h.ml, h.mo, h.ag⟩
theorem lk_cons (b b' : Nat) (B : Option Blk) (H : Heap) : lk ((b', B) :: H) b = if b' = b then some B else lk H b := rfl

theorem RepBlk.keep {w' : World} {M' : Mem} {hdr' : Nat → Option Value} {base : Nat → Nat → Prop} {B : Blk} {v : Value} (h : RepBlk w M hdr base B v) (hc : ∀ p, M p → w'.cell? p = w.cell? p) (hM : ∀ p, M p → M' p)
    (hh : ∀ b v, hdr b = some v → hdr' b = some v) (hg : ∀ g, own v = some g → w'.heap[g]? = w.heap[g]? ∧ ∀ p, M' p → p.block = g → M p) : RepBlk w' M' hdr' base B v := by
  cases B with
  | cells t cs fz =>
    obtain ⟨g, vs, rfl, h1, h2, h3, h4⟩ := h
    obtain ⟨k1, k2⟩ := hg g rfl
    exact ⟨g, vs, rfl, h1, k1.trans h2, h3.mono fun _ _ h => h.keep hc hM hh, fun p hp e => h4 p (k2 p hp e) e⟩
  | row t e xs fz =>
    rcases h with h | ⟨g, cap, vs, rfl, h1, h2, h3, h4, h5, h6, h7⟩
    · exact .inl h
    · obtain ⟨k1, k2⟩ := hg g rfl
      exact .inr ⟨g, cap, vs, rfl, h1, k1.trans h2, h3, h4, h5, h6.mono fun _ _ h => RepD.keep hc hM h, fun p hp e => h7 p (k2 p hp e) e⟩
theorem RepBlk.lt {base : Nat → Nat → Prop} {B : Blk} {v : Value} {g : Nat} (h : RepBlk w M hdr base B v) (hg : own v = some g) : g < w.heap.size ∧ base B.fz g := by
  cases B with
  | cells t cs fz =>
    obtain ⟨g', vs, rfl, h1, h2, _⟩ := h
    simp only [own, Option.some.injEq] at hg; subst hg
    exact ⟨(Array.getElem?_eq_some_iff.1 h2).1, h1⟩
  | row t e xs fz =>
    rcases h with ⟨_, rfl⟩ | ⟨g', cap, vs, rfl, h1, h2, _⟩
    · cases hg
    · simp only [own, Option.some.injEq] at hg; subst hg
      exact ⟨(Array.getElem?_eq_some_iff.1 h2).1, h1⟩

/-- A draw. -/
theorem Good.drew (h : Good W M0 S hdr M a w) : Good W M0 S hdr M a w.drew :=
  have hc : ∀ p, M p → w.drew.cell? p = w.cell? p := fun _ _ => rfl
  ⟨h.ext.drew, h.nod, h.len, fun t => (h.tm t).keep hc (fun _ h => h) (fun _ _ h => h), fun b B hb => by
    obtain ⟨v, hv, hr⟩ := h.hp b B hb
    exact ⟨v, hv, hr.keep hc (fun _ h => h) (fun _ _ h => h) fun g _ => ⟨rfl, fun p hp _ => hp⟩⟩, h.un, h.sep, h.ml, h.mo, h.ag⟩

/-- A new block. -/
theorem Good.fresh {dst : Option Tmp} {x : AV} {u v0 : Value} {rd : List Nat} {id g0 : Nat} {B : Blk} {w' : World} (h : Good W M0 S hdr M a w) (hid : isNew S.heap id = true)
    (hfz : B.fz < 2) (hE : Ext w w') (ho : own v0 = some g0) (hlt : w.heap.size ≤ g0)
    (hB : ∀ hdr', (∀ b v, hdr b = some v → hdr' b = some v) → hdr' id = some v0 → RepBlk w' M hdr' W.fresh B v0)
    (hx : ∀ hdr', (∀ b v, hdr b = some v → hdr' b = some v) → hdr' id = some v0 → RepAV w' M hdr' x u) :
    ∃ hdr', Good W M0 (S.app dst ⟨x, [(id, some B)], rd⟩) hdr' M (a.put dst u) w' := by
  have hn : lk S.heap id = none := by simpa [isNew] using hid
  have hne := h.un id hn
  have hh : ∀ b v, hdr b = some v → (fun b => if b = id then some v0 else hdr b) b = some v := fun b v hb => by
    have : b ≠ id := fun e => by rw [e, hne] at hb; cases hb
    simpa [this] using hb
  have hc : ∀ p, M p → w'.cell? p = w.cell? p := fun p hp => hE.cell (h.ml p hp)
  have hM : ∀ p, M p → M p := fun _ h => h
  refine ⟨fun b => if b = id then some v0 else hdr b, h.ext.trans hE, put_nod h, put_len h, put_tm h hc hM hh (hx _ hh (by simp)), ?_, ?_, ?_, fun p hp => Nat.lt_of_lt_of_le (h.ml p hp) hE.size, h.mo, ?_⟩
  · intro b C hb
    simp only [St.app, setAll, lk_cons] at hb
    split at hb
    · rename_i e; subst e
      cases hb
      exact ⟨v0, by simp, hB _ hh (by simp)⟩
    · rename_i e
      obtain ⟨v, hv, hr⟩ := h.hp b C hb
      exact ⟨v, hh b v hv, hr.keep hc hM hh fun g hg => ⟨Below.block hE g (hr.lt hg).1, fun p hp _ => hp⟩⟩
  · intro b hb
    simp only [St.app, setAll, lk_cons] at hb
    split at hb
    · cases hb
    · rename_i e
      have : b ≠ id := fun e' => e e'.symm
      simp [this, h.un b hb]
  · intro b b' C C' v v' g hbb hb hb' hv hv' hg
    simp only [St.app, setAll, lk_cons] at hb hb'
    split at hb
    · rename_i e; subst e
      simp at hv; subst hv
      rw [ho] at hg; cases hg
      rw [if_neg hbb] at hb'
      have hv'' : hdr b' = some v' := by simpa [Ne.symm hbb] using hv'
      obtain ⟨v2, h2, hr⟩ := h.hp b' C' hb'
      rw [hv''] at h2; cases h2
      intro hg'
      have := (hr.lt hg').1
      omega
    · rename_i e
      have e1 : b ≠ id := fun e' => e e'.symm
      have hv1 : hdr b = some v := by simpa [e1] using hv
      split at hb'
      · rename_i e2; subst e2
        simp at hv'; subst hv'
        obtain ⟨v2, h2, hr⟩ := h.hp b C hb
        rw [hv1] at h2; cases h2
        have := (hr.lt hg).1
        rw [ho]; intro hg'; cases hg'; omega
      · rename_i e2
        have e3 : b' ≠ id := fun e' => e2 e'.symm
        exact h.sep b b' C C' v v' g hbb hb hb' hv1 (by simpa [e3] using hv') hg
  · intro b C hb hf
    simp only [St.app, setAll, lk_cons] at hb
    split at hb
    · cases hb; omega
    · rename_i e
      have e1 : b ≠ id := fun e' => e e'.symm
      simp only [e1, if_false]
      exact h.ag b C hb hf

/-- A block written anew. -/
theorem Good.write {dst : Option Tmp} {x : AV} {u v0 : Value} {rd : List Nat} {b0 g0 : Nat} {B0 B : Blk} {w' : World} (h : Good W M0 S hdr M a w) (hb0 : lk S.heap b0 = some (some B0)) (hv0 : hdr b0 = some v0) (ho : own v0 = some g0)
    (hfz : B.fz = B0.fz) (hE : ExtW W w') (hs : w.heap.size ≤ w'.heap.size) (hother : ∀ g, g ≠ g0 → g < w.heap.size → w'.heap[g]? = w.heap[g]?) (hc : ∀ p, M p → w'.cell? p = w.cell? p)
    (hB : RepBlk w' M hdr W.fresh B v0) (hx : RepAV w' M hdr x u) :
    Good W M0 (S.app dst ⟨x, [(b0, some B)], rd⟩) hdr M (a.put dst u) w' := by
  have hM : ∀ p, M p → M p := fun _ h => h
  have hh : ∀ b v, hdr b = some v → hdr b = some v := fun _ _ h => h
  refine ⟨hE, put_nod h, put_len h, put_tm h hc hM hh hx, ?_, ?_, ?_, fun p hp => Nat.lt_of_lt_of_le (h.ml p hp) hs, h.mo, ?_⟩
  · intro b C hb
    simp only [St.app, setAll, lk_cons] at hb
    split at hb
    · rename_i e; subst e
      cases hb
      exact ⟨v0, hv0, hB⟩
    · rename_i e
      obtain ⟨v, hv, hr⟩ := h.hp b C hb
      refine ⟨v, hv, hr.keep hc hM hh fun g hg => ⟨hother g ?_ (hr.lt hg).1, fun p hp _ => hp⟩⟩
      intro e'; subst e'
      exact h.sep b0 b B0 C v0 v g e hb0 hb hv0 hv ho hg
  · intro b hb
    simp only [St.app, setAll, lk_cons] at hb
    split at hb
    · cases hb
    · exact h.un b hb
  · intro b b' C C' v v' g hbb hb hb' hv hv' hg
    simp only [St.app, setAll, lk_cons] at hb hb'
    have one : ∀ {b C}, (if b0 = b then some (some B) else lk S.heap b) = some (some C) → ∃ C, lk S.heap b = some (some C) := by
      intro b C hb
      split at hb
      · rename_i e; subst e; exact ⟨B0, hb0⟩
      · exact ⟨C, hb⟩
    obtain ⟨D, hD⟩ := one hb
    obtain ⟨D', hD'⟩ := one hb'
    exact h.sep b b' D D' v v' g hbb hD hD' hv hv' hg
  · intro b C hb hf
    simp only [St.app, setAll, lk_cons] at hb
    split at hb
    · rename_i e; subst e
      cases hb
      rw [hfz] at hf ⊢
      exact h.ag _ _ hb0 hf
    · exact h.ag b C hb hf
end
end Rx
end Go.Proofs.YtfapjkcmoefilaaGreatDoor
