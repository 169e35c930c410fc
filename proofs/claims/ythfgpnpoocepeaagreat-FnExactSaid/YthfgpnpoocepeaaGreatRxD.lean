/- The state of the evaluator over a true state; what operands say. No conditions. -/
import Derived.Test.YthfgpnpoocepeaaGreatRxC
namespace Go.Proofs.YthfgpnpoocepeaaGreat
open Go.RowKit
namespace Rx

/-- The world when the call began; the blocks that are handed over, and what points to them; O: those that are given for good. -/
structure WX where
  w : World
  A : Nat → List Nat
  arg : Nat → Option Value
  ld : Laid w
  nx : ∀ j g, g ∈ A j → globs ≤ g
  O : Nat → Prop
  no : ∀ g, O g → globs ≤ g
def WX.X (W : WX) (g : Nat) : Prop := (∃ j, g ∈ W.A j) ∨ W.O g
/-- A block of the call's own. -/
def WX.nw (W : WX) (g : Nat) : Prop := W.w.heap.size ≤ g ∨ W.O g
/-- A block that the call may write, by how it is held. -/
def WX.fresh (W : WX) (fz g : Nat) : Prop := (fz < 2 → W.nw g) ∧ (2 ≤ fz → g ∈ W.A ((fz - 2) / 2))
theorem WX.fresh.X {W : WX} {fz g : Nat} (h : W.fresh fz g) (hf : 2 ≤ fz) : W.X g := .inl ⟨_, h.2 hf⟩
theorem WX.fresh.new {W : WX} {fz g : Nat} (h : W.w.heap.size ≤ g) (hf : fz < 2) : W.fresh fz g := ⟨fun _ => .inl h, fun h => by omega⟩
theorem WX.fresh.own {W : WX} {fz g : Nat} (h : W.nw g) (hf : fz < 2) : W.fresh fz g := ⟨fun _ => h, fun h => by omega⟩
structure ExtW (W : WX) (w' : World) : Prop where
  os : w'.os = W.w.os
  tape : w'.tape = W.w.tape
  output : w'.output = W.w.output
  size : W.w.heap.size ≤ w'.heap.size
  block : ∀ k, k < W.w.heap.size → ¬ W.X k → w'.heap[k]? = W.w.heap[k]?
  drawn : W.w.drawn ≤ w'.drawn
theorem ExtW.trans {W : WX} {w w' : World} (h : ExtW W w) (k : Ext w w') : ExtW W w' :=
  ⟨k.os.trans h.os, k.tape.trans h.tape, k.output.trans h.output, Nat.le_trans h.size k.size, fun i hi hx => (k.block i (Nat.lt_of_lt_of_le hi h.size)).trans (h.block i hi hx), Nat.le_trans h.drawn k.drawn⟩
theorem ExtW.drew {W : WX} {w : World} (h : ExtW W w) : ExtW W w.drew := ⟨h.os, h.tape, h.output, h.size, h.block, Nat.le_succ_of_le h.drawn⟩
theorem ExtW.toExt {W : WX} {w : World} (hX : ∀ g, ¬ W.X g) (h : ExtW W w) : Ext W.w w := ⟨⟨h.os, h.tape, h.output, h.size, fun k hk => h.block k hk (hX k)⟩, h.drawn⟩
theorem ExtW.ofExt {W : WX} {w : World} (h : Ext W.w w) : ExtW W w := ⟨h.os, h.tape, h.output, h.size, fun k hk _ => h.block k hk, h.drawn⟩
theorem ExtW.laid {W : WX} {w : World} (h : ExtW W w) : Laid w := W.ld.keep h.size fun g hg => h.block g (Nat.lt_of_lt_of_le hg W.ld.1) fun hx => by
  rcases hx with ⟨j, hx⟩ | hx
  · have := W.nx j g hx; omega
  · have := W.no g hx; omega
theorem below_row {W : WX} {w : World} {fz g : Nat} {cs : Array Value} (h : ExtW W w) (hg : W.fresh fz g) : ExtW W (w.setRow g cs) :=
  ⟨h.os, h.tape, h.output, by have := h.size; simpa [World.setRow] using this, fun k hk hx => by
    rw [setRow_other w g k cs (fun e => by
      subst e
      rcases Nat.lt_or_ge fz 2 with hf | hf
      · rcases hg.1 hf with h1 | h1
        · omega
        · exact hx (.inr h1)
      · exact hx (hg.X hf))]
    exact h.block k hk hx, h.drawn⟩

theorem inner_half : ∀ (fz : Nat), (fz < 2 ∧ Rx.inner fz = fz) ∨ (2 ≤ fz ∧ 2 ≤ Rx.inner fz ∧ (Rx.inner fz - 2) / 2 = (fz - 2) / 2 ∧ Rx.inner fz % 2 = 1)
  | 0 => .inl ⟨by decide, rfl⟩
  | 1 => .inl ⟨by decide, rfl⟩
  | n + 2 => .inr ⟨by omega, by show 2 ≤ 2 * (n / 2) + 3; omega, by show (2 * (n / 2) + 3 - 2) / 2 = (n + 2 - 2) / 2; omega, by show (2 * (n / 2) + 3) % 2 = 1; omega⟩
theorem WX.fresh.inner {W : WX} {fz g : Nat} (h : W.fresh fz g) : W.fresh (Rx.inner fz) g := by
  rcases inner_half fz with ⟨h1, h2⟩ | ⟨h1, h2, h3, _⟩
  · rw [h2]; exact h
  · exact ⟨fun h' => by omega, fun _ => by rw [h3]; exact h.2 h1⟩
theorem WX.fresh.outer {W : WX} {fz g : Nat} (h : W.fresh (Rx.inner fz) g) : W.fresh fz g := by
  rcases inner_half fz with ⟨h1, h2⟩ | ⟨h1, h2, h3, _⟩
  · rw [h2] at h; exact h
  · exact ⟨fun h' => by omega, fun _ => by rw [← h3]; exact h.2 h2⟩

/-- The evaluator's state S is true of the frame a and the world w; W: the world when the call began, M0: what it may look at of it; inn: the world's blocks that a block lies in. -/
structure Good (W : WX) (M0 : Mem) (S : St) (hdr : Nat → Option Value) (inn : Nat → List Nat) (M : Mem) (a : Act) (w : World) : Prop where
  ext : ExtW W w
  nod : a.defers = []
  len : S.tmps.length = a.tmps.size
  tm : ∀ t, RepAV w M hdr ((S.tmps[t]?).getD .undef) (a.tmps.getD t undef)
  hp : ∀ b B, lk S.heap b = some (some B) → ∃ v, hdr b = some v ∧ RepBlk w M hdr W.fresh B v (inn b)
  un : ∀ b, lk S.heap b = none → hdr b = none
  sep : ∀ b b' B B' g, b ≠ b' → lk S.heap b = some (some B) → lk S.heap b' = some (some B') → g ∈ inn b → g ∉ inn b'
  ml : ∀ p, M p → p.block < w.heap.size
  mo : ∀ p, M p → M0 p ∨ W.nw p.block
  ag : ∀ b B, lk S.heap b = some (some B) → 2 ≤ B.fz → B.fz % 2 = 0 → hdr b = W.arg ((B.fz - 2) / 2)
def G (W : WX) (M0 : Mem) (S : St) (a : Act) (w : World) : Prop := ∃ hdr inn M, Good W M0 S hdr inn M a w

section
variable {W : WX} {M0 : Mem} {S : St} {hdr : Nat → Option Value} {inn : Nat → List Nat} {M : Mem} {a : Act} {w : World}

theorem absC_rep {v : Value} {c : Cell} (h : absC v = some c) : RepC w M hdr c v := by
  unfold absC at h
  split at h <;> first | (cases h; rfl) | cases h
theorem absV_rep (v : Value) : RepAV w M hdr (absV v) v := by
  unfold absV
  cases h : absC v with
  | none => trivial
  | some c => exact absC_rep h
theorem Good.ev (h : Good W M0 S hdr inn M a w) (x : Operand) : RepAV w M hdr (S.ev x) (a.eval x) := by
  cases x with
  | tmp t => exact h.tm t
  | const v => exact absV_rep v
  | global g => trivial
  | func f => exact ⟨#[], rfl, .inl ⟨rfl, rfl⟩⟩
/-- Three words at a time: an operand that the evaluator knows. -/
theorem Good.int {x : Operand} {k : IntKind} {n : Int} (h : Good W M0 S hdr inn M a w) (e : S.ev x = .v (.one (.int k n))) : a.eval x = .int k n := by
  have := h.ev x; rw [e] at this; exact this
theorem Good.bool {x : Operand} {b : Bool} (h : Good W M0 S hdr inn M a w) (e : S.ev x = .v (.one (.bool b))) : a.eval x = .bool b := by
  have := h.ev x; rw [e] at this; exact this
theorem Good.str {x : Operand} {s : ByteArray} (h : Good W M0 S hdr inn M a w) (e : S.ev x = .v (.one (.str s))) : a.eval x = .string s := by
  have := h.ev x; rw [e] at this; exact this
theorem Good.one {x : Operand} {c : Cell} (h : Good W M0 S hdr inn M a w) (e : S.ev x = .v (.one c)) : RepC w M hdr c (a.eval x) := by
  have := h.ev x; rw [e] at this; exact this
theorem Good.v1 {x : Operand} {c : V1} (h : Good W M0 S hdr inn M a w) (e : S.ev x = .v c) : RepV1 w M hdr c (a.eval x) := by
  have := h.ev x; rw [e] at this; exact this

theorem getD_put (l : List AV) (tm : Array Value) (d t : Nat) (v : AV) (u : Value) (hl : l.length = tm.size) (P : AV → Value → Prop) (h0 : P .undef undef) (hv : P v u) (h : ∀ t, P ((l[t]?).getD .undef) (tm.getD t undef)) :
    P (((l.set d v)[t]?).getD .undef) ((tm.setIfInBounds d u).getD t undef) := by
  by_cases hd : d = t
  · subst hd
    by_cases hlt : d < l.length
    · have hlt' : d < tm.size := hl ▸ hlt
      simp [hlt, hlt']; exact hv
    · have hlt' : ¬ d < tm.size := hl ▸ hlt
      simp [hlt, hlt']; exact h0
  · have := h t
    simp [List.getElem?_set_ne hd]
    by_cases ht : t < tm.size
    · simp [ht, Array.getElem_setIfInBounds_ne ht hd] at this ⊢; exact this
    · simp [ht] at this ⊢; exact this

theorem put_tm {dst : Option Tmp} {v : AV} {u : Value} {w' : World} {M' : Mem} {hdr' : Nat → Option Value} (h : Good W M0 S hdr inn M a w) (hc : ∀ p, M p → w'.cell? p = w.cell? p) (hM : ∀ p, M p → M' p)
    (hh : ∀ b v, hdr b = some v → hdr' b = some v) (hv : RepAV w' M' hdr' v u) (t : Nat) : RepAV w' M' hdr' (((putT S.tmps dst v)[t]?).getD .undef) ((a.put dst u).tmps.getD t undef) := by
  cases dst with
  | none => exact (h.tm t).keep hc hM hh
  | some d => exact getD_put S.tmps a.tmps d t v u h.len (RepAV w' M' hdr') trivial hv fun t => (h.tm t).keep hc hM hh
theorem put_len {dst : Option Tmp} {v : AV} {u : Value} (h : Good W M0 S hdr inn M a w) : (putT S.tmps dst v).length = (a.put dst u).tmps.size := by
  cases dst with
  | none => exact h.len
  | some d => simp [putT, Act.put, h.len]
theorem put_nod {dst : Option Tmp} {u : Value} (h : Good W M0 S hdr inn M a w) : (a.put dst u).defers = [] := by
  cases dst <;> exact h.nod

/-- A value alone. -/
theorem Good.val {dst : Option Tmp} {x : AV} {u : Value} {rd : List Nat} (h : Good W M0 S hdr inn M a w) (hv : RepAV w M hdr x u) : Good W M0 (S.app dst ⟨x, [], rd⟩) hdr inn M (a.put dst u) w :=
  ⟨h.ext, put_nod h, put_len h, put_tm h (fun _ _ => rfl) (fun _ h => h) (fun _ _ h => h) hv, h.hp, h.un, h.sep, h.ml, h.mo, h.ag⟩
theorem lk_cons (b b' : Nat) (B : Option Blk) (H : Heap) : lk ((b', B) :: H) b = if b' = b then some B else lk H b := rfl

theorem RepBlk.keep {w' : World} {M' : Mem} {hdr' : Nat → Option Value} {base : Nat → Nat → Prop} {B : Blk} {v : Value} {gs : List Nat} (h : RepBlk w M hdr base B v gs) (hc : ∀ p, M p → w'.cell? p = w.cell? p) (hM : ∀ p, M p → M' p)
    (hh : ∀ b v, hdr b = some v → hdr' b = some v) (hg : ∀ g ∈ gs, w'.heap[g]? = w.heap[g]? ∧ ∀ p, M' p → p.block = g → M p) : RepBlk w' M' hdr' base B v gs := by
  cases B with
  | cells t cs fz =>
    obtain ⟨g, vs, rfl, rfl, h1, h2, h3, h4⟩ := h
    obtain ⟨k1, k2⟩ := hg g (by simp)
    exact ⟨g, vs, rfl, rfl, h1, k1.trans h2, h3.mono fun _ _ h => h.keep hc hM hh, fun p hp e => h4 p (k2 p hp e) e⟩
  | row t e xs fz =>
    rcases h with h | ⟨g, cap, vs, rfl, rfl, h1, h2, h3, h4, h5, h6, h7⟩
    · exact .inl h
    · obtain ⟨k1, k2⟩ := hg g (by simp)
      exact .inr ⟨g, cap, vs, rfl, rfl, h1, k1.trans h2, h3, h4, h5, h6.mono fun _ _ h => RepD.keep hc hM h, fun p hp e => h7 p (k2 p hp e) e⟩
  | deep t T xs op fz =>
    rcases h with h | ⟨g, cap, vs, gi, rfl, rfl, hn, h1, h2, h3, h4, h5, h6, h7⟩
    · exact .inl h
    · exact .inr ⟨g, cap, vs, gi, rfl, rfl, hn, h1, (hg g (by simp)).1.trans h2, h3, h4, h5, h6.keep hc hM hh fun g' hm => (hg g' (by simp [hm])).1, fun p hp e => h7 p ((hg p.block e).2 p hp rfl) e⟩
  | obj o x fz => exact ⟨h.1.keep hc hM fun g hm => (hg g hm).1, h.2.1, fun p hp e => h.2.2 p ((hg p.block e).2 p hp rfl) e⟩
theorem RepBlk.lt {base : Nat → Nat → Prop} {B : Blk} {v : Value} {g : Nat} {gs : List Nat} (h : RepBlk w M hdr base B v gs) (hg : g ∈ gs) : g < w.heap.size ∧ base B.fz g := by
  cases B with
  | cells t cs fz =>
    obtain ⟨g', vs, rfl, rfl, h1, h2, _⟩ := h
    rw [List.mem_singleton] at hg; subst hg
    exact ⟨(Array.getElem?_eq_some_iff.1 h2).1, h1⟩
  | row t e xs fz =>
    rcases h with ⟨_, rfl, rfl⟩ | ⟨g', cap, vs, rfl, rfl, h1, h2, _⟩
    · cases hg
    · rw [List.mem_singleton] at hg; subst hg
      exact ⟨(Array.getElem?_eq_some_iff.1 h2).1, h1⟩
  | deep t T xs op fz =>
    rcases h with ⟨_, _, rfl, rfl⟩ | ⟨g', cap, vs, gi, rfl, rfl, hn, h1, h2, h3, h4, h5, h6, h7⟩
    · cases hg
    · refine ⟨?_, h1 g hg⟩
      rcases List.mem_cons.1 hg with rfl | hg
      · exact (Array.getElem?_eq_some_iff.1 h2).1
      · exact h6.lt g hg
  | obj o x fz => exact ⟨h.1.lt g hg, h.2.1 g hg⟩

/-- A draw. -/
theorem Good.drew (h : Good W M0 S hdr inn M a w) : Good W M0 S hdr inn M a w.drew :=
  have hc : ∀ p, M p → w.drew.cell? p = w.cell? p := fun _ _ => rfl
  ⟨h.ext.drew, h.nod, h.len, fun t => (h.tm t).keep hc (fun _ h => h) (fun _ _ h => h), fun b B hb => by
    obtain ⟨v, hv, hr⟩ := h.hp b B hb
    exact ⟨v, hv, hr.keep hc (fun _ h => h) (fun _ _ h => h) fun g _ => ⟨rfl, fun p hp _ => hp⟩⟩, h.un, h.sep, h.ml, h.mo, h.ag⟩

/-- Some blocks are new, some are another thing now, some are gone; the rest is as it was. -/
theorem Good.step {dst : Option Tmp} {x : AV} {u : Value} {rd : List Nat} {wr : List (Nat × Option Blk)} {w' : World} {M' : Mem} {hdr' : Nat → Option Value} {inn' : Nat → List Nat} (h : Good W M0 S hdr inn M a w) (hE : ExtW W w') (hs : w.heap.size ≤ w'.heap.size)
    (hc : ∀ p, M p → w'.cell? p = w.cell? p) (hM : ∀ p, M p → M' p) (hh : ∀ b v, hdr b = some v → hdr' b = some v) (hm : ∀ p, M' p → p.block < w'.heap.size ∧ (M0 p ∨ W.nw p.block))
    (hn : ∀ b, lk (setAll S.heap wr) b = none → hdr' b = none)
    (hB : ∀ b B, lk (setAll S.heap wr) b = some (some B) → (∃ v, hdr' b = some v ∧ RepBlk w' M' hdr' W.fresh B v (inn' b)) ∧ (2 ≤ B.fz → B.fz % 2 = 0 → hdr' b = W.arg ((B.fz - 2) / 2)))
    (hS : ∀ b b' B B' g, b ≠ b' → lk (setAll S.heap wr) b = some (some B) → lk (setAll S.heap wr) b' = some (some B') → g ∈ inn' b → g ∉ inn' b')
    (hx : RepAV w' M' hdr' x u) : Good W M0 (S.app dst ⟨x, wr, rd⟩) hdr' inn' M' (a.put dst u) w' :=
  ⟨hE, put_nod h, put_len h, put_tm h hc hM hh hx, fun b B hb => (hB b B hb).1, hn, hS, fun p hp => (hm p hp).1, fun p hp => (hm p hp).2, fun b B hb => (hB b B hb).2⟩

/-- A new block. -/
theorem Good.fresh {dst : Option Tmp} {x : AV} {u v0 : Value} {rd gs : List Nat} {id : Nat} {B : Blk} {w' : World} (h : Good W M0 S hdr inn M a w) (hid : isNew S.heap id = true)
    (hfz : B.fz < 2) (hE : Ext w w') (hlt : ∀ g ∈ gs, w.heap.size ≤ g)
    (hB : ∀ hdr', (∀ b v, hdr b = some v → hdr' b = some v) → hdr' id = some v0 → RepBlk w' M hdr' W.fresh B v0 gs)
    (hx : ∀ hdr', (∀ b v, hdr b = some v → hdr' b = some v) → hdr' id = some v0 → RepAV w' M hdr' x u) :
    ∃ hdr' inn', Good W M0 (S.app dst ⟨x, [(id, some B)], rd⟩) hdr' inn' M (a.put dst u) w' := by
  have hn : lk S.heap id = none := by simpa [isNew] using hid
  have hne := h.un id hn
  have hh : ∀ b v, hdr b = some v → (fun b => if b = id then some v0 else hdr b) b = some v := fun b v hb => by
    have : b ≠ id := fun e => by rw [e, hne] at hb; cases hb
    simpa [this] using hb
  have hc : ∀ p, M p → w'.cell? p = w.cell? p := fun p hp => hE.cell (h.ml p hp)
  have hM : ∀ p, M p → M p := fun _ h => h
  have old : ∀ {b C}, lk (setAll S.heap [(id, some B)]) b = some (some C) → (b = id ∧ C = B) ∨ (b ≠ id ∧ lk S.heap b = some (some C)) := by
    intro b C hb
    simp only [setAll, lk_cons] at hb
    split at hb
    · rename_i e; subst e; cases hb; exact .inl ⟨rfl, rfl⟩
    · rename_i e; exact .inr ⟨fun e' => e e'.symm, hb⟩
  refine ⟨fun b => if b = id then some v0 else hdr b, fun b => if b = id then gs else inn b, h.step (h.ext.trans hE) hE.size hc hM hh (fun p hp => ⟨Nat.lt_of_lt_of_le (h.ml p hp) hE.size, h.mo p hp⟩) ?_ ?_ ?_ (hx _ hh (by simp))⟩
  · intro b hb
    simp only [setAll, lk_cons] at hb
    split at hb
    · cases hb
    · rename_i e
      have : b ≠ id := fun e' => e e'.symm
      simp [this, h.un b hb]
  · intro b C hb
    rcases old hb with ⟨rfl, rfl⟩ | ⟨e, hb⟩
    · exact ⟨⟨v0, by simp, by simpa using hB _ hh (by simp)⟩, fun hf => by omega⟩
    · obtain ⟨v, hv, hr⟩ := h.hp b C hb
      simp only [e, if_false]
      exact ⟨⟨v, hv, hr.keep hc hM hh fun g hg => ⟨hE.block g (hr.lt hg).1, fun p hp _ => hp⟩⟩, h.ag b C hb⟩
  · intro b b' C C' g hbb hb hb' hg
    have lt : ∀ {b C g}, lk S.heap b = some (some C) → g ∈ inn b → g < w.heap.size := fun hb hg => by
      obtain ⟨v, hv, hr⟩ := h.hp _ _ hb
      exact (hr.lt hg).1
    rcases old hb with ⟨rfl, rfl⟩ | ⟨e, hb0⟩
    · rcases old hb' with ⟨rfl, rfl⟩ | ⟨e', hb0'⟩
      · exact absurd rfl hbb
      · simp only [if_true] at hg
        simp only [e', if_false]
        intro hg'
        have := hlt g hg
        have := lt hb0' hg'
        omega
    · simp only [e, if_false] at hg
      rcases old hb' with ⟨rfl, rfl⟩ | ⟨e', hb0'⟩
      · simp only [if_true]
        intro hg'
        have := hlt g hg'
        have := lt hb0 hg
        omega
      · simp only [e', if_false]
        exact h.sep b b' C C' g hbb hb0 hb0' hg

/-- A block written anew. -/
theorem Good.write {dst : Option Tmp} {x : AV} {u v0 : Value} {rd : List Nat} {b0 : Nat} {B0 B : Blk} {w' : World} (h : Good W M0 S hdr inn M a w) (hb0 : lk S.heap b0 = some (some B0)) (hv0 : hdr b0 = some v0)
    (hfz : B.fz = B0.fz) (hE : ExtW W w') (hs : w.heap.size ≤ w'.heap.size) (hother : ∀ g, g ∉ inn b0 → g < w.heap.size → w'.heap[g]? = w.heap[g]?) (hc : ∀ p, M p → w'.cell? p = w.cell? p)
    (hB : RepBlk w' M hdr W.fresh B v0 (inn b0)) (hx : RepAV w' M hdr x u) :
    Good W M0 (S.app dst ⟨x, [(b0, some B)], rd⟩) hdr inn M (a.put dst u) w' := by
  have hM : ∀ p, M p → M p := fun _ h => h
  have hh : ∀ b v, hdr b = some v → hdr b = some v := fun _ _ h => h
  have old : ∀ {b C}, lk (setAll S.heap [(b0, some B)]) b = some (some C) → ∃ C0, lk S.heap b = some (some C0) ∧ ((b = b0 ∧ C = B) ∨ (b ≠ b0 ∧ C = C0)) := by
    intro b C hb
    simp only [setAll, lk_cons] at hb
    split at hb
    · rename_i e; subst e; cases hb; exact ⟨B0, hb0, .inl ⟨rfl, rfl⟩⟩
    · rename_i e; exact ⟨C, hb, .inr ⟨fun e' => e e'.symm, rfl⟩⟩
  refine h.step hE hs hc hM hh (fun p hp => ⟨Nat.lt_of_lt_of_le (h.ml p hp) hs, h.mo p hp⟩) ?_ ?_ ?_ hx
  · intro b hb
    simp only [setAll, lk_cons] at hb
    split at hb
    · cases hb
    · exact h.un b hb
  · intro b C hb
    obtain ⟨C0, h0, hcase⟩ := old hb
    rcases hcase with ⟨rfl, rfl⟩ | ⟨e, rfl⟩
    · exact ⟨⟨v0, hv0, hB⟩, fun hf hf2 => by rw [hfz] at hf hf2 ⊢; exact h.ag _ _ hb0 hf hf2⟩
    · obtain ⟨v, hv, hr⟩ := h.hp b C h0
      exact ⟨⟨v, hv, hr.keep hc hM hh fun g hg => ⟨hother g (fun hg' => h.sep b0 b B0 C g (fun e' => e e'.symm) hb0 h0 hg' hg) (hr.lt hg).1, fun p hp _ => hp⟩⟩, h.ag b C h0⟩
  · intro b b' C C' g hbb hb hb' hg
    obtain ⟨D, hD, _⟩ := old hb
    obtain ⟨D', hD', _⟩ := old hb'
    exact h.sep b b' D D' g hbb hD hD' hg
/-- A block written anew that may lie in new blocks. -/
theorem Good.grow {dst : Option Tmp} {x : AV} {u v0 : Value} {rd gs : List Nat} {b0 : Nat} {B0 B : Blk} {w' : World} (h : Good W M0 S hdr inn M a w) (hb0 : lk S.heap b0 = some (some B0)) (hv0 : hdr b0 = some v0)
    (hfz : B.fz = B0.fz) (hE : ExtW W w') (hs : w.heap.size ≤ w'.heap.size) (hother : ∀ g, g ∉ inn b0 → g < w.heap.size → w'.heap[g]? = w.heap[g]?) (hc : ∀ p, M p → w'.cell? p = w.cell? p)
    (hgs : ∀ g ∈ gs, g ∈ inn b0 ∨ w.heap.size ≤ g) (hB : RepBlk w' M hdr W.fresh B v0 gs) (hx : RepAV w' M hdr x u) :
    ∃ inn', Good W M0 (S.app dst ⟨x, [(b0, some B)], rd⟩) hdr inn' M (a.put dst u) w' := by
  have hM : ∀ p, M p → M p := fun _ h => h
  have hh : ∀ b v, hdr b = some v → hdr b = some v := fun _ _ h => h
  have old : ∀ {b C}, lk (setAll S.heap [(b0, some B)]) b = some (some C) → ∃ C0, lk S.heap b = some (some C0) ∧ ((b = b0 ∧ C = B) ∨ (b ≠ b0 ∧ C = C0)) := by
    intro b C hb
    simp only [setAll, lk_cons] at hb
    split at hb
    · rename_i e; subst e; cases hb; exact ⟨B0, hb0, .inl ⟨rfl, rfl⟩⟩
    · rename_i e; exact ⟨C, hb, .inr ⟨fun e' => e e'.symm, rfl⟩⟩
  have lt : ∀ {b C g}, lk S.heap b = some (some C) → g ∈ inn b → g < w.heap.size := fun hb hg => by
    obtain ⟨v, hv, hr⟩ := h.hp _ _ hb
    exact (hr.lt hg).1
  refine ⟨fun b => if b = b0 then gs else inn b, h.step hE hs hc hM hh (fun p hp => ⟨Nat.lt_of_lt_of_le (h.ml p hp) hs, h.mo p hp⟩) ?_ ?_ ?_ hx⟩
  · intro b hb
    simp only [setAll, lk_cons] at hb
    split at hb
    · cases hb
    · exact h.un b hb
  · intro b C hb
    obtain ⟨C0, h0, hcase⟩ := old hb
    rcases hcase with ⟨rfl, rfl⟩ | ⟨e, rfl⟩
    · exact ⟨⟨v0, hv0, by simpa using hB⟩, fun hf hf2 => by rw [hfz] at hf hf2 ⊢; exact h.ag _ _ hb0 hf hf2⟩
    · obtain ⟨v, hv, hr⟩ := h.hp b C h0
      simp only [e, if_false]
      exact ⟨⟨v, hv, hr.keep hc hM hh fun g hg => ⟨hother g (fun hg' => h.sep b0 b B0 C g (fun e' => e e'.symm) hb0 h0 hg' hg) (hr.lt hg).1, fun p hp _ => hp⟩⟩, h.ag b C h0⟩
  · have main : ∀ {b C g}, b ≠ b0 → lk S.heap b = some (some C) → g ∈ inn b → g ∉ gs := fun {b C g} hb hbC hg hg' => by
      rcases hgs g hg' with h1 | h1
      · exact h.sep b b0 C B0 g hb hbC hb0 hg h1
      · have := lt hbC hg; omega
    intro b b' C C' g hbb hb hb' hg
    obtain ⟨D, hD, hcase⟩ := old hb
    obtain ⟨D', hD', hcase'⟩ := old hb'
    rcases hcase with ⟨rfl, _⟩ | ⟨e, _⟩
    · have e' : b' ≠ b := fun e => hbb e.symm
      simp only [if_true] at hg
      simp only [e', if_false]
      exact fun hg' => main e' hD' hg' hg
    · simp only [e, if_false] at hg
      rcases hcase' with ⟨rfl, _⟩ | ⟨e', _⟩
      · simp only [if_true]
        exact main e hD hg
      · simp only [e', if_false]
        exact h.sep b b' D D' g hbb hD hD' hg
theorem Good.sameH {H' : Heap} (h : Good W M0 S hdr inn M a w) (hs : ∀ b, lk S.heap b = lk H' b) : Good W M0 ⟨S.tmps, H'⟩ hdr inn M a w :=
  ⟨h.ext, h.nod, h.len, h.tm, fun b B hb => h.hp b B ((hs b).trans hb), fun b hb => h.un b ((hs b).trans hb), fun b b' B B' g hbb hb hb' => h.sep b b' B B' g hbb ((hs b).trans hb) ((hs b').trans hb'), h.ml, h.mo, fun b B hb => h.ag b B ((hs b).trans hb)⟩

theorem setAll_append (H : Heap) : ∀ (l1 l2 : List (Nat × Option Blk)), setAll H (l1 ++ l2) = setAll (setAll H l1) l2
  | [], _ => rfl
  | x :: l1, l2 => by rw [List.cons_append, setAll, setAll_append _ l1 l2]; rfl
theorem lk_setAll : ∀ (l : List (Nat × Option Blk)) (H : Heap) (b : Nat), (l.map (·.1)).Nodup → lk (setAll H l) b = (match l.lookup b with | some x => some x | none => lk H b)
  | [], H, b, _ => rfl
  | (n, x) :: r, H, b, hn => by
    simp only [List.map_cons, List.nodup_cons] at hn
    rw [setAll, lk_setAll r _ b hn.2, List.lookup_cons, lk_cons]
    by_cases hb : b = n
    · subst hb
      have : r.lookup b = none := by
        rw [List.lookup_eq_none_iff]
        intro p hp
        simp
        intro e
        exact hn.1 (by rw [e]; exact List.mem_map_of_mem hp)
      simp [this]
    · have h1 : (b == n) = false := by simpa using hb
      have h2 : ¬ n = b := fun e => hb e.symm
      simp only [h1, h2, if_false]
theorem lookup_range {β : Type} {R : Blk → β → Prop} : ∀ {l : List (Nat × Option Blk)} {hs : List β} {n b : Nat}, All2 (fun q v => ∃ B, q.2 = some B ∧ R B v) l hs → l.map (·.1) = List.range' n hs.length →
    (∀ x, l.lookup b = some x → ∃ j v B, b = n + j ∧ hs[j]? = some v ∧ x = some B ∧ R B v) ∧ (l.lookup b = none → ¬ (n ≤ b ∧ b < n + hs.length))
  | [], hs, n, b, hA, _ => by
    obtain rfl := hA.nil'
    exact ⟨fun x h => (by cases h), fun _ => by simp⟩
  | q :: l, hs, n, b, hA, hr => by
    obtain ⟨v, hs', rfl, h1, h2⟩ := hA.cons'
    obtain ⟨m, x0⟩ := q
    simp only [List.map_cons, List.length_cons, List.range'_succ, List.cons.injEq] at hr
    obtain ⟨rfl, hr⟩ := hr
    obtain ⟨i1, i2⟩ := lookup_range (b := b) h2 hr
    rw [List.lookup_cons]
    by_cases hb : b = m
    · subst hb
      simp only [beq_self_eq_true]
      refine ⟨fun x hx => ?_, fun h => by cases h⟩
      cases hx
      obtain ⟨B, hB, hR⟩ := h1
      exact ⟨0, v, B, rfl, rfl, hB, hR⟩
    · have hbe : (b == m) = false := by simpa using hb
      simp only [hbe]
      refine ⟨fun x hx => ?_, fun hx => ?_⟩
      · obtain ⟨j, v', B, rfl, k1, k2, k3⟩ := i1 x hx
        exact ⟨j + 1, v', B, by omega, by simpa using k1, k2, k3⟩
      · have := i2 hx
        simp only [List.length_cons]
        omega

theorem noDup_spec : ∀ {l : List Nat}, noDup l = true → l.Nodup
  | [], _ => .nil
  | x :: r, h => by
    unfold noDup at h
    simp only [Bool.and_eq_true, Bool.not_eq_true'] at h
    refine List.nodup_cons.2 ⟨fun hm => ?_, noDup_spec h.2⟩
    have := h.1
    simp at this
    exact this hm
/-- What of a block's memory is looked at from outside. -/
theorem RepBlk.seen {base : Nat → Nat → Prop} {B : Blk} {v : Value} {gs : List Nat} (h : RepBlk w M hdr base B v gs) : ∀ p, M p → p.block ∈ gs → B.fz = 1 ∧ B.sees p.off := by
  intro p hp ho
  cases B with
  | cells t cs fz =>
    obtain ⟨g, vs, rfl, rfl, h1, h2, h3, h4⟩ := h
    rw [List.mem_singleton] at ho
    exact h4 p hp ho
  | row t T xs fz =>
    rcases h with ⟨_, rfl, rfl⟩ | ⟨g, cap, vs, rfl, rfl, h1, h2, h3, h4, h5, h6, h7⟩
    · cases ho
    · rw [List.mem_singleton] at ho
      exact h7 p hp ho
  | deep t T xs op fz =>
    rcases h with ⟨_, _, rfl, rfl⟩ | ⟨g, cap, vs, gi, rfl, rfl, hn, h1, h2, h3, h4, h5, h6, h7⟩
    · cases ho
    · exact ⟨h7 p hp ho, trivial⟩
  | obj o x fz => exact ⟨h.2.2 p hp ho, trivial⟩

/-- A slice or a pointer to a block of its own, with the world's blocks that it lies in. -/
abbrev Hd := Value × List Nat
def gsOf (hs : List Hd) : List Nat := hs.flatMap (·.2)
theorem gsOf_nil : gsOf [] = [] := rfl
theorem gsOf_cons (x : Hd) (hs : List Hd) : gsOf (x :: hs) = x.2 ++ gsOf hs := rfl
theorem gsOf_append (a b : List Hd) : gsOf (a ++ b) = gsOf a ++ gsOf b := by unfold gsOf; rw [List.flatMap_append]
theorem gsOf_one (x : Hd) : gsOf [x] = x.2 := by simp [gsOf]
theorem mem_gsOf {hs : List Hd} {g : Nat} : g ∈ gsOf hs ↔ ∃ x ∈ hs, g ∈ x.2 := by unfold gsOf; exact List.mem_flatMap
theorem gs_sep : ∀ {hs : List Hd}, (gsOf hs).Nodup → ∀ {i j : Nat} {u v : Hd} {g : Nat}, i ≠ j → hs[i]? = some u → hs[j]? = some v → g ∈ u.2 → g ∉ v.2 := by
  have gen : ∀ (l : List Hd), (gsOf l).Nodup → ∀ (i j : Nat) (u v : Hd) g, i < j → l[i]? = some u → l[j]? = some v → g ∈ u.2 → g ∉ v.2 := by
    intro l
    induction l with
    | nil => intro _ i j u v g _ hu; simp at hu
    | cons x l ih =>
      intro hn i j u v g hij hu hv hg hg'
      rw [gsOf_cons, List.nodup_append] at hn
      cases j with
      | zero => omega
      | succ j =>
        have hv' : l[j]? = some v := by simpa using hv
        cases i with
        | zero =>
          simp at hu; subst hu
          exact hn.2.2 g hg g (mem_gsOf.2 ⟨v, List.mem_of_getElem? hv', hg'⟩) rfl
        | succ i => exact ih hn.2.1 i j u v g (by omega) (by simpa using hu) hv' hg hg'
  intro hs hn i j u v g hij hu hv hg hg'
  rcases Nat.lt_or_gt_of_ne hij with h1 | h1
  · exact gen hs hn i j u v g h1 hu hv hg hg'
  · exact gen hs hn j i v u g h1 hv hu hg' hg
end
end Rx
end Go.Proofs.YthfgpnpoocepeaaGreat
