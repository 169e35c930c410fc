/- Contracts over data; the evaluator's calls are true of the program's. No conditions. -/
import Derived.Test.YthfgpnpoocepeaaGreatRxI
import Derived.Conc.MuLone
namespace Go.Proofs.YthfgpnpoocepeaaGreat
open Go.RowKit
namespace Rx

def ValD (w : World) (M : Mem) (T : Ty) (x : T.den) (v : Value) : Prop := RepV1 w M (fun _ => none) (v1Of T x) v
def RepArgs (w : World) (M : Mem) : (Ts : List Ty) → Dens Ts → List Value → Prop
  | [], _, vs => vs = []
  | [T], x, vs => ∃ v, vs = [v] ∧ ValD w M T x v
  | T :: U :: Ts, x, vs => ∃ v r, vs = v :: r ∧ ValD w M T x.1 v ∧ RepArgs w M (U :: Ts) x.2 r

def aggR : RTy → Bool
  | .d (.pair _ _) => true
  | .d .unit => true
  | .d _ => false
  | .row _ _ => false
  | .pair _ _ => true
  | .box _ _ => false
  | .deep _ _ => false
  | .mp _ _ _ => false
/-- A result's cells; hs: the slices in memory of their own. -/
def RepR (base : Nat → Prop) (w : World) (M : Mem) : (T : RTy) → T.den → List Value → List Hd → Prop
  | .d T, x, vs, hs => RepD w M T x vs ∧ hs = []
  | .row t e, xs, vs, hs => ∃ v gs, vs = [v] ∧ hs = [(v, gs)] ∧ RepBlk w M (fun _ => none) (fun _ => base) (.row t e xs 0) v gs
  | .pair a b, x, vs, hs => ∃ v1 v2 h1 h2, vs = v1 ++ v2 ∧ hs = h1 ++ h2 ∧ RepR base w M a x.1 v1 h1 ∧ RepR base w M b x.2 v2 h2
  | .box t T, x, vs, hs => ∃ v gs, vs = [v] ∧ hs = [(v, gs)] ∧ RepBlk w M (fun _ => none) (fun _ => base) (.cells t (cellsOf T x) 0) v gs
  | .deep t R, xs, vs, hs => ∃ v gs, vs = [v] ∧ hs = [(v, gs)] ∧ RepBlk w M (fun _ => none) (fun _ => base) (.deep t R xs none 0) v gs
  | .mp fr t e, x, vs, hs => ∃ v gs, vs = [v] ∧ hs = [(v, gs)] ∧ RepBlk w M (fun _ => none) (fun _ => base) (.obj (.mp fr t e) x 0) v gs
def ShapeR (T : RTy) (v : Value) : Prop := if aggR T then ∃ cs : List Value, v = .agg cs.toArray else v.oneCell' = true
def RepRs (base : Nat → Prop) (w : World) (M : Mem) : (Ts : List RTy) → RDens Ts → List Value → List Hd → Prop
  | [], _, vs, hs => vs = [] ∧ hs = []
  | [T], x, vs, hs => ∃ v, vs = [v] ∧ ShapeR T v ∧ RepR base w M T x v.cells.toList hs
  | T :: U :: Ts, x, vs, hs => ∃ v r h1 h2, vs = v :: r ∧ hs = h1 ++ h2 ∧ ShapeR T v ∧ RepR base w M T x.1 v.cells.toList h1 ∧ RepRs base w M (U :: Ts) x.2 r h2
def retOf : List Value → Value
  | [v] => v
  | vs => .tuple vs.toArray

def Callable (P : Program) (f : FuncId) : Prop := ∃ fn c, P.funcs[f]? = some fn ∧ (fn.name == "runtime.NumGoroutine") = false ∧ fn.body = some c
/-- The contract: handed data, the function returns what F says, and leaves what was there alone. -/
def Con.ok (P : Program) (f : FuncId) (c : Con) : Prop := Callable P f ∧ ∀ (w : World) (M : Mem) (vs : List Value) (x : Dens c.dom) (y : RDens c.cod), Laid w → (∀ p, M p → p.block < w.heap.size) → RepArgs w M c.dom x vs → c.F x = some y →
  Calls P f vs.toArray w fun e w' => ∃ rs hs M', e = .returned (retOf rs) ∧ Ext w w' ∧ RepRs (fun g => w.heap.size ≤ g) w' M' c.cod y rs hs ∧ (gsOf hs).Nodup ∧ ∀ p, M' p → (M p ∨ w.heap.size ≤ p.block) ∧ p.block < w'.heap.size ∧ p.block ∉ gsOf hs

/-- What is handed to a function that writes. -/
def RepA (w : World) (M : Mem) : (A : ATy) → A.den → Value → List Hd → Prop
  | .v R, x, v, hs => ShapeR R v ∧ RepR (fun _ => True) w M R x v.cells.toList hs
  | .box t T, x, v, hs => ∃ gs, hs = [(v, gs)] ∧ RepBlk w M (fun _ => none) (fun _ _ => True) (.cells t (cellsOf T x) 0) v gs
def RepAs (w : World) (M : Mem) : (As : List ATy) → ADens As → List Value → List Hd → Prop
  | [], _, vs, hs => vs = [] ∧ hs = []
  | [A], x, vs, hs => ∃ v, vs = [v] ∧ RepA w M A x v hs
  | A :: B :: As, x, vs, hs => ∃ v r h1 h2, vs = v :: r ∧ hs = h1 ++ h2 ∧ RepA w M A x.1 v h1 ∧ RepAs w M (B :: As) x.2 r h2
/-- The world when a function is called that writes into what is handed to it. -/
theorem lend_mem {ms : List Hd} {j g : Nat} (h : g ∈ ((ms[j]?).map (·.2)).getD []) : g ∈ gsOf ms := by
  cases hj : ms[j]? with
  | none => rw [hj] at h; cases h
  | some v => rw [hj] at h; exact mem_gsOf.2 ⟨v, List.mem_of_getElem? hj, h⟩
def lendW (w : World) (ms : List Hd) (hl : Laid w) (hx : ∀ g, g ∈ gsOf ms → globs ≤ g) : WX := ⟨w, fun j => ((ms[j]?).map (·.2)).getD [], fun j => (ms[j]?).map (·.1), hl, fun _ g hg => hx g (lend_mem hg), fun _ => False, fun _ h => h.elim⟩
theorem lendW_X {w : World} {ms : List Hd} {hl : Laid w} {hx : ∀ g, g ∈ gsOf ms → globs ≤ g} {g : Nat} : (lendW w ms hl hx).X g ↔ g ∈ gsOf ms := by
  constructor
  · rintro (⟨j, hj⟩ | h)
    · exact lend_mem hj
    · exact h.elim
  · intro hg
    obtain ⟨v, hv, hgv⟩ := mem_gsOf.1 hg
    obtain ⟨j, hj⟩ := List.getElem?_of_mem hv
    exact .inl ⟨j, by show g ∈ ((ms[j]?).map (·.2)).getD []; rw [hj]; exact hgv⟩
/-- The contract of a function that writes into what is handed to it: it writes nothing else that was there. -/
def MCon.ok (P : Program) (f : FuncId) (c : MCon) : Prop := Callable P f ∧ ∀ (w : World) (M : Mem) (vs : List Value) (ms : List Hd) (x : ADens c.dom) (y : RDens c.cod) (x' : ADens c.dom) (hl : Laid w) (hx : ∀ g, g ∈ gsOf ms → globs ≤ g), (∀ p, M p → p.block < w.heap.size) → RepAs w M c.dom x vs ms → (gsOf ms).Nodup → c.F x = some (y, x') →
  Calls P f vs.toArray w fun e w' => ∃ rs hs ms' M', e = .returned (retOf rs) ∧ ExtW (lendW w ms hl hx) w' ∧ RepRs (fun g => w.heap.size ≤ g) w' M' c.cod y rs hs ∧ RepAs w' M' c.dom x' vs ms' ∧ (gsOf hs).Nodup ∧
    (All2 (fun a b => a.1 = b.1 ∧ ∀ g ∈ a.2, g ∈ b.2) ms' ms ∧ (gsOf ms').Nodup) ∧
    ∀ p, M' p → (M p ∨ w.heap.size ≤ p.block) ∧ p.block < w'.heap.size ∧ p.block ∉ gsOf hs ∧ p.block ∉ gsOf ms'

/-- Nothing else has changed. -/
structure Kept (w w' : World) (gs : List Nat) : Prop where
  os : w'.os = w.os
  tape : w'.tape = w.tape
  output : w'.output = w.output
  size : w.heap.size ≤ w'.heap.size
  block : ∀ k, k < w.heap.size → k ∉ gs → w'.heap[k]? = w.heap[k]?
  drawn : w.drawn ≤ w'.drawn
/-- A builder's functions: to write a text, and to read it. -/
def BlwOK (P : Program) (f : FuncId) (t e : TypeId) : Prop := Callable P f ∧ ∀ (b : Nat) (x s : ByteArray) (w : World) (gs : List Nat), BldAt w t e b x gs → x.size + s.size ≤ 140737488355328 →
  Calls P f #[.pointer (some ⟨b, 0, none⟩), .string s] w fun en w' => ∃ v gs', en = .returned v ∧ BldAt w' t e b (x ++ s) gs' ∧ (∀ g ∈ gs', g ∈ gs ∨ w.heap.size ≤ g) ∧ Kept w w' gs
def BlsOK (P : Program) (f : FuncId) (t e : TypeId) : Prop := Callable P f ∧ ∀ (b : Nat) (x : ByteArray) (w : World) (gs : List Nat), BldAt w t e b x gs →
  Calls P f #[.pointer (some ⟨b, 0, none⟩)] w fun en w' => en = .returned (.string x) ∧ BldAt w' t e b x gs ∧ Kept w w' gs
/-- The contract of a function that is handed a box with rows: the box is where it was, its rows may be new. -/
def NCon.ok (P : Program) (f : FuncId) (c : NCon) : Prop := Callable P f ∧ c.R.noBox = true ∧ ∀ (w : World) (M : Mem) (vs : List Value) (g : Nat) (cs : Array Value) (hs : List Hd) (x : c.R.den) (y : Dens c.dom) (r : c.cod.den) (x' : c.R.den), Laid w → (∀ p, M p → p.block < w.heap.size) →
  w.heap[g]? = some (.cells cs c.t (0, 0)) → RepR (fun _ => True) w M c.R x cs.toList hs → (g :: gsOf hs).Nodup → (∀ k ∈ g :: gsOf hs, globs ≤ k) → (∀ p, M p → p.block ≠ g) → RepArgs w M c.dom y vs → c.F (x, y) = some (r, x') →
  Calls P f (.pointer (some ⟨g, 0, none⟩) :: vs).toArray w fun e w' => ∃ v cs' hs', e = .returned v ∧ ValD w' M c.cod r v ∧ w'.heap[g]? = some (.cells cs' c.t (0, 0)) ∧ RepR (fun _ => True) w' M c.R x' cs'.toList hs' ∧ (g :: gsOf hs').Nodup ∧ (∀ k ∈ gsOf hs', k ∈ gsOf hs ∨ w.heap.size ≤ k) ∧ Kept w w' (g :: gsOf hs)
structure EnvOK (P : Program) (E : Env) : Prop where
  tab : ∀ t i, E.tab.lookup t = some i → TIOK P t i
  eqs : ∀ t ks, E.eqs.lookup t = some ks → StructEqOK P t ks
  cons : ∀ f c, E.cons.lookup f = some c → c.ok P f
  mcons : ∀ f c, E.mcons.lookup f = some c → c.ok P f
  mix : P.follows .mixedOrders = true
  blt : ∀ t e, E.blt.lookup t = some e → BltOK P t
  blw : ∀ f p, E.blw.lookup f = some p → BlwOK P f p.1 p.2
  bls : ∀ f p, E.bls.lookup f = some p → BlsOK P f p.1 p.2
  ncons : ∀ f c, E.ncons.lookup f = some c → c.ok P f

section
variable {P : Program} {W : WX} {M0 : Mem} {S : St} {hdr : Nat → Option Value} {inn : Nat → List Nat} {M : Mem} {a : Act} {w : World} {o : Oper} {e : Eff} {id : Nat} {E : Env}

/-- The cells of some rows. -/
def rowMem (S : St) (inn : Nat → List Nat) (rows : List Nat) : Mem := fun p =>
  ∃ b B, b ∈ rows ∧ lk S.heap b = some (some B) ∧ p.block ∈ inn b ∧ p.spot = none ∧ B.sees p.off
def plusMem (M : Mem) (S : St) (inn : Nat → List Nat) (rows : List Nat) : Mem := fun p => M p ∨ rowMem S inn rows p

/-- Rows of their own, read as data. -/
theorem RepO.toD {w : World} {M M' : Mem} (hM : ∀ p, M p → M' p) : ∀ {T : RTy} {x : T.den} {vs : List Value} {gs : List Nat}, (∀ g ∈ gs, ∀ o, M' ⟨g, o, none⟩) → RepO w M T x vs gs → RepD w M' T.data x vs
  | .d T, _, _, _, _, ⟨h1, _⟩ => RepD.keep (fun _ _ => rfl) hM h1
  | .row t e, xs, _, _, hg, ⟨v, e1, h⟩ => by
    subst e1
    rcases h with ⟨rfl, rfl, rfl⟩ | ⟨g, cap, us, rfl, rfl, k2, k3, k4, k5, k6⟩
    · exact ⟨none, 0, [], rfl, Nat.le_refl _, Nat.zero_le _, rfl, .inl rfl⟩
    · refine ⟨_, cap, _, rfl, k3, k4, k6.mono fun _ _ h => RepD.keep (fun _ _ => rfl) hM h, .inr ⟨_, rfl, fun j u hu => ?_⟩⟩
      have hj : j < @List.length e.den xs * e.size := by have := (List.getElem?_eq_some_iff.1 hu).1; simp at this; omega
      rw [add_zero_block]
      refine ⟨?_, hg g (by simp) j⟩
      rw [heap_cell k2]
      rw [List.getElem?_take_of_lt hj] at hu
      simpa using hu
  | .pair A B, x, _, _, hg, ⟨v1, v2, g1, g2, e1, e2, h1, h2⟩ => by
    subst e2
    exact ⟨v1, v2, e1, RepO.toD hM (fun g h => hg g (List.mem_append.2 (.inl h))) h1, RepO.toD hM (fun g h => hg g (List.mem_append.2 (.inr h))) h2⟩
  | .box _ _, _, _, _, _, h => h.elim
  | .deep _ _, _, _, _, _, h => h.elim
  | .mp _ _ _, _, _, _, _, h => h.elim
theorem RepOL.toD {w : World} {M M' : Mem} (hM : ∀ p, M p → M' p) {T : RTy} : ∀ {xs : List T.den} {vs : List Value} {gs : List Nat}, (∀ g ∈ gs, ∀ o, M' ⟨g, o, none⟩) → RepOL (RepO w M T) xs vs gs → RepL (RepD w M' T.data) xs vs
  | [], _, _, _, h => h.1
  | _ :: _, _, _, hg, ⟨v1, v2, g1, g2, e1, e2, h1, h2⟩ => by
    subst e2
    exact ⟨v1, v2, e1, RepO.toD hM (fun g h => hg g (List.mem_append.2 (.inl h))) h1, RepOL.toD hM (fun g h => hg g (List.mem_append.2 (.inr h))) h2⟩

theorem takeD_rep (h : Good W M0 S hdr inn M a w) {rows : List Nat} : ∀ {T : Ty} {cs r : List Cell} {x : T.den} {vs : List Value}, takeD S.heap T cs = some (x, r) → All2 (RepC w M hdr) cs vs → (∀ b ∈ rowsIn cs, b ∈ rows) →
    ∃ v1 v2, vs = v1 ++ v2 ∧ RepD w (plusMem M S inn rows) T x v1 ∧ All2 (RepC w M hdr) r v2 ∧ ∀ b ∈ rowsIn r, b ∈ rows
  | .unit, cs, r, x, vs, hk, hc, hr => by
    simp only [takeD] at hk
    cases hk
    exact ⟨[], vs, rfl, rfl, hc, hr⟩
  | .pair A B, cs, r, x, vs, hk, hc, hr => by
    simp only [takeD] at hk
    obtain ⟨y, hy, hk⟩ := Option.bind_eq_some_iff.1 hk
    obtain ⟨z, hz, hk⟩ := Option.bind_eq_some_iff.1 hk
    cases hk
    obtain ⟨v1, v2, rfl, h1, h2, h3⟩ := takeD_rep h hy hc hr
    obtain ⟨v3, v4, rfl, h4, h5, h6⟩ := takeD_rep h hz h2 h3
    exact ⟨v1 ++ v3, v4, by simp, ⟨v1, v3, rfl, h1, h4⟩, h5, h6⟩
  | .int k, cs, r, x, vs, hk, hc, hr => by
    simp only [takeD] at hk
    split at hk
    · split at hk
      · rename_i hkk
        cases hk; subst hkk
        obtain ⟨v, vs, rfl, h1, h2⟩ := hc.cons'
        exact ⟨[v], vs, rfl, by simp only [RepC] at h1; simp [RepD, h1], h2, fun b hb => hr b (by simpa [rowsIn] using hb)⟩
      · cases hk
    · cases hk
  | .bool, cs, r, x, vs, hk, hc, hr => by
    simp only [takeD] at hk
    split at hk
    · cases hk
      obtain ⟨v, vs, rfl, h1, h2⟩ := hc.cons'
      exact ⟨[v], vs, rfl, by simp only [RepC] at h1; simp [RepD, h1], h2, fun b hb => hr b (by simpa [rowsIn] using hb)⟩
    · cases hk
  | .str, cs, r, x, vs, hk, hc, hr => by
    simp only [takeD] at hk
    split at hk
    · cases hk
      obtain ⟨v, vs, rfl, h1, h2⟩ := hc.cons'
      exact ⟨[v], vs, rfl, by simp only [RepC] at h1; simp [RepD, h1], h2, fun b hb => hr b (by simpa [rowsIn] using hb)⟩
    · cases hk
  | .slice T, cs, r, x, vs, hk, hc, hr => by
    simp only [takeD] at hk
    split at hk
    · split at hk
      · rename_i he
        cases hk; subst he
        obtain ⟨v, vs, rfl, h1, h2⟩ := hc.cons'
        exact ⟨[v], vs, rfl, RepD.keep (fun _ _ => rfl) (fun _ h => .inl h) h1, h2, fun b hb => hr b (by simpa [rowsIn] using hb)⟩
      · cases hk
    · split at hk
      · rename_i he
        cases hk; subst he
        obtain ⟨v, vs, rfl, h1, h2⟩ := hc.cons'
        exact ⟨[v], vs, rfl, RepD.keep (fun _ _ => rfl) (fun _ h => .inl h) h1.1, h2, fun b hb => hr b (by simpa [rowsIn] using hb)⟩
      · cases hk
    · cases hk
      obtain ⟨v, vs, rfl, h1, h2⟩ := hc.cons'
      refine ⟨[v], vs, rfl, ?_, h2, fun b hb => hr b (by simpa [rowsIn] using hb)⟩
      simp only [RepC] at h1
      exact ⟨none, 0, [], by simp [h1], Nat.le_refl _, Nat.zero_le _, rfl, .inl rfl⟩
    · rename_i b r'
      split at hk
      · rename_i t e' xs fz hb
        split at hk
        · rename_i he
          cases hk; subst he
          obtain ⟨v, vs, rfl, h1, h2⟩ := hc.cons'
          refine ⟨[v], vs, rfl, ?_, h2, fun b hb => hr b (by simp [rowsIn, hb])⟩
          have hb' := blkAt_some hb
          obtain ⟨hh, _⟩ := h1
          obtain ⟨v0, hv0, hB⟩ := h.hp b _ hb'
          rw [hh] at hv0
          simp at hv0; subst hv0
          rcases hB with ⟨rfl, rfl, _⟩ | ⟨g, cap, us, rfl, hgs, k1, k2, k3, k4, k5, k6, k7⟩
          · exact ⟨none, 0, [], rfl, Nat.le_refl _, Nat.zero_le _, rfl, .inl rfl⟩
          · refine ⟨_, cap, _, rfl, k3, k4, k6.mono fun _ _ h => RepD.keep (fun _ _ => rfl) (fun _ h => .inl h) h, .inr ⟨_, rfl, fun j u hu => ?_⟩⟩
            have hj : j < xs.length * e'.size := by have := (List.getElem?_eq_some_iff.1 hu).1; simp at this; omega
            rw [add_zero_block]
            refine ⟨?_, .inr ⟨b, _, hr b (by simp [rowsIn]), hb', by rw [hgs]; simp, rfl, hj⟩⟩
            rw [heap_cell k2]
            rw [List.getElem?_take_of_lt hj] at hu
            simpa using hu
        · cases hk
      · rename_i t R xs fz hb
        split at hk
        · rename_i he
          cases hk; subst he
          obtain ⟨v, vs, rfl, h1, h2⟩ := hc.cons'
          refine ⟨[v], vs, rfl, ?_, h2, fun b hb => hr b (by simp [rowsIn, hb])⟩
          have hb' := blkAt_some hb
          obtain ⟨hh, _⟩ := h1
          obtain ⟨v0, hv0, hB⟩ := h.hp b _ hb'
          rw [hh] at hv0
          simp at hv0; subst hv0
          rcases hB with ⟨rfl, _, rfl, _⟩ | ⟨g, cap, us, gi, rfl, hgs, hnd, k1, k2, k3, k4, k5, k6, k7⟩
          · exact ⟨none, 0, [], rfl, Nat.le_refl _, Nat.zero_le _, rfl, .inl rfl⟩
          · have hin : ∀ g' ∈ inn b, ∀ o, plusMem M S inn rows ⟨g', o, none⟩ := fun g' hg' o => .inr ⟨b, _, hr b (by simp [rowsIn]), hb', hg', rfl, trivial⟩
            refine ⟨_, cap, _, rfl, k3, k4, RepOL.toD (fun _ h => .inl h) (fun g' hg' o => hin g' (by rw [hgs]; simp [hg']) o) k6, .inr ⟨_, rfl, fun j u hu => ?_⟩⟩
            have hj : j < @List.length R.den xs * R.data.size := by have := (List.getElem?_eq_some_iff.1 hu).1; simp at this; omega
            rw [add_zero_block]
            refine ⟨?_, hin g (by rw [hgs]; simp) j⟩
            rw [heap_cell k2]
            rw [List.getElem?_take_of_lt hj] at hu
            simpa using hu
        · cases hk
      · rename_i t e' x0 fz hb
        split at hk
        · rename_i he
          cases hk; subst he
          obtain ⟨v, vs, rfl, h1, h2⟩ := hc.cons'
          refine ⟨[v], vs, rfl, ?_, h2, fun b hb => hr b (by simp [rowsIn, hb])⟩
          have hb' := blkAt_some hb
          obtain ⟨hh, _⟩ := h1
          obtain ⟨v0, hv0, hB⟩ := h.hp b _ hb'
          rw [hh] at hv0
          simp at hv0; subst hv0
          have hin : ∀ g' ∈ inn b, ∀ o, plusMem M S inn rows ⟨g', o, none⟩ := fun g' hg' o => .inr ⟨b, _, hr b (by simp [rowsIn]), hb', hg', rfl, trivial⟩
          rcases hB.1 with ⟨h0, rfl, _⟩ | ⟨xs, g, cap, us, h0, rfl, hgs, k2, k3, k4, k5, k6⟩
          · have : OK.olist x0 = [] := by unfold OK.olist; rw [h0]; rfl
            show RepD _ _ (.slice e') (OK.olist x0) _
            rw [this]
            exact ⟨none, 0, [], rfl, Nat.le_refl _, Nat.zero_le _, rfl, .inl rfl⟩
          · have : OK.olist x0 = xs := by unfold OK.olist; rw [h0]; rfl
            show RepD _ _ (.slice e') (OK.olist x0) _
            rw [this]
            refine ⟨_, cap, _, rfl, k3, k4, k6.mono fun _ _ h => RepD.keep (fun _ _ => rfl) (fun _ h => .inl h) h, .inr ⟨_, rfl, fun j u hu => ?_⟩⟩
            have hj : j < xs.length * e'.size := by have := (List.getElem?_eq_some_iff.1 hu).1; simp at this; omega
            rw [add_zero_block]
            refine ⟨?_, hin g (by rw [hgs]; simp) j⟩
            rw [heap_cell k2]
            rw [List.getElem?_take_of_lt hj] at hu
            simpa using hu
        · cases hk
      · cases hk
    · cases hk
  | .ref T, cs, r, x, vs, hk, hc, hr => by
    simp only [takeD] at hk
    split at hk
    · split at hk
      · rename_i he
        cases hk; subst he
        obtain ⟨v, vs, rfl, ⟨ad, us, h1, h2, h3⟩, h4⟩ := hc.cons'
        exact ⟨[v], vs, rfl, ⟨ad, us, by rw [h1]; rfl, RepD.keep (fun _ _ => rfl) (fun _ h => .inl h) h2, h3.keep (fun _ _ => rfl) (fun _ h => .inl h)⟩, h4, fun b hb => hr b (by simpa [rowsIn] using hb)⟩
      · cases hk
    · rename_i b r'
      split at hk
      · rename_i t cs' fz hb
        split at hk
        · rename_i hrow
          obtain ⟨y, hy, hk⟩ := Option.bind_eq_some_iff.1 hk
          split at hk
          · rename_i hyn
            cases hk
            obtain ⟨v, vs, rfl, ⟨g, h1, h2⟩, h4⟩ := hc.cons'
            have hb' := blkAt_some hb
            obtain ⟨v0, hv0, hB⟩ := h.hp b _ hb'
            rw [h1] at hv0
            simp at hv0; subst hv0
            obtain ⟨g', us, e1, hgs, k1, k2, k3, k4⟩ := hB
            simp at e1; subst e1
            obtain ⟨v1, v2, e2, m1, m2, _⟩ := takeD_rep h (rows := rows) (x := y.1) (r := y.2) hy k3 (fun b hb => by rw [hrow] at hb; cases hb)
            rw [hyn] at m2
            cases m2.nil'
            rw [List.append_nil] at e2; subst e2
            subst h2
            refine ⟨[_], vs, rfl, ⟨_, us.toList, rfl, m1, fun j u hu => ?_⟩, h4, fun b hb => hr b (by simp [rowsIn, hb])⟩
            have hj : j < cs'.length := by have := (List.getElem?_eq_some_iff.1 hu).1; rw [k3.len]; exact this
            rw [add_zero_block]
            refine ⟨?_, .inr ⟨b, _, hr b (by simp [rowsIn]), hb', by rw [hgs]; simp, rfl, hj⟩⟩
            rw [heap_cell k2]
            simpa using hu
          · cases hk
        · cases hk
      · cases hk
    · cases hk
  | .clo f T, cs, r, x, vs, hk, hc, hr => by
    simp only [takeD] at hk
    split at hk
    · split at hk
      · rename_i he
        split at hk
        · rename_i hf
          cases hk; subst he; subst hf
          obtain ⟨v, vs, rfl, h1, h4⟩ := hc.cons'
          exact ⟨[v], vs, rfl, RepD.keep (fun _ _ => rfl) (fun _ h => .inl h) h1, h4, fun b hb => hr b (by simpa [rowsIn] using hb)⟩
        · cases hk
      · cases hk
    · rename_i f' b r'
      split at hk
      · rename_i hf
        obtain ⟨hf, hu⟩ := hf
        split at hk
        · rename_i t cs' fz hb
          split at hk
          · rename_i hrow
            obtain ⟨y, hy, hk⟩ := Option.bind_eq_some_iff.1 hk
            split at hk
            · rename_i hyn
              cases hk
              obtain ⟨v, vs, rfl, ⟨g, h1, h2⟩, h4⟩ := hc.cons'
              have hb' := blkAt_some hb
              obtain ⟨v0, hv0, hB⟩ := h.hp b _ hb'
              rw [h1] at hv0
              simp at hv0; subst hv0
              obtain ⟨g', us, e1, hgs, k1, k2, k3, k4⟩ := hB
              simp at e1; subst e1
              obtain ⟨v1, v2, e2, m1, m2, _⟩ := takeD_rep h (rows := rows) (x := y.1) (r := y.2) hy k3 (fun b hb => by rw [hrow] at hb; cases hb)
              rw [hyn] at m2
              cases m2.nil'
              rw [List.append_nil] at e2; subst e2
              subst h2; subst hf
              refine ⟨[_], vs, rfl, ⟨_, rfl, .inr ⟨hu, _, us.toList, rfl, m1, fun j u hu => ?_⟩⟩, h4, fun b hb => hr b (by simp [rowsIn, hb])⟩
              have hj : j < cs'.length := by have := (List.getElem?_eq_some_iff.1 hu).1; rw [k3.len]; exact this
              rw [add_zero_block]
              refine ⟨?_, .inr ⟨b, _, hr b (by simp [rowsIn]), hb', by rw [hgs]; simp, rfl, hj⟩⟩
              rw [heap_cell k2]
              simpa using hu
            · cases hk
          · cases hk
        · cases hk
      · cases hk
    · cases hk

theorem v1Of_of {w : World} {M : Mem} {hdr hdr' : Nat → Option Value} {T : Ty} {x : T.den} {y : V1} {v : Value} (hs : shapeOk T y = true) (hv : RepV1 w M hdr y v) (hD : RepD w M T x v.cells.toList) : RepV1 w M hdr' (v1Of T x) v := by
  have hc := hD.cells (hdr := hdr')
  cases y with
  | one c =>
    have h1 := RepC.one hv
    have hcv : v.cells = #[v] := by cases v <;> first | rfl | (simp [Value.oneCell'] at h1)
    rw [hcv] at hc
    cases T with
    | pair a b => simp [shapeOk] at hs
    | unit => simp [shapeOk] at hs
    | int k => exact hc.1
    | bool => exact hc.1
    | str => exact hc.1
    | slice e => exact hc.1
    | ref e => exact hc.1
    | clo f e => exact hc.1
  | agg cs =>
    obtain ⟨vs, rfl, hv⟩ := hv
    cases T with
    | pair a b => exact ⟨vs, rfl, by simpa [Value.cells] using hc⟩
    | unit =>
      have hc' : All2 (RepC w M hdr') (cellsOf .unit x) vs := by simpa only [Value.cells] using hc
      exact ⟨vs, rfl, hc'⟩
    | int k => simp [shapeOk] at hs
    | bool => simp [shapeOk] at hs
    | str => simp [shapeOk] at hs
    | slice e => simp [shapeOk] at hs
    | ref e => simp [shapeOk] at hs
    | clo f e => simp [shapeOk] at hs

theorem takeAll_rep (h : Good W M0 S hdr inn M a w) {rows : List Nat} {T : Ty} {cs : List Cell} {x : T.den} {vs : List Value} (hk : takeAll S.heap T cs = some x) (hc : All2 (RepC w M hdr) cs vs) (hr : ∀ b ∈ rowsIn cs, b ∈ rows) : RepD w (plusMem M S inn rows) T x vs := by
  unfold takeAll at hk
  obtain ⟨y, hy, hk⟩ := Option.bind_eq_some_iff.1 hk
  split at hk
  · rename_i hrr
    cases hk
    obtain ⟨v1, v2, rfl, h1, h2, _⟩ := takeD_rep h (x := y.1) (r := y.2) hy hc hr
    rw [hrr] at h2
    cases h2.nil'
    simpa using h1
  · cases hk
theorem takeV_rep (h : Good W M0 S hdr inn M a w) {rows : List Nat} {T : Ty} {y : V1} {x : T.den} {v : Value} (hk : takeV S.heap T y = some x) (hv : RepV1 w M hdr y v) (hr : ∀ b ∈ rowsIn y.cells, b ∈ rows) : ValD w (plusMem M S inn rows) T x v := by
  unfold takeV at hk
  split at hk
  · rename_i hs
    exact v1Of_of hs (hv.keep (fun _ _ => rfl) (fun _ h => .inl h) (fun _ _ h => h)) (takeAll_rep h hk (RepV1.cells hv) hr)
  · cases hk

theorem takeVR_rep (h : Good W M0 S hdr inn M a w) {rows : List Nat} {T : Ty} {y : V1} {x : T.den} {v : Value} (hk : takeVR S.heap T y = some x) (hv : RepV1 w M hdr y v) (hr : ∀ b ∈ rowsIn y.cells, b ∈ rows) (hr2 : ∀ b ∈ rowsIn y.cells, ∀ c ∈ nestRows S.heap b, c ∈ rows) : ValD w (plusMem M S inn rows) T x v := by
  unfold takeVR at hk
  split at hk
  · rename_i d hd
    cases hk
    exact takeV_rep h hd hv hr
  · split at hk
    · rename_i e b _ _
      cases hb : blkAt S.heap b with
      | none => rw [hb] at hk; cases hk
      | some B =>
        rw [hb] at hk
        cases B with
        | row t e xs fz => cases hk
        | deep t R xs op fz => cases hk
        | obj o x fz => cases hk
        | cells t cs fz =>
          have hk : takeAll S.heap e cs = some x := hk
          have hc2 : ∀ c ∈ rowsIn cs, c ∈ rows := fun c hc => hr2 b (by simp [V1.cells, rowsIn]) c (by unfold nestRows; rw [hb]; exact hc)
          obtain ⟨g, h1, h2⟩ := hv
          have hb' := blkAt_some hb
          obtain ⟨v0, hv0, hB⟩ := h.hp b _ hb'
          rw [h1] at hv0
          simp at hv0; subst hv0
          obtain ⟨g', us, e1, hgs, k1, k2, k3, k4⟩ := hB
          simp at e1; subst e1
          have m1 := takeAll_rep h hk k3 hc2
          subst h2
          refine v1Of_of (y := .one (.ptr b 0)) (hdr := hdr) rfl ⟨g, h1, rfl⟩ ⟨_, us.toList, rfl, m1, fun j u hu => ?_⟩
          have hj : j < cs.length := by have := (List.getElem?_eq_some_iff.1 hu).1; rw [k3.len]; exact this
          rw [add_zero_block]
          refine ⟨?_, .inr ⟨b, _, hr b (by simp [V1.cells, rowsIn]), hb', by rw [hgs]; simp, rfl, hj⟩⟩
          rw [heap_cell k2]
          simpa using hu
    · cases hk
theorem rowsIn_append (a b : List Cell) : rowsIn (a ++ b) = rowsIn a ++ rowsIn b := by
  induction a with
  | nil => rfl
  | cons c a ih => cases c <;> simp [rowsIn, ih]

theorem none_some {α : Type} {x : α} {p : Prop} (h : (none : Option α) = some x) : p := by cases h
theorem argsD_rep (h : Good W M0 S hdr inn M a w) {rows : List Nat} : ∀ {Ts : List Ty} {xs : List AV} {x : Dens Ts} {vs : List Value}, argsD S.heap Ts xs = some x → All2 (RepAV w M hdr) xs vs → (∀ b ∈ rowsIn (xs.flatMap avCells), b ∈ rows ∧ ∀ c ∈ nestRows S.heap b, c ∈ rows) →
    RepArgs w (plusMem M S inn rows) Ts x vs
  | [], [], x, vs, hk, hc, _ => hc.nil'
  | [], _ :: _, x, vs, hk, hc, _ => none_some hk
  | [T], [], x, vs, hk, hc, hr => none_some hk
  | [T], .undef :: _, x, vs, hk, hc, hr => none_some hk
  | [T], .tup _ :: _, x, vs, hk, hc, hr => none_some hk
  | [T], .v y :: _ :: _, x, vs, hk, hc, hr => none_some hk
  | [T], [.v y], x, vs, hk, hc, hr => by
    obtain ⟨v, rfl, hv⟩ := hc.one'
    exact ⟨v, rfl, takeVR_rep h hk hv (fun b hb => (hr b (by simpa [avCells] using hb)).1) fun b hb => (hr b (by simpa [avCells] using hb)).2⟩
  | T :: U :: Ts, [], x, vs, hk, hc, hr => none_some hk
  | T :: U :: Ts, .undef :: _, x, vs, hk, hc, hr => none_some hk
  | T :: U :: Ts, .tup _ :: _, x, vs, hk, hc, hr => none_some hk
  | T :: U :: Ts, .v y :: r, x, vs, hk, hc, hr => by
    have hk' : ((takeVR S.heap T y).bind fun d => (argsD S.heap (U :: Ts) r).bind fun ds => some (d, ds)) = some x := hk
    obtain ⟨v, us, rfl, hv, hu⟩ := hc.cons'
    obtain ⟨d, hd, hk'⟩ := Option.bind_eq_some_iff.1 hk'
    obtain ⟨ds, hds, hk'⟩ := Option.bind_eq_some_iff.1 hk'
    cases hk'
    refine ⟨v, us, rfl, takeVR_rep h hd hv (fun b hb => (hr b ?_).1) (fun b hb => (hr b ?_).2), argsD_rep h hds hu fun b hb => hr b ?_⟩
    · simp only [List.flatMap_cons, rowsIn_append, List.mem_append, avCells]; exact .inl hb
    · simp only [List.flatMap_cons, rowsIn_append, List.mem_append, avCells]; exact .inl hb
    · simp only [List.flatMap_cons, rowsIn_append, List.mem_append]; exact .inr hb

theorem lk_freeze (H : Heap) : ∀ (rows : List Nat) (H' : Heap) (b : Nat), lk (setAll H' (freeze H rows)) b =
    (match blkAt H b with
      | some B => if b ∈ rows then some (some (B.held 1)) else lk H' b
      | none => lk H' b)
  | [], H', b => by
    simp only [freeze, setAll, List.not_mem_nil, if_false]
    split <;> rfl
  | c :: rows, H', b => by
    unfold freeze
    split
    · rename_i B hc
      rw [setAll, lk_freeze H rows, lk_cons]
      by_cases hcb : c = b
      · subst hcb
        simp [hc]
      · have : b ≠ c := fun e => hcb e.symm
        simp [hcb, this]
    · rename_i hc
      rw [lk_freeze H rows]
      split
      · rename_i B hb
        have : b ≠ c := fun e => by subst e; rw [hc] at hb; cases hb
        simp [this]
      · rfl

theorem mayFreeze_both {H : Heap} : ∀ {rows : List Nat}, mayFreeze H rows = true → ∀ b ∈ rows, ∀ B, lk H b = some (some B) → B.fz < 2 ∧ B.shut = true
  | [], _, b, hb, _, _ => by cases hb
  | c :: rows, h, b, hb, B, hl => by
    unfold mayFreeze at h
    rw [Bool.and_eq_true] at h
    rcases List.mem_cons.1 hb with rfl | hb
    · have hbl : blkAt H b = some B := by unfold blkAt; rw [hl]; rfl
      rw [hbl] at h
      have := h.1
      rw [Bool.and_eq_true] at this
      exact ⟨of_decide_eq_true this.1, this.2⟩
    · exact mayFreeze_both h.2 b hb B hl
theorem mayFreeze_spec {H : Heap} {rows : List Nat} (h : mayFreeze H rows = true) : ∀ b ∈ rows, ∀ B, lk H b = some (some B) → B.fz < 2 := fun b hb B hl => (mayFreeze_both h b hb B hl).1
/-- A block of data in a box, without what its own blocks are called. -/
theorem RepBlk.boxNone {w : World} {M : Mem} {hdr hdr' : Nat → Option Value} {base : Nat → Nat → Prop} {t : TypeId} {T : Ty} {x : T.den} {fz : Nat} {v : Value} {gs : List Nat} (h : RepBlk w M hdr base (.cells t (cellsOf T x) fz) v gs) : RepBlk w M hdr' base (.cells t (cellsOf T x) fz) v gs := by
  obtain ⟨g, vs, e, e', h1, h2, h3, h4⟩ := h
  exact ⟨g, vs, e, e', h1, h2, (RepD.ofCells h3).cells, h4⟩
theorem Good.plus_ml (h : Good W M0 S hdr inn M a w) (rows : List Nat) : ∀ p, plusMem M S inn rows p → p.block < w.heap.size := by
  rintro p (hp | ⟨b, B, hm, hl, hp, _⟩)
  · exact h.ml p hp
  · obtain ⟨v', hv, hr⟩ := h.hp b _ hl
    exact (hr.lt hp).1
theorem Blk.held_fz (B : Blk) (fz : Nat) : (B.held fz).fz = fz := by cases B <;> rfl
theorem Blk.held_sees (B : Blk) (fz o : Nat) : (B.held fz).sees o = B.sees o := by cases B <;> rfl
/-- The same block, held in another way and looked at more. -/
theorem RepBlk.see {M' : Mem} {base base' : Nat → Nat → Prop} {B : Blk} {v : Value} {fz : Nat} {gs : List Nat} (h : RepBlk w M hdr base B v gs) (hM : ∀ p, M p → M' p) (hb : ∀ g ∈ gs, base B.fz g → base' fz g) (hs : ∀ p, M' p → p.block ∈ gs → fz = 1 ∧ B.sees p.off) : RepBlk w M' hdr base' (B.held fz) v gs := by
  cases B with
  | cells t cs fz0 =>
    obtain ⟨g, vs, rfl, rfl, h1, h2, h3, h4⟩ := h
    exact ⟨g, vs, rfl, rfl, hb g (by simp) h1, h2, h3.mono fun _ _ h => h.keep (fun _ _ => rfl) hM (fun _ _ h => h), fun p hp e => hs p hp (by rw [e]; simp)⟩
  | row t T xs fz0 =>
    rcases h with h | ⟨g, cap, vs, rfl, rfl, h1, h2, h3, h4, h5, h6, h7⟩
    · exact .inl h
    · exact .inr ⟨g, cap, vs, rfl, rfl, hb g (by simp) h1, h2, h3, h4, h5, h6.mono fun _ _ h => RepD.keep (fun _ _ => rfl) hM h, fun p hp e => hs p hp (by rw [e]; simp)⟩
  | deep t T xs op fz0 =>
    rcases h with h | ⟨g, cap, vs, gi, rfl, rfl, hn, h1, h2, h3, h4, h5, h6, h7⟩
    · exact .inl h
    · exact .inr ⟨g, cap, vs, gi, rfl, rfl, hn, fun g' hg' => hb g' hg' (h1 g' hg'), h2, h3, h4, h5, h6.keep (fun _ _ => rfl) hM (fun _ _ h => h) (fun _ _ => rfl), fun p hp hm => (hs p hp hm).1⟩
  | obj o x fz0 => exact ⟨h.1.keep (fun _ _ => rfl) hM fun _ _ => rfl, fun g hg => hb g hg (h.2.1 g hg), fun p hp hm => (hs p hp hm).1⟩
theorem Blk.held_self (B : Blk) : B.held B.fz = B := by cases B <;> rfl

/-- Rows that are looked at from outside stay as they are from now on. -/
theorem Good.freeze (h : Good W M0 S hdr inn M a w) (rows : List Nat) (hmf : mayFreeze S.heap rows = true) : Good W M0 ⟨S.tmps, setAll S.heap (freeze S.heap rows)⟩ hdr inn (plusMem M S inn rows) a w := by
  have hM : ∀ p, M p → plusMem M S inn rows p := fun _ h => .inl h
  -- a block behind the freezing was a block before
  have back : ∀ b B, lk (setAll S.heap (Rx.freeze S.heap rows)) b = some (some B) → ∃ B0, lk S.heap b = some (some B0) ∧ ((b ∉ rows ∧ B = B0) ∨ (b ∈ rows ∧ B = B0.held 1)) := by
    intro b B hb
    rw [lk_freeze] at hb
    split at hb
    · rename_i B0 hbl
      split at hb
      · rename_i hm
        cases hb
        exact ⟨_, blkAt_some hbl, .inr ⟨hm, rfl⟩⟩
      · rename_i hm
        exact ⟨B, hb, .inl ⟨hm, rfl⟩⟩
    · rename_i hbl
      have : blkAt S.heap b = some B := by unfold blkAt; rw [hb]; rfl
      rw [hbl] at this; cases this
  have hrow : ∀ p, rowMem S inn rows p → ∀ b B, lk S.heap b = some (some B) → p.block ∈ inn b → b ∈ rows ∧ B.sees p.off := by
    rintro p ⟨b', B', hm, hl, hp, _, hoff⟩ b B hb ho
    by_cases e : b = b'
    · subst e
      rw [hl] at hb; cases hb
      exact ⟨hm, hoff⟩
    · exact absurd hp (h.sep b b' B _ p.block e hb hl ho)
  refine ⟨h.ext, h.nod, h.len, fun t => (h.tm t).keep (fun _ _ => rfl) hM (fun _ _ h => h), ?_, ?_, ?_, h.plus_ml rows, ?_, ?_⟩
  · intro b B hb
    obtain ⟨B0, hb0, hB⟩ := back b B hb
    obtain ⟨v, hv, hr⟩ := h.hp b B0 hb0
    refine ⟨v, hv, ?_⟩
    have hmem : ∀ p, plusMem M S inn rows p → p.block ∈ inn b → M p ∨ (b ∈ rows ∧ B0.sees p.off) := fun p hp ho => hp.imp id fun hp => hrow p hp b B0 hb0 ho
    rcases hB with ⟨hn, rfl⟩ | ⟨hmr, rfl⟩
    · have := hr.see (fz := B.fz) hM (fun _ _ h => h) fun p hp ho => by
        rcases hmem p hp ho with hp | ⟨hm, _⟩
        · exact hr.seen p hp ho
        · exact absurd hm hn
      rwa [Blk.held_self] at this
    · refine hr.see hM (fun g hg hbs => .own (hbs.1 (mayFreeze_spec hmf b hmr _ hb0)) (by decide)) fun p hp ho => ?_
      rcases hmem p hp ho with hp | ⟨_, hoff⟩
      · exact ⟨rfl, (hr.seen p hp ho).2⟩
      · exact ⟨rfl, hoff⟩
  · intro b hb
    rw [lk_freeze] at hb
    split at hb
    · split at hb
      · cases hb
      · exact h.un b hb
    · exact h.un b hb
  · intro b b' B B' g hbb hb hb' hg
    obtain ⟨B0, hb0, _⟩ := back b B hb
    obtain ⟨B1, hb1, _⟩ := back b' B' hb'
    exact h.sep b b' B0 B1 g hbb hb0 hb1 hg
  · rintro p (hp | ⟨b, B, hm, hl, hp, _⟩)
    · exact h.mo p hp
    · obtain ⟨v', hv, hr⟩ := h.hp b _ hl
      exact .inr ((hr.lt hp).2.1 (mayFreeze_spec hmf b hm _ hl))
  · intro b B hb hf hf2
    obtain ⟨B0, hb0, hB⟩ := back b B hb
    rcases hB with ⟨_, rfl⟩ | ⟨_, rfl⟩
    · exact h.ag b B hb0 hf hf2
    · rw [Blk.held_fz] at hf; exact absurd hf (by decide)
end
end Rx
end Go.Proofs.YthfgpnpoocepeaaGreat
