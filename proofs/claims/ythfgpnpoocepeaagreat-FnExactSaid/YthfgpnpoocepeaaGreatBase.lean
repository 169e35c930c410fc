/- Generic ground for the laws of this seat: an argument read by its shape, and the row of a law from its contract 'it returns true and leaves old memory alone'. No conditions. -/
import Derived.Test.YthfgpnpoocepeaaGreatRows
import Derived.ProofKit
import Derived.Deep.Slices
import Derived.Deep.Draws
import Derived.Handy
import Derived.BigQuiet
import Derived.Lib.Hide
namespace Go.Proofs.YthfgpnpoocepeaaGreat
open Go.ChangeShapes Go.WideShapes Go.ChangeAt Go.RowKit

/-- The kind of one cell. -/
inductive CK where
  | int (k : IntKind)
  | bool
  | str
  | sl (e : List CK)

def joinF (g : TypeId → Option (List CK)) (c : TypeId → Nat) : Nat → List Field → Option (List CK)
  | _, [] => some []
  | off, f :: fs =>
    match g f.type with
    | some l => if f.offset = off ∧ c f.type = l.length then (joinF g c (off + l.length) fs).map (l ++ ·) else none
    | none => none

def flat (P : Program) : Nat → TypeId → Option (List CK)
  | 0, _ => none
  | d + 1, t =>
    match P.underlying t with
    | some (.int k) => some [.int k]
    | some .bool => some [.bool]
    | some .string => some [.str]
    | some (.slice e) =>
      match flat P d e with
      | some l => if P.cellsOf e = l.length then some [.sl l] else none
      | none => none
    | some (.struct fs) =>
      match joinF (flat P d) P.cellsOf 0 fs.toList with
      | some l => if P.cellsOf t = l.length then some l else none
      | none => none
    | _ => none

/-- What is known of the value of one cell. -/
def One (w : World) : Nat → CK → Value → Prop
  | _, .int k, v => ∃ n, v = .int k n ∧ (Lit.int k n).wf = true
  | _, .bool, v => ∃ b, v = .bool b
  | _, .str, v => ∃ s : ByteArray, v = .string s ∧ s.size ≤ maxLen
  | 0, .sl _, _ => False
  | d + 1, .sl e, v => ∃ A n c, v = .slice A n c ∧ n ≤ c ∧ c ≤ maxLen ∧ (A = none → n = 0 ∧ c = 0) ∧
      ∀ ad, A = some ad → ∀ i, i < n → ∃ cs : List Value, cs.length = e.length ∧ (∀ (j : Nat) u, cs[j]? = some u → w.cell? (ad.add (i * e.length + j)) = some u) ∧
        ∀ (j : Nat) ck u, e[j]? = some ck → cs[j]? = some u → One w d ck u

def Has (w : World) (d : Nat) (l : List CK) (cs : List Value) : Prop :=
  cs.length = l.length ∧ ∀ (j : Nat) ck u, l[j]? = some ck → cs[j]? = some u → One w d ck u

theorem One_int {w : World} {d : Nat} {k : IntKind} {v : Value} : One w d (.int k) v ↔ ∃ n, v = .int k n ∧ (Lit.int k n).wf = true := by cases d <;> simp only [One]
theorem One_bool {w : World} {d : Nat} {v : Value} : One w d .bool v ↔ ∃ b, v = .bool b := by cases d <;> simp only [One]
theorem One_str {w : World} {d : Nat} {v : Value} : One w d .str v ↔ ∃ s : ByteArray, v = .string s ∧ s.size ≤ maxLen := by cases d <;> simp only [One]
theorem One_sl {w : World} {d : Nat} {e : List CK} {v : Value} : One w (d + 1) (.sl e) v ↔ ∃ A n c, v = .slice A n c ∧ n ≤ c ∧ c ≤ maxLen ∧ (A = none → n = 0 ∧ c = 0) ∧
      ∀ ad, A = some ad → ∀ i, i < n → ∃ cs : List Value, cs.length = e.length ∧ (∀ (j : Nat) u, cs[j]? = some u → w.cell? (ad.add (i * e.length + j)) = some u) ∧
        ∀ (j : Nat) ck u, e[j]? = some ck → cs[j]? = some u → One w d ck u := by simp only [One]

theorem Has.single {w : World} {d : Nat} {ck : CK} {v : Value} (h : One w d ck v) : Has w d [ck] [v] := by
  refine ⟨rfl, fun j ck' u h1 h2 => ?_⟩
  match j, h1, h2 with
  | 0, h1, h2 => simp at h1 h2; subst h1; subst h2; exact h

theorem One.succ {w : World} : ∀ {d : Nat} {ck : CK} {v : Value}, One w d ck v → One w (d + 1) ck v := by
  intro d
  induction d with
  | zero =>
    intro ck v h
    cases ck with
    | int k => exact One_int.2 (One_int.1 h)
    | bool => exact One_bool.2 (One_bool.1 h)
    | str => exact One_str.2 (One_str.1 h)
    | sl e => exact h.elim
  | succ d ih =>
    intro ck v h
    cases ck with
    | int k => exact One_int.2 (One_int.1 h)
    | bool => exact One_bool.2 (One_bool.1 h)
    | str => exact One_str.2 (One_str.1 h)
    | sl e =>
      obtain ⟨A, n, c, h1, h2, h3, h4, h5⟩ := One_sl.1 h
      refine One_sl.2 ⟨A, n, c, h1, h2, h3, h4, fun ad ha i hi => ?_⟩
      obtain ⟨cs, k1, k2, k3⟩ := h5 ad ha i hi
      exact ⟨cs, k1, k2, fun j ck u x y => ih (k3 j ck u x y)⟩

section
variable {H : Type} {enc : TypeId × Value → H} {P : Program} {w : World} {spare : Nat → Bool} {held : Bool}

theorem joinF_has {d : Nat} {n : Nat} (ih : ∀ t l, flat P d t = some l → ∀ fuel cs x, DataW.trod enc P w 0 spare held fuel t cs = some x → Has w d l cs) (cs : List Value) :
    ∀ (fs : List Field) (off : Nat) (l : List CK) (xs : List (DataW H × List MemPlace)), joinF (flat P d) P.cellsOf off fs = some l → xs.length = fs.length → off + l.length ≤ cs.length →
      (∀ (i : Nat) (f : Field), fs[i]? = some f → DataW.trod enc P w 0 spare held n f.type ((cs.drop f.offset).take (P.cellsOf f.type)) = xs[i]?) → Has w d l ((cs.drop off).take l.length)
  | [], off, l, xs, h, _, _, _ => by
    simp [joinF] at h; subst h
    exact ⟨by simp, fun j ck u h => by simp at h⟩
  | f :: fs, off, l, xs, h, hx, hl, ht => by
    unfold joinF at h
    cases hg : flat P d f.type with
    | none => simp [hg] at h
    | some lf =>
      rw [hg] at h
      dsimp only at h
      split at h
      · rename_i hc
        obtain ⟨hoff, hcell⟩ := hc
        cases hr : joinF (flat P d) P.cellsOf (off + lf.length) fs with
        | none => simp [hr] at h
        | some lr =>
          simp [hr] at h
          subst h
          match xs, hx with
          | x :: xs, hx =>
            have h0 := ht 0 f rfl
            rw [hoff, hcell] at h0
            have hh := ih _ _ hg _ _ _ h0
            simp only [List.length_append] at hl
            have hrest := joinF_has ih cs fs (off + lf.length) lr xs hr (by simpa using hx) (by omega) (fun i f' hf => ht (i + 1) f' (by simpa using hf))
            refine ⟨by simp; omega, fun j ck u h1 h2 => ?_⟩
            by_cases hj : j < lf.length
            · rw [List.getElem?_append_left hj] at h1
              refine hh.2 j ck u h1 ?_
              rw [List.getElem?_take_of_lt (by simp; omega)] at h2
              rw [List.getElem?_take_of_lt hj]
              exact h2
            · have hj2 : j < lf.length + lr.length := by
                have := (List.getElem?_eq_some_iff.1 h1).1
                simpa using this
              rw [List.getElem?_append_right (by omega)] at h1
              refine hrest.2 (j - lf.length) ck u h1 ?_
              rw [List.getElem?_take_of_lt (by simp; omega), List.getElem?_drop] at h2
              rw [List.getElem?_take_of_lt (by omega), List.getElem?_drop]
              rw [← h2]
              congr 1
              omega
      · cases h

theorem flat_has : ∀ (d : Nat) (t : TypeId) (l : List CK), flat P d t = some l → ∀ fuel cs x, DataW.trod enc P w 0 spare held fuel t cs = some x → Has w d l cs := by
  intro d
  induction d with
  | zero => intro t l h; simp [flat] at h
  | succ d ih =>
    intro t l h fuel cs x hx
    unfold flat at h
    split at h
    · rename_i k hu
      simp at h; subst h
      obtain ⟨n, rfl, _, hw⟩ := DataW.trod_int hu hx
      exact .single (One_int.2 ⟨n, rfl, hw⟩)
    · rename_i hu
      simp at h; subst h
      obtain ⟨b, rfl, _⟩ := DataW.trod_bool hu hx
      exact .single (One_bool.2 ⟨b, rfl⟩)
    · rename_i hu
      simp at h; subst h
      obtain ⟨s, rfl, _, hs⟩ := DataW.trod_string hu hx
      exact .single (One_str.2 ⟨s, rfl, hs⟩)
    · rename_i e hu
      cases hf : flat P d e with
      | none => simp [hf] at h
      | some le =>
        rw [hf] at h
        dsimp only at h
        split at h
        · rename_i hc
          simp at h; subst h
          rcases DataW.trod_slice hu hx with ⟨rfl, _⟩ | ⟨a, len, cap, elems, rest, n, _, rfl, _, _, hl, hm, hlen, hel, _, _⟩
          · exact .single (One_sl.2 ⟨none, 0, 0, rfl, Nat.le_refl _, Nat.zero_le _, fun _ => ⟨rfl, rfl⟩, fun ad h => by cases h⟩)
          · refine .single (One_sl.2 ⟨some a, len, cap, rfl, hl, hm, fun h => (by cases h), fun ad had i hi => ?_⟩)
            cases had
            have hi' := hel i hi
            rw [List.getElem?_eq_getElem (by omega)] at hi'
            obtain ⟨cs', h1, h2⟩ := Option.bind_eq_some_iff.1 hi'
            obtain ⟨_, hlen', hat⟩ := World.cells?_some h1
            have hh := ih e le hf _ _ _ h2
            refine ⟨cs', hh.1, fun j u hu' => ?_, hh.2⟩
            have hj := (List.getElem?_eq_some_iff.1 hu').1
            have := hat j (by omega)
            rw [Go.Deep.add_add, hc] at this
            rw [this, hu']
        · cases h
    · rename_i fs hu
      cases hf : joinF (flat P d) P.cellsOf 0 fs.toList with
      | none => simp [hf] at h
      | some l' =>
        rw [hf] at h
        dsimp only at h
        split at h
        · rename_i hc
          simp at h; subst h
          obtain ⟨xs, n, _, _, hlen, hxl, hat⟩ := DataW.trod_struct hu hx
          have := joinF_has ih cs fs.toList 0 l' xs hf (by simpa using hxl) (by omega) (fun i f hf' => hat i f (by simpa using hf'))
          rw [List.drop_zero, List.take_of_length_le (by omega)] at this
          exact ⟨this.1, fun j ck u a b => One.succ (this.2 j ck u a b)⟩
        · cases h
    · cases h

/-! ### The row of a law -/

theorem trodAll_below (hl : laidOutB P = true) {W W' : World} (hb : Below W.heap.size W W') : ∀ {ts : List TypeId} {vs : List Value} {ds : List (DataW H)} {p : List MemPlace}, (∀ t ∈ ts, P.readableRec t = true ∧ t < P.types.size) →
    DataW.TrodAll enc P W 0 (fun _ => true) true ts vs ds p → (∀ x ∈ p, x.block < W.heap.size) → DataW.TrodAll enc P W' 0 (fun b => decide (b < W.heap.size)) true ts vs ds p
  | [], vs, ds, p, _, h, _ => by
    obtain ⟨rfl, rfl, rfl⟩ := trodAll_nil h
    rfl
  | t :: ts, vs, ds, p, ht, h, hp => by
    obtain ⟨v, vs', d, ds', p1, p2, rfl, rfl, rfl, h1, h2⟩ := trodAll_cons h
    obtain ⟨r1, r2⟩ := ht t (by simp)
    exact ⟨p1, p2, Below.trod hl r1 r2 h1 hb (fun x hx => hp x (by simp [hx])), trodAll_below hl hb (fun t' h' => ht t' (by simp [h'])) h2 (fun x hx => hp x (by simp [hx])), rfl⟩

/-- What is known of an argument. -/
def ArgIs (P : Program) (w : World) (t : TypeId) (v : Value) : Prop :=
  (∀ d l, flat P d t = some l → Has w d l v.cells.toList) ∧ (∀ fs, P.underlying t = some (.struct fs) → ∃ cs, v = .agg cs) ∧ ((∃ k, P.underlying t = some (.int k)) ∨ P.underlying t = some .bool ∨ P.underlying t = some .string ∨ (∃ e, P.underlying t = some (.slice e)) → v.cells = #[v])

theorem trodAll_get {w : World} : ∀ {ts : List TypeId} {vs : List Value} {ds : List (DataW H)} {p : List MemPlace}, DataW.TrodAll enc P w 0 spare held ts vs ds p →
    vs.length = ts.length ∧ ds.length = ts.length ∧ ∀ (j : Nat) t v, ts[j]? = some t → vs[j]? = some v → ∃ d q, DataW.Trod enc P w 0 spare held t v d q
  | [], vs, ds, p, h => by
    obtain ⟨rfl, rfl, rfl⟩ := trodAll_nil h
    exact ⟨rfl, rfl, fun j t v h => by simp at h⟩
  | t :: ts, vs, ds, p, h => by
    obtain ⟨v, vs', d, ds', p1, p2, rfl, rfl, rfl, h1, h2⟩ := trodAll_cons h
    obtain ⟨e1, e2, e3⟩ := trodAll_get h2
    refine ⟨by simp [e1], by simp [e2], fun j t' v' ht hv => ?_⟩
    cases j with
    | zero => simp at ht hv; subst ht; subst hv; exact ⟨_, _, h1⟩
    | succ j => exact e3 j t' v' (by simpa using ht) (by simpa using hv)
end

/-- A law's row out of its contract: any number of arguments. -/
theorem law_handed {C : Checked} {os : Os} {H : Type} {enc : TypeId × Value → H} {f : FuncId} {fn : Func} {s : ChangeSpec} {fresh handsOn : Bool} {tb : TypeId}
    (own : ownKnob C.prog.godebug = none) (started : os.Started) (noInit : C.prog.inits.idxOf? f = none) (hfn : C.prog.funcs[f]? = some fn)
    (hl : laidOutB C.prog = true) (hts : ∀ t ∈ fn.params.toList, C.prog.readableRec t = true ∧ t < C.prog.types.size) (hvars : s.vars = [])
    (hspec : ∀ ds : List (DataW H), ds.length = fn.params.toList.length → s.fn H (ds ++ []) = { results := [.lit (.bool true)], args := ds })
    (hres : fn.resultTypes = #[tb]) (hbool : C.prog.underlying tb = some .bool)
    (witness : ∃ (w : World) (tape : Tape) (i : Input), w.os = os ∧ (w.forCall tape i).Shaped C.prog ∧ i.vars = [] ∧ Input.okWide C.prog (w.forCall tape i) .any w.heap.size f i ∧
      s.pre6 enc C.prog fn [] false (w.forCall tape i).memory i.args ∧ Assume.holds {} C.prog (lone (Frame.enter C.prog f i.args .normal) [] (w.forCall tape i)))
    (core : ∀ (W : World) (args : Array Value), args.size = fn.params.size → (∀ (j : Nat) t v, fn.params[j]? = some t → args[j]? = some v → ArgIs C.prog W t v) →
      Calls C.prog f args W fun e W' => e = .returned (.bool true) ∧ Below W.heap.size W W') :
    ReturnsInHanded {} C os f .any (s.pre6 enc C.prog fn [] false) (s.post enc C.prog fn false fresh handsOn false) := by
  refine returnsInHanded_of_change own started noInit hfn witness ?_
  intro W base args ds gs before hval hW _ _
  have hW' := hW
  obtain ⟨p, q, hA, hV, rfl, hfz, hnd⟩ := hW
  rw [hvars] at hV
  obtain ⟨rfl, rfl⟩ := trodVars_none hV
  obtain ⟨e1, e2, e3⟩ := trodAll_get hA
  have hlt : ∀ x ∈ p, x.block < W.heap.size := fun x hx => by simpa using hW'.lt x (by simpa using hx)
  refine (core W args (by simpa using e1) (fun j t v hj hv => ?_)).mono fun e W' ⟨he, hb⟩ => ?_
  · obtain ⟨d, q, fuel, hf⟩ := e3 j t v (by simpa using hj) (by simpa using hv)
    exact ⟨fun d l hl => flat_has d t l hl _ _ _ hf, fun fs hs => by
      obtain ⟨cs, h1, _⟩ := okWide_struct hs (hval j t v hj hv)
      exact ⟨cs, h1⟩, fun hs => by
      rcases hs with ⟨k, hs⟩ | hs | hs | ⟨k, hs⟩
      · obtain ⟨n, rfl⟩ := okWide_int hs (hval j t v hj hv)
        rfl
      · obtain ⟨n, rfl⟩ := okWide_bool hs (hval j t v hj hv)
        rfl
      · obtain ⟨n, rfl⟩ := okWide_string hs (hval j t v hj hv)
        rfl
      · obtain ⟨a, n, c, rfl⟩ := okWide_slice hs (hval j t v hj hv)
        rfl⟩
  · subst he
    refine ⟨_, rfl, ds, [], p ++ [], [], p, [], hW', ?_, ?_, ?_, hb.frame _, fun h => by cases h⟩
    · rw [hspec ds e2, hres]
      exact trodAll_mk1 (shut_bool hbool true)
    · rw [hspec ds e2]
      exact trodAll_below hl hb hts hA hlt
    · rw [hspec ds e2, hvars]
      rfl

/-! ### Old memory is left alone -/
/-- w' is w with new blocks: what was there is there as it was. -/
structure Ext (w w' : World) : Prop extends Below w.heap.size w w' where
  drawn : w.drawn ≤ w'.drawn
theorem Ext.refl (w : World) : Ext w w := ⟨Below.refl _ _, Nat.le_refl _⟩
theorem Ext.below {w w' : World} (h : Ext w w') : Below w.heap.size w w' := h.toBelow
theorem Ext.trans {a b c : World} (h : Ext a b) (k : Ext b c) : Ext a c := ⟨Below.trans h.below (Below.mono k.below h.size), Nat.le_trans h.drawn k.drawn⟩
theorem Ext.alloc {a b : World} (h : Ext a b) (o : Obj) : Ext a (b.alloc o) := ⟨Below.alloc h.below h.size o, h.drawn⟩
theorem Ext.setCell {a b : World} (h : Ext a b) {p : Addr} (hp : a.heap.size ≤ p.block) (u : Value) : Ext a (b.setCell p u) := ⟨Below.setCell h.below hp u, by
  have := h.drawn
  unfold World.setCell
  split <;> exact this⟩
theorem Ext.drew {a b : World} (h : Ext a b) : Ext a b.drew := ⟨Below.drew h.below, Nat.le_succ_of_le h.drawn⟩
theorem Ext.drewN {a b : World} (h : Ext a b) (n : Nat) : Ext a (b.drewN n) :=
  ⟨⟨h.os, h.tape, h.output, h.size, h.block⟩, Nat.le_trans h.drawn (Nat.le_add_right _ _)⟩
theorem Ext.grown {a b c : World} (h : Ext a b) {row : Option Nat} (hg : b.grownBy c row) (hd : b.drawn ≤ c.drawn) (hr : ∀ k, row = some k → a.heap.size ≤ k) : Ext a c := ⟨Below.grown h.below hg h.size hr, Nat.le_trans h.drawn hd⟩
theorem Ext.cell {w w' : World} (h : Ext w w') {p : Addr} (hp : p.block < w.heap.size) : w'.cell? p = w.cell? p := Below.cell h.below hp
/-- For the walk: two rules. -/
theorem Ext.cells {w w' : World} (h : Ext w w') : (∀ b o, b < w.heap.size → w'.cell? ⟨b, o, none⟩ = w.cell? ⟨b, o, none⟩) ∧ (∀ b o, b < w.heap.size → w'.frozen? ⟨b, o, none⟩ = w.frozen? ⟨b, o, none⟩) :=
  ⟨fun b o hb => Below.cell h.below (p := ⟨b, o, none⟩) hb, fun b o hb => Below.frozen h.below (p := ⟨b, o, none⟩) hb⟩
theorem Ext.keep {w w' : World} (h : Ext w w') {p : Addr} {v : Value} (hv : w.cell? p = some v) : w'.cell? p = some v := by
  rw [h.cell (World.block_lt_of_cell? _ _ hv)]; exact hv

/-- The worlds that extend W. -/
def ExtOf (W : World) := { w : World // Ext W w }
def ExtOf.w {W : World} (x : ExtOf W) : World := x.1
instance (W : World) : Nonempty (ExtOf W) := ⟨⟨W, Ext.refl W⟩⟩
theorem ExtOf.mk {W w : World} (h : Ext W w) : ∃ x : ExtOf W, w = x.w := ⟨⟨w, h⟩, rfl⟩
theorem ExtOf.ext {W : World} (x : ExtOf W) : Ext W x.w := x.2
theorem ExtOf.mk' {W w : World} {x : ExtOf W} (h : Ext x.w w) : ∃ y : ExtOf W, w = y.w := ⟨⟨w, x.2.trans h⟩, rfl⟩
section
variable {W : World} (x : ExtOf W)
@[simp, go_sem] theorem ExtOf.cell {b o : Nat} (h : b < W.heap.size) : x.w.cell? ⟨b, o, none⟩ = W.cell? ⟨b, o, none⟩ := Below.cell x.2.below (p := ⟨b, o, none⟩) h
@[simp, go_sem] theorem ExtOf.frozen {b o : Nat} (h : b < W.heap.size) : x.w.frozen? ⟨b, o, none⟩ = W.frozen? ⟨b, o, none⟩ := Below.frozen x.2.below (p := ⟨b, o, none⟩) h
theorem ExtOf.size_le : W.heap.size ≤ x.w.heap.size := x.2.size
@[simp, go_sem] theorem ExtOf.lt {b : Nat} (h : b < W.heap.size) : b < x.w.heap.size := Nat.lt_of_lt_of_le h x.size_le
@[simp, go_sem] theorem ExtOf.lt_add {b k : Nat} (h : b < W.heap.size) : b < x.w.heap.size + k := Nat.lt_of_lt_of_le (x.lt h) (Nat.le_add_right _ _)
@[simp, go_sem] theorem ExtOf.le {b : Nat} (h : b < W.heap.size) : b ≤ x.w.heap.size := Nat.le_of_lt (x.lt h)
@[simp, go_sem] theorem ExtOf.ne {b : Nat} (h : b < W.heap.size) : (b = x.w.heap.size) = False := eq_false (Nat.ne_of_lt (x.lt h))
@[simp, go_sem] theorem ExtOf.ne' {b : Nat} (h : b < W.heap.size) : (x.w.heap.size = b) = False := eq_false (Nat.ne_of_gt (x.lt h))
@[simp, go_sem] theorem cell_set_isSome {w : World} {p : Addr} {v : Value} (h : (w.cell? p).isSome = true) : (w.setCell p v).cell? p = some v := by
  obtain ⟨u, hu⟩ := Option.isSome_iff_exists.1 h
  exact World.cell?_setCell_same w p v hu
theorem Ext.val {a : World} (h : Ext a W) : Ext a x.w := h.trans x.2
end

/-- A region that draws its order, whose own operations only read and whose callees leave old memory alone: one walk in the order of the text. -/
theorem wp_region_ext {P : Program} {id : Nat} {Q : Exit → Act → World → Prop} {a : Act} {w : World} {l : List Oper} (hm : P.follows .mixedOrders = true) (hB : Region.lexB .any l.toArray = true)
    (h : wpQuiet P l.toArray (fun w' => ∃ x : ExtOf w, w' = x.w) (fun a' => ∀ w', (∃ x : ExtOf w, w' = x.w) → Q .normal a' w') l a) : (Code.region id l.toArray true).wp P Q a w :=
  wp_region_quiet (C := fun w' => ∃ x : ExtOf w, w' = x.w) hm hB (ExtOf.mk (Ext.refl w).drew) (by simpa using h)

theorem wp_region_ext' {P : Program} {id : Nat} {Q : Exit → Act → World → Prop} {a : Act} {w : World} {y : ExtOf w} {l : List Oper} (hm : P.follows .mixedOrders = true) (hB : Region.lexB .any l.toArray = true)
    (h : wpQuiet P l.toArray (fun w' => ∃ x : ExtOf w, w' = x.w) (fun a' => ∀ w', (∃ x : ExtOf w, w' = x.w) → Q .normal a' w') l a) : (Code.region id l.toArray true).wp P Q a y.w :=
  wp_region_quiet (C := fun w' => ∃ x : ExtOf w, w' = x.w) hm hB (ExtOf.mk y.ext.drew) (by simpa using h)

theorem Calls.ext_of {P : Program} {f : FuncId} {args : Array Value} {W : World} {x : ExtOf W} {v : Value}
    (h : Calls P f args x.w fun e w' => e = .returned v ∧ Ext x.w w') : Calls P f args x.w fun e w'' => e = .returned v ∧ ∃ y : ExtOf W, w'' = y.w :=
  h.mono fun _ _ ⟨he, hm⟩ => ⟨he, ExtOf.mk (x.ext.trans hm)⟩
theorem Calls.ext_of_same {P : Program} {f : FuncId} {args : Array Value} {W : World} {x : ExtOf W} {v : Value}
    (h : Calls P f args x.w fun e w' => e = .returned v ∧ x.w = w') : Calls P f args x.w fun e w'' => e = .returned v ∧ ∃ y : ExtOf W, w'' = y.w :=
  h.mono fun _ _ ⟨he, hm⟩ => ⟨he, x, hm.symm⟩

theorem ret_bool {a b : Bool} (h : a = b) : Ending.returned (.bool a) = .returned (.bool b) := by rw [h]
theorem ret_int {k : IntKind} {a b : Int} (h : a = b) : Ending.returned (.int k a) = .returned (.int k b) := by rw [h]

/-! ### Arguments taken apart -/
theorem arr1 {a : Array Value} (h : a.size = 1) : ∃ v0, a = #[v0] := by
  obtain ⟨l⟩ := a
  match l, h with
  | [v0], _ => exact ⟨v0, rfl⟩
theorem arr2 {a : Array Value} (h : a.size = 2) : ∃ v0 v1, a = #[v0, v1] := by
  obtain ⟨l⟩ := a
  match l, h with
  | [v0, v1], _ => exact ⟨v0, v1, rfl⟩
theorem arr3 {a : Array Value} (h : a.size = 3) : ∃ v0 v1 v2, a = #[v0, v1, v2] := by
  obtain ⟨l⟩ := a
  match l, h with
  | [v0, v1, v2], _ => exact ⟨v0, v1, v2, rfl⟩
theorem arr4 {a : Array Value} (h : a.size = 4) : ∃ v0 v1 v2 v3, a = #[v0, v1, v2, v3] := by
  obtain ⟨l⟩ := a
  match l, h with
  | [v0, v1, v2, v3], _ => exact ⟨v0, v1, v2, v3, rfl⟩
theorem arr5 {a : Array Value} (h : a.size = 5) : ∃ v0 v1 v2 v3 v4, a = #[v0, v1, v2, v3, v4] := by
  obtain ⟨l⟩ := a
  match l, h with
  | [v0, v1, v2, v3, v4], _ => exact ⟨v0, v1, v2, v3, v4, rfl⟩

theorem Has.nil {w : World} {d : Nat} {cs : List Value} (h : Has w d [] cs) : cs = [] := List.eq_nil_of_length_eq_zero h.1
theorem Has.cons {w : World} {d : Nat} {ck : CK} {l : List CK} {cs : List Value} (h : Has w d (ck :: l) cs) : ∃ v cs', cs = v :: cs' ∧ One w d ck v ∧ Has w d l cs' := by
  match cs, h with
  | [], h => exact absurd h.1 (by simp)
  | v :: cs', h => exact ⟨v, cs', rfl, h.2 0 ck v rfl rfl, by have := h.1; simpa using this, fun j ck' u a b => h.2 (j + 1) ck' u (by simpa using a) (by simpa using b)⟩

theorem wf_bd {n : Int} (h : (Lit.int .i64 n).wf = true) : -9223372036854775808 ≤ n ∧ n ≤ 9223372036854775807 := by
  simpa [Lit.wf, IntKind.min, IntKind.max, IntKind.signed, IntKind.bits] using h

section
variable {P : Program} {w : World} {t : TypeId} {v : Value}
theorem ArgIs.agg {fs : Array Field} {d : Nat} {l : List CK} (h : ArgIs P w t v) (hs : P.underlying t = some (.struct fs)) (hf : flat P d t = some l) : ∃ cs : List Value, v = .agg cs.toArray ∧ Has w d l cs := by
  obtain ⟨cs, rfl⟩ := h.2.1 fs hs
  exact ⟨cs.toList, by simp, by simpa [Value.cells] using h.1 d l hf⟩
theorem ArgIs.one {d : Nat} {ck : CK} (h : ArgIs P w t v) (hs : v.cells = #[v]) (hf : flat P d t = some [ck]) : One w d ck v := by
  have hh := h.1 d _ hf
  rw [hs] at hh
  exact hh.2 0 ck v rfl rfl
theorem ArgIs.int {k : IntKind} (h : ArgIs P w t v) (hs : P.underlying t = some (.int k)) : ∃ n, v = .int k n ∧ (Lit.int k n).wf = true :=
  One_int.1 (h.one (h.2.2 (.inl ⟨k, hs⟩)) (d := 1) (by simp [flat, hs]))
theorem ArgIs.bool (h : ArgIs P w t v) (hs : P.underlying t = some .bool) : ∃ b, v = .bool b :=
  One_bool.1 (h.one (h.2.2 (.inr (.inl hs))) (d := 1) (by simp [flat, hs]))
theorem ArgIs.str (h : ArgIs P w t v) (hs : P.underlying t = some .string) : ∃ s : ByteArray, v = .string s ∧ s.size ≤ maxLen :=
  One_str.1 (h.one (h.2.2 (.inr (.inr (.inl hs)))) (d := 1) (by simp [flat, hs]))
theorem ArgIs.sl {e : TypeId} {d : Nat} {l : List CK} (h : ArgIs P w t v) (hs : P.underlying t = some (.slice e)) (hf : flat P d t = some [.sl l]) : One w d (.sl l) v :=
  h.one (h.2.2 (.inr (.inr (.inr ⟨e, hs⟩)))) hf
end
end Go.Proofs.YthfgpnpoocepeaaGreat
