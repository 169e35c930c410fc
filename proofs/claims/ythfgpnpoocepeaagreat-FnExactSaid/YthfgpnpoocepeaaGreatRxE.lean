/- The evaluator's operations are true of the program's: those that leave memory alone, and new blocks. No conditions. -/
import Derived.Test.YthfgpnpoocepeaaGreatRxD
import Derived.Handy
import Derived.Laws.Small
import Derived.Laws.Cover3
import Derived.Laws.MakeOwn
import Derived.Great.BuildSlice
import Derived.Maps.AppendAt
namespace Go.Proofs.YthfgpnpoocepeaaGreat
open Go.RowKit
namespace Rx

def DescOK : TD → TypeDesc → Prop
  | .int k, .int k' => k = k'
  | .bool, .bool => True
  | .str, .string => True
  | .slice e, .slice e' => e = e'
  | .struct fs, .struct fields => fs = fields.toList.map fun f => (f.offset, f.type)
  | .ptr e, .pointer e' => e = e'
  | .array n e, .array n' e' => n = n' ∧ e = e'
  | .map k e, .map k' e' => k = k' ∧ e = e'
  | .other, d => (match d with | .struct _ | .array _ _ => true | _ => false) = false
  | _, _ => False
structure TIOK (P : Program) (t : TypeId) (i : TI) : Prop where
  info : ∃ info z, P.info? t = some info ∧ info.size = i.size ∧ info.bytes = i.bytes ∧ info.zero = some z ∧ z.cells.size = i.size ∧ All2 (fun c v => absC v = some c) i.zero z.cells.toList ∧ (i.isAgg = true → ∃ cs, z = .agg cs)
  und : ∃ d, P.underlying t = some d ∧ DescOK i.desc d
  tsz : i.ty.size = i.size
  byt : i.bytes ≤ 32768
  siz : i.size ≤ 256
  pos : 0 < i.size
  one : i.isAgg = false → ∀ info z, P.info? t = some info → info.zero = some z → z.cells = #[z]

/-- The builder's kind: its zero value. -/
def BltOK (P : Program) (t : TypeId) : Prop := (P.info? t).bind (·.zero) = some (.agg #[.pointer none, .slice none 0 0])

section
variable {P : Program} {w : World} {t : TypeId} {i : TI}
theorem TIOK.agg (h : TIOK P t i) : (isAgg t).run P w = .ok i.isAgg w := by
  obtain ⟨d, h1, h2⟩ := h.und
  unfold TI.isAgg
  cases hd : i.desc <;> cases d <;> rw [hd] at h2 <;> simp [DescOK] at h2 <;> simp [isAgg, run_underlying h1]
theorem TIOK.size (h : TIOK P t i) : (sizeOf t).run P w = .ok i.size w := by
  obtain ⟨info, z, h1, h2, _⟩ := h.info
  simp [sizeOf, typeInfo, h1, h2]
theorem TIOK.cells (h : TIOK P t i) : (P.info? t).map (·.size) = some i.size := by
  obtain ⟨info, z, h1, h2, _⟩ := h.info
  simp [h1, h2]
theorem TIOK.slice {e : TypeId} (h : TIOK P t i) (hd : i.desc = .slice e) : P.underlying t = some (.slice e) := by
  obtain ⟨d, h1, h2⟩ := h.und
  rw [hd] at h2
  cases d <;> simp [DescOK] at h2
  subst h2; exact h1
theorem TIOK.struct {fs : List (Nat × TypeId)} (h : TIOK P t i) (hd : i.desc = .struct fs) : ∃ fields, P.underlying t = some (.struct fields) ∧ fs = fields.toList.map fun f => (f.offset, f.type) := by
  obtain ⟨d, h1, h2⟩ := h.und
  rw [hd] at h2
  cases d <;> simp [DescOK] at h2
  exact ⟨_, h1, h2⟩
theorem TIOK.array {n : Nat} {e : TypeId} (h : TIOK P t i) (hd : i.desc = .array n e) : P.underlying t = some (.array n e) := by
  obtain ⟨d, h1, h2⟩ := h.und
  rw [hd] at h2
  cases d <;> simp [DescOK] at h2
  obtain ⟨rfl, rfl⟩ := h2; exact h1
theorem TIOK.map {k e : TypeId} (h : TIOK P t i) (hd : i.desc = .map k e) : P.underlying t = some (.map k e) := by
  obtain ⟨d, h1, h2⟩ := h.und
  rw [hd] at h2
  cases d <;> simp [DescOK] at h2
  obtain ⟨rfl, rfl⟩ := h2; exact h1
theorem TIOK.int {k : IntKind} (h : TIOK P t i) (hd : i.desc = .int k) : P.underlying t = some (.int k) := by
  obtain ⟨d, h1, h2⟩ := h.und
  rw [hd] at h2
  cases d <;> simp [DescOK] at h2
  subst h2; exact h1
theorem TIOK.str (h : TIOK P t i) (hd : i.desc = .str) : P.underlying t = some .string := by
  obtain ⟨d, h1, h2⟩ := h.und
  rw [hd] at h2
  cases d <;> simp [DescOK] at h2
  exact h1
end

section
variable {P : Program} {W : WX} {M0 : Mem} {S : St} {hdr : Nat → Option Value} {inn : Nat → List Nat} {M : Mem} {a : Act} {w : World} {o : Oper} {K : Act → World → Prop} {Q : Exit → Act → World → Prop} {e : Eff} {id : Nat}

theorem wp_val {v : Value} {w' : World} (h : (execOp a.eval o).run P w = .ok (.value v) w') (hK : K (a.put o.dst v) w') : o.wp P a w K Q := by
  unfold Oper.wp; rw [h]; exact hK
theorem wp_skp {w' : World} (h : (execOp a.eval o).run P w = .ok .skip w') (hK : K (a.put o.dst undef) w') : o.wp P a w K Q := by
  unfold Oper.wp; rw [h]; exact hK

/-- What one operation is to show. -/
def Sound (P : Program) (W : WX) (M0 : Mem) (S : St) (a : Act) (w : World) (o : Oper) (e : Eff) : Prop :=
  ∀ (K : Act → World → Prop) (Q : Exit → Act → World → Prop), (∀ a' w', G W M0 (S.app o.dst e) a' w' → K a' w') → o.wp P a w K Q

theorem sound_val {v : Value} {x : AV} {rd : List Nat} (h : Good W M0 S hdr inn M a w) (hr : (execOp a.eval o).run P w = .ok (.value v) w) (hv : RepAV w M hdr x v) : Sound P W M0 S a w o ⟨x, [], rd⟩ :=
  fun _ _ hK => wp_val hr (hK _ _ ⟨_, _, _, h.val hv⟩)

theorem sound_move {E : Env} {x : Operand} (h : Good W M0 S hdr inn M a w) (ho : o.op = .move x ∨ o.op = .assign x) (hk : opK E o.op id S some = some e) : Sound P W M0 S a w o e := by
  have key : e = ⟨S.ev x, [], []⟩ := by
    rcases ho with ho | ho <;> rw [ho] at hk <;> simp only [opK] at hk <;> split at hk
    · cases hk
    · injection hk with hk; exact hk.symm
    · rename_i hx
      split at hk
      · injection hk with hk; rw [hx]; exact hk.symm
      · cases hk
    · injection hk with hk; exact hk.symm
  subst key
  exact sound_val h (by rcases ho with ho | ho <;> simp [execOp, ho]) (h.ev x)
theorem sound_pick {E : Env} {c x y : Operand} (h : Good W M0 S hdr inn M a w) (ho : o.op = .pick c x y) (hk : opK E o.op id S some = some e) : Sound P W M0 S a w o e := by
  rw [ho] at hk
  simp only [opK] at hk
  split at hk
  · rename_i b hc
    have hc' := h.bool hc
    have hr : (execOp a.eval o).run P w = .ok (.value (if b then a.eval x else a.eval y)) w := by
      cases b <;> simp [execOp, ho, hc', asBool]
    split at hk
    · rename_i u v hu hv
      cases hk
      refine sound_val h hr ?_
      rw [h.bool hu, h.bool hv]
      cases b <;> rfl
    · rcases br_some hk with ⟨hb, hk⟩ | ⟨hb, hk⟩
      · cases hk; subst hb
        exact sound_val h hr (h.ev x)
      · cases hk; subst hb
        exact sound_val h hr (h.ev y)
  · cases hk

theorem run_eqGuard_int (op : BinOp) (t : TypeId) (x y : Operand) (k k' : IntKind) (m n : Int) : (eqGuard op t x y (.int k m) (.int k' n)).run P w = .ok () w := by
  cases op <;> simp [eqGuard]
theorem run_eqGuard_bool (op : BinOp) (t : TypeId) (x y : Operand) (m n : Bool) : (eqGuard op t x y (.bool m) (.bool n)).run P w = .ok () w := by
  cases op <;> simp [eqGuard]
theorem run_eqGuard_str (op : BinOp) (t : TypeId) (x y : Operand) (m n : ByteArray) : (eqGuard op t x y (.string m) (.string n)).run P w = .ok () w := by
  cases op <;> simp [eqGuard]
theorem run_intBin {op : BinOp} {t : TypeId} {k : IntKind} {m n : Int} {c : Cell} (h : intBin op k m n = some c) : ∃ v, (binOp op t (.int k m) (.int k n)).run P w = .ok v w ∧ RepC w M hdr c v := by
  cases op <;> simp only [intBin] at h <;> cases h
  case and => exact ⟨.int k (andI k m n), by simp only [binOp, ne_eq, not_true_eq_false, if_false]; rfl, rfl⟩
  case or => exact ⟨.int k (orI k m n), by simp only [binOp, ne_eq, not_true_eq_false, if_false]; rfl, rfl⟩
  case xor => exact ⟨.int k (xorI k m n), by simp only [binOp, ne_eq, not_true_eq_false, if_false]; rfl, rfl⟩
  all_goals
    refine ⟨_, by simp [binOp, Op.intArith, Op.intCmp]; rfl, ?_⟩
    simp [RepC]
theorem run_shift {op : BinOp} {t : TypeId} {k k' : IntKind} {m n r : Int} (h : intShift op k m n = some r) (hn : ¬ n < 0) : (binOp op t (.int k m) (.int k' n)).run P w = .ok (.int k r) w := by
  cases op <;> simp only [intShift] at h <;> cases h
  all_goals
    simp only [binOp, Op.shift]
    rw [if_neg hn]
    rfl

/-- Structs may be compared. -/
def StructEqOK (P : Program) (t : TypeId) (ks : List EK) : Prop := ∀ (w : World) (M : Mem) (hdr : Nat → Option Value) (x y : Operand) cs cs' (vs vs' : List Value) b, kindsOk ks cs = true → All2 (RepC w M hdr) cs vs → All2 (RepC w M hdr) cs' vs' → eqCells cs cs' = some b →
  (eqGuard .eql t x y (.agg vs.toArray) (.agg vs'.toArray)).run P w = .ok () w ∧ (eqGuard .neq t x y (.agg vs.toArray) (.agg vs'.toArray)).run P w = .ok () w ∧ (Op.equal t (.agg vs.toArray) (.agg vs'.toArray)).run P w = .ok b w

theorem sound_bin {op : BinOp} {t ty : TypeId} {x y : Operand} {E : Env} (h : Good W M0 S hdr inn M a w) (htab : ∀ t i, E.tab.lookup t = some i → TIOK P t i) (heq : ∀ t ks, E.eqs.lookup t = some ks → StructEqOK P t ks) (ho : o.op = .binOp op t x y ty) (hk : opK E o.op id S some = some e) : Sound P W M0 S a w o e := by
  rw [ho] at hk
  simp only [opK] at hk
  split at hk
  · rename_i c hn
    obtain ⟨c, b⟩ := c
    unfold nilAt at hn
    split at hn
    · rename_i b0 hx hy
      split at hn
      · rename_i rt e0 x0 fz hb
        cases hn
        obtain ⟨hh, A, n, cp, hv⟩ := h.one hx
        have hy' : a.eval y = .slice none 0 0 := h.one hy
        have hb' : lk S.heap b = some (some (.obj (.nrow rt e0) x0 fz)) := by
          unfold blkAt at hb
          cases hl : lk S.heap b with
          | none => rw [hl] at hb; cases hb
          | some z => rw [hl] at hb; simp at hb; rw [hb]
        obtain ⟨v0, hv0, hB⟩ := h.hp b _ hb'
        rw [hh] at hv0
        injection hv0 with hv0
        subst hv0
        have hc : A.isNone = (OK.opt x0).isNone := by
          rcases hB.1 with ⟨h1, h2, _⟩ | ⟨xs, g, cap, vs, h1, h2, _⟩
          · rw [h1]; rw [hv] at h2; injection h2 with h2; rw [h2]; rfl
          · rw [h1]; rw [hv] at h2; injection h2 with h2; rw [h2]; rfl
        unfold nilK at hk
        split at hk
        · rename_i i hi
          split at hk
          · rename_i et hd
            have hu := (htab t i hi).slice hd
            have hg : ∀ op, (eqGuard op t x y (.slice A n cp) (.slice none 0 0)).run P w = .ok () w := fun op => by cases op <;> simp [eqGuard]
            have he := run_equal_slice_nil (P := P) w t et A n cp hu
            have run : ∀ v, (binOp op t (.slice A n cp) (.slice none 0 0)).run P w = .ok v w → (execOp a.eval o).run P w = .ok (.value v) w := fun v h2 => by
              simp [execOp, ho, hv, hy', hg, h2]
            split at hk
            · cases hk
              exact sound_val h (run (.bool A.isNone) (by simp only [binOp]; simp [he])) (by rw [hc]; rfl)
            · cases hk
              exact sound_val h (run (.bool (!A.isNone)) (by simp only [binOp]; simp [he])) (by rw [hc]; rfl)
            · cases hk
          · cases hk
        · cases hk
      · cases hn
    · cases hn
  simp only [binK] at hk
  have run : ∀ v, (eqGuard op t x y (a.eval x) (a.eval y)).run P w = .ok () w → (binOp op t (a.eval x) (a.eval y)).run P w = .ok v w → (execOp a.eval o).run P w = .ok (.value v) w := by
    intro v h1 h2
    simp [execOp, ho, h1, h2]
  split at hk
  · rename_i k m k' n hx hy
    have hx' := h.int hx
    have hy' := h.int hy
    rw [hx', hy'] at run
    split at hk
    · rename_i r hr
      rcases br_some hk with ⟨_, hk⟩ | ⟨hb, hk⟩
      · cases hk
      · cases hk
        exact sound_val h (run _ (run_eqGuard_int _ _ _ _ _ _ _ _) (run_shift hr (by simpa using hb))) rfl
    split at hk
    · rename_i hkk; subst hkk
      split at hk
      · rcases br_some hk with ⟨hb, hk⟩ | ⟨hb, hk⟩
        · cases hk
        · cases hk
          have hn : ¬ n = 0 := by simpa using hb
          exact sound_val h (run _ (run_eqGuard_int _ _ _ _ _ _ _ _) (by simp [binOp, Op.intDiv, hn])) rfl
      · rcases br_some hk with ⟨hb, hk⟩ | ⟨hb, hk⟩
        · cases hk
        · cases hk
          have hn : ¬ n = 0 := by simpa using hb
          exact sound_val h (run _ (run_eqGuard_int _ _ _ _ _ _ _ _) (by simp [binOp, Op.intDiv, hn])) rfl
      · split at hk
        · rename_i c hc
          cases hk
          obtain ⟨v, hv, hr⟩ := run_intBin (P := P) (w := w) (t := t) (M := M) (hdr := hdr) hc
          exact sound_val h (run _ (run_eqGuard_int _ _ _ _ _ _ _ _) hv) hr
        · cases hk
    · cases hk
  · rename_i m n hx hy
    have hx' := h.bool hx
    have hy' := h.bool hy
    rw [hx', hy'] at run
    split at hk
    · rename_i i hi
      split at hk
      · rename_i hd
        have hu : P.underlying t = some .bool := by
          obtain ⟨d, h1, h2⟩ := (htab t i hi).und
          rw [hd] at h2
          cases d <;> simp [DescOK] at h2
          exact h1
        split at hk
        · cases hk
          exact sound_val h (run (.bool (m == n)) (run_eqGuard_bool _ _ _ _ _ _) (run_eql_bool w t m n hu)) rfl
        · cases hk
          exact sound_val h (run (.bool (!(m == n))) (run_eqGuard_bool _ _ _ _ _ _) (run_neq_bool w t m n hu)) rfl
        · cases hk
      · cases hk
    · cases hk
  · rename_i m n hx hy
    have hx' := h.str hx
    have hy' := h.str hy
    rw [hx', hy'] at run
    split at hk
    · rcases br_some hk with ⟨hb, hk⟩ | ⟨hb, hk⟩
      · cases hk
        have hb' : m.size + n.size ≤ 9223372036854775807 := by simpa using hb
        have h3 : ¬ (((m.size + n.size : Nat) : Int) > IntKind.i64.max) := by
          have : IntKind.i64.max = 9223372036854775807 := by decide
          rw [this]; omega
        exact sound_val h (run (.string (m ++ n)) (run_eqGuard_str _ _ _ _ _ _) (by simp only [binOp, Op.stringOp, h3, if_false]; rfl)) rfl
      · cases hk
    · cases hk
      exact sound_val h (run _ (run_eqGuard_str _ _ _ _ _ _) (by simp [binOp, Op.stringOp])) rfl
    · cases hk
      exact sound_val h (run (.bool (!(m.toList == n.toList))) (run_eqGuard_str _ _ _ _ _ _) (by simp [binOp, Op.stringOp])) rfl
    · cases hk
  · rename_i cs cs' hx hy
    obtain ⟨vs, hx', h1⟩ := h.v1 hx
    obtain ⟨vs', hy', h2⟩ := h.v1 hy
    rw [hx', hy'] at run
    split at hk
    · rename_i ks hks
      split at hk
      · rename_i b hc hb
        cases hk
        obtain ⟨g1, g2, g3⟩ := heq t ks hks w M hdr x y cs cs' vs vs' b hc h1 h2 hb
        exact sound_val h (run _ g1 (by simp [binOp, g3])) rfl
      · rename_i b hc hb
        cases hk
        obtain ⟨g1, g2, g3⟩ := heq t ks hks w M hdr x y cs cs' vs vs' b hc h1 h2 hb
        exact sound_val h (run _ g2 (by simp [binOp, g3])) rfl
      · cases hk
    · cases hk
  · rename_i b T xs hx hy
    obtain ⟨_, A, n, c, hx', hb⟩ := h.one hx
    have hy' : a.eval y = .slice none 0 0 := h.one hy
    rw [hx', hy'] at run
    split at hk
    · rename_i i hi
      split at hk
      · rename_i et hd
        have hu := (htab t i hi).slice hd
        have hg : ∀ op, (eqGuard op t x y (.slice A n c) (.slice none 0 0)).run P w = .ok () w := fun op => by cases op <;> simp [eqGuard]
        have he := run_equal_slice_nil (P := P) w t et A n c hu
        split at hk
        · cases hk
          exact sound_val h (run (.bool A.isNone) (hg _) (by simp only [binOp]; simp [he])) (by rw [hb]; rfl)
        · cases hk
          exact sound_val h (run (.bool (!A.isNone)) (hg _) (by simp only [binOp]; simp [he])) (by rw [hb]; rfl)
        · cases hk
      · cases hk
    · cases hk
  · cases hk

theorem isNew_lt {cs : List Cell} {vs : Array Value} {w' : World} {hdr' : Nat → Option Value} (ty : TypeId) (h : Good W M0 S hdr inn M a w) (hw : w' = w.alloc (.cells vs ty)) (hc : All2 (RepC w M hdr) cs vs.toList)
    (hh : ∀ b v, hdr b = some v → hdr' b = some v) : RepBlk w' M hdr' W.fresh (.cells ty cs 0) (.pointer (some ⟨w.heap.size, 0, none⟩)) [w.heap.size] := by
  subst hw
  refine ⟨w.heap.size, vs, rfl, rfl, .new h.ext.size (by decide), heap_alloc_new w _, hc.mono fun _ _ h' => h'.keep (fun p hp => Ext.cell (Ext.alloc (Ext.refl w) _) (h.ml p hp)) (fun _ h => h) hh, fun p hp e => ?_⟩
  have := h.ml p hp
  omega

/-- A new variable that holds some cells. -/
theorem sound_box {cs : List Cell} {vs : Array Value} {ty : TypeId} (h : Good W M0 S hdr inn M a w) (hr : (execOp a.eval o).run P w = .ok (.value (.pointer (some ⟨w.heap.size, 0, none⟩))) (w.alloc (.cells vs ty)))
    (hc : All2 (RepC w M hdr) cs vs.toList) (hid : isNew S.heap id = true) : Sound P W M0 S a w o ⟨.v (.one (.ptr id 0)), [(id, some (.cells ty cs 0))], [id]⟩ := by
  intro K Q hK
  obtain ⟨hdr', inn', hg⟩ := h.fresh (dst := o.dst) (x := .v (.one (.ptr id 0))) (u := .pointer (some ⟨w.heap.size, 0, none⟩)) (v0 := .pointer (some ⟨w.heap.size, 0, none⟩)) (rd := [id]) (gs := [w.heap.size]) (B := .cells ty cs 0) hid
    (by show 0 < 2; decide) (Ext.alloc (Ext.refl w) (.cells vs ty)) (fun g hg => by rw [List.mem_singleton] at hg; omega) (fun hdr' hh _ => isNew_lt ty h rfl hc hh) (fun hdr' _ h0 => ⟨w.heap.size, h0, rfl⟩)
  exact wp_val hr (hK _ _ ⟨_, _, _, hg⟩)

theorem constC {cs : List Cell} {vs : List Value} (h : All2 (fun c v => absC v = some c) cs vs) : All2 (RepC w M hdr) cs vs := h.mono fun _ _ h => absC_rep h

/-- A new builder. -/
theorem bld_new (w : World) (t e : TypeId) : BldAt (w.alloc (.cells #[.pointer none, .slice none 0 0] t)) t e w.heap.size ByteArray.empty [w.heap.size] :=
  ⟨.pointer none, .slice none 0 0, .inl rfl, heap_alloc_new w _, ⟨rfl, .inl ⟨rfl, rfl⟩⟩, by simp [Value.ownBlock], fun _ => rfl, rfl⟩
theorem sound_newBld {t e : TypeId} (h : Good W M0 S hdr inn M a w) (hb : BltOK P t) (ho : o.op = .alloc t) (hid : isNew S.heap id = true) : Sound P W M0 S a w o ⟨.v (.one (.ptr id 0)), [(id, some (.obj (.bld t e) ByteArray.empty 0))], [id]⟩ := by
  intro K Q hK
  obtain ⟨info, h1, h4⟩ := Option.bind_eq_some_iff.1 hb
  have hr : (execOp a.eval o).run P w = .ok (.value (.pointer (some ⟨w.heap.size, 0, none⟩))) (w.alloc (.cells #[.pointer none, .slice none 0 0] t)) := by
    simp [execOp, ho, Instr.alloc, zeroValue, typeInfo, h1, h4, newVar, newRow, Value.cells]
  obtain ⟨hdr', inn', hg⟩ := h.fresh (dst := o.dst) (x := .v (.one (.ptr id 0))) (u := .pointer (some ⟨w.heap.size, 0, none⟩)) (v0 := .pointer (some ⟨w.heap.size, 0, none⟩)) (rd := [id]) (gs := [w.heap.size]) (B := .obj (.bld t e) ByteArray.empty 0) hid
    (by show 0 < 2; decide) (Ext.alloc (Ext.refl w) (.cells #[.pointer none, .slice none 0 0] t)) (fun g hg => by rw [List.mem_singleton] at hg; omega)
    (fun hdr' hh _ => ⟨⟨w.heap.size, rfl, bld_new w t e⟩, fun g hg => by rw [List.mem_singleton] at hg; exact .new (by rw [hg]; exact h.ext.size) (by decide), fun p hp hm => by rw [List.mem_singleton] at hm; have := h.ml p hp; omega⟩)
    (fun hdr' _ h0 => ⟨w.heap.size, h0, rfl⟩)
  exact wp_val hr (hK _ _ ⟨_, _, _, hg⟩)
theorem sound_alloc {E : Env} {t : TypeId} (h : Good W M0 S hdr inn M a w) (htab : ∀ t i, E.tab.lookup t = some i → TIOK P t i) (hblt : ∀ t e, E.blt.lookup t = some e → BltOK P t) (ho : o.op = .alloc t) (hk : opK E o.op id S some = some e) : Sound P W M0 S a w o e := by
  rw [ho] at hk
  simp only [opK] at hk
  split at hk
  · rename_i e' he
    obtain ⟨hid, hk⟩ := chk_some hk
    cases hk
    exact sound_newBld h (hblt t e' he) ho hid
  split at hk
  · rename_i i hi
    obtain ⟨hid, hk⟩ := chk_some hk
    cases hk
    obtain ⟨info, z, h1, h2, h3, h4, h5, h6, h7⟩ := (htab t i hi).info
    exact sound_box h (vs := z.cells) (by simp [execOp, ho, Instr.alloc, zeroValue, typeInfo, h1, h4, newVar, newRow]) (constC h6) hid
  · cases hk
theorem sound_boxOp {E : Env} {t : TypeId} {x : Operand} (h : Good W M0 S hdr inn M a w) (ho : o.op = .box t x) (hk : opK E o.op id S some = some e) : Sound P W M0 S a w o e := by
  rw [ho] at hk
  simp only [opK] at hk
  split at hk
  · rename_i x1 hx
    obtain ⟨hid, hk⟩ := chk_some hk
    cases hk
    exact sound_box h (vs := (a.eval x).cells) (by simp [execOp, ho, Instr.box, newVar, newRow]) (h.v1 hx).cells hid
  · cases hk

theorem putCells_rep {cs new : List Cell} {vs us : List Value} {off : Nat} (h : All2 (RepC w M hdr) cs vs) (hn : All2 (RepC w M hdr) new us) : All2 (RepC w M hdr) (putCells cs off new) (vs.take off ++ us ++ vs.drop (off + us.length)) := by
  unfold putCells
  rw [hn.len]
  exact (h.take.append hn).append h.drop

theorem foldl_set (off : Nat) : ∀ (us : List Value) (k : Nat) (vs : Array Value), off + k + us.length ≤ vs.size →
    (us.zipIdx k).foldl (fun cs (c, j) => cs.setIfInBounds (off + j) c) vs = (vs.toList.take (off + k) ++ us ++ vs.toList.drop (off + k + us.length)).toArray
  | [], k, vs, _ => by simp
  | u :: us, k, vs, hl => by
    simp only [List.length_cons] at hl
    have ih := foldl_set off us (k + 1) (vs.setIfInBounds (off + k) u) (by simp; omega)
    simp only [List.zipIdx_cons, List.foldl_cons]
    rw [show off + (k + 1) = off + k + 1 by omega] at ih
    rw [ih]
    congr 1
    have hlen : off + k < vs.toList.length := by simp; omega
    simp only [Array.toList_setIfInBounds, List.length_cons]
    rw [show off + k + (us.length + 1) = off + k + 1 + us.length by omega, List.take_succ_eq_append_getElem (by simp; omega), List.getElem_set_self, List.take_set_of_le (by omega), List.drop_set_of_lt (by omega)]
    simp

theorem fill_rep {places : List (Nat × Nat)} {place : Nat → Option (Nat × Nat)} (hpp : ∀ i p, places[i]? = some p → place i = some p) : ∀ {ps : List (Nat × AV)} {us : List (Nat × Value)} {cs cs' : List Cell} {vs : Array Value}, fillK places cs ps = some cs' → All2 (RepC w M hdr) cs vs.toList →
    All2 (fun p u => p.1 = u.1 ∧ RepAV w M hdr p.2 u.2) ps us → ∃ vs', Instr.fill place vs us = some vs' ∧ All2 (RepC w M hdr) cs' vs'.toList
  | [], us, cs, cs', vs, hf, hc, hp => by
    cases hp.nil'
    simp only [fillK] at hf
    cases hf
    exact ⟨vs, rfl, hc⟩
  | (i, x) :: ps, us, cs, cs', vs, hf, hc, hp => by
    obtain ⟨u, r, rfl, ⟨hi, hx⟩, hr⟩ := hp.cons'
    obtain ⟨j, u⟩ := u
    simp only at hi; subst hi
    cases x with
    | undef => simp [fillK] at hf
    | tup _ => simp [fillK] at hf
    | v x =>
      simp only [fillK] at hf
      split at hf
      · rename_i off size hpl
        split at hf
        · rename_i hsz
          have hxc := RepV1.cells hx
          have hul : u.cells.toList.length = size := by rw [← hxc.len]; exact hsz.1
          have hcl := hc.len
          have hul' : u.cells.size = size := by simpa using hul
          have hn := putCells_rep (off := off) hc hxc
          have e := foldl_set off u.cells.toList 0 vs (by simp at hcl hul ⊢; omega)
          have ea : u.cells.zipIdx.foldl (fun cs (c, j) => cs.setIfInBounds (off + j) c) vs = (vs.toList.take off ++ u.cells.toList ++ vs.toList.drop (off + u.cells.toList.length)).toArray := by
            rw [← Array.foldl_toList, Array.toList_zipIdx]
            simpa using e
          obtain ⟨vs', h1, h2⟩ := fill_rep hpp (vs := (vs.toList.take off ++ u.cells.toList ++ vs.toList.drop (off + u.cells.toList.length)).toArray) hf (by simpa using hn) hr
          refine ⟨vs', ?_, h2⟩
          have hb : (u.cells.size ≠ size || decide (off + u.cells.size > vs.size)) = false := by
            simp at hcl
            simp [hul']; omega
          simp only [Instr.fill, hpp _ _ hpl, hb, ea]
          simpa using h1
        · cases hf
      · cases hf

theorem parts_rep (h : Good W M0 S hdr inn M a w) : ∀ (ps : List (Nat × Operand)), All2 (fun p u => p.1 = u.1 ∧ RepAV w M hdr p.2 u.2) (ps.map fun p => (p.1, S.ev p.2)) (ps.map fun p => (p.1, a.eval p.2))
  | [] => trivial
  | p :: r => ⟨⟨rfl, h.ev p.2⟩, parts_rep h r⟩

theorem fieldsOf_rep {tab : List (TypeId × TI)} (htab : ∀ t i, tab.lookup t = some i → TIOK P t i) : ∀ {fields : List Field} {pl : List (Nat × Nat)}, fieldsOf tab (fields.map fun f => (f.offset, f.type)) = some pl →
    fields.mapM (fun f => (P.info? f.type).map fun i => (f.offset, i.size)) = some pl
  | [], pl, h => by simpa [fieldsOf] using h
  | f :: fs, pl, h => by
    simp only [fieldsOf, List.map_cons, List.mapM_cons, Option.bind_eq_bind, Option.pure_def] at h
    obtain ⟨x, hx, h⟩ := Option.bind_eq_some_iff.1 h
    obtain ⟨xs, hxs, h⟩ := Option.bind_eq_some_iff.1 h
    obtain ⟨i, hi, rfl⟩ := Option.map_eq_some_iff.1 hx
    cases h
    have hs := (htab _ _ hi).cells
    obtain ⟨info, h1, h2⟩ := Option.map_eq_some_iff.1 hs
    have ih := fieldsOf_rep htab (fields := fs) (pl := xs) (by simpa [fieldsOf] using hxs)
    simp [List.mapM_cons, h1, h2, ih]

theorem sound_build {E : Env} {t : TypeId} {ps : Array (Nat × Operand)} (h : Good W M0 S hdr inn M a w) (htab : ∀ t i, E.tab.lookup t = some i → TIOK P t i) (ho : o.op = .build t ps) (hk : opK E o.op id S some = some e) : Sound P W M0 S a w o e := by
  rw [ho] at hk
  simp only [opK] at hk
  split at hk
  · rename_i i hi
    split at hk
    · rename_i fs hd
      split at hk
      · rename_i pl hpl
        split at hk
        · rename_i cs hcs
          cases hk
          obtain ⟨fields, hu, rfl⟩ := (htab t i hi).struct hd
          obtain ⟨info, z, h1, h2, h3, h4, h5, h6, h7⟩ := (htab t i hi).info
          obtain ⟨vs', hf, hr⟩ := fill_rep (place := (pl.toArray[·]?)) (fun i p hp => by simpa using hp) hcs (constC h6) (parts_rep h ps.toList)
          have hb : P.built t (ps.map fun p => (p.1, a.eval p.2)).toList = some vs' := by
            simp only [Program.built, h1, hu, h4, fieldsOf_rep htab hpl, Array.toList_map]
            exact hf
          refine sound_val h (v := .agg vs') ?_ ⟨vs'.toList, by simp, hr⟩
          have := run_build w t (ps.map fun p => (p.1, a.eval p.2)) vs' hb
          simp [execOp, ho, this]
        · cases hk
      · cases hk
    · rename_i m et hd
      split at hk
      · rename_i ei hei
        split at hk
        · rename_i cs hcs
          cases hk
          have hu := (htab t i hi).array hd
          obtain ⟨info, z, h1, h2, h3, h4, h5, h6, h7⟩ := (htab t i hi).info
          obtain ⟨infoE, hE1, hE2⟩ := Option.map_eq_some_iff.1 (htab _ _ hei).cells
          obtain ⟨vs', hf, hr⟩ := fill_rep (place := fun i => some (i * infoE.size, infoE.size)) (fun i p hp => by
            rw [List.getElem?_map] at hp
            obtain ⟨j, hj, rfl⟩ := Option.map_eq_some_iff.1 hp
            have hj2 := (List.getElem?_eq_some_iff.1 hj)
            obtain ⟨hl, hj3⟩ := hj2
            rw [List.getElem_range] at hj3
            rw [hE2, hj3]) hcs (constC h6) (parts_rep h ps.toList)
          have hb : P.built t (ps.map fun p => (p.1, a.eval p.2)).toList = some vs' := by
            simp only [Program.built, h1, hu, h4, hE1, Array.toList_map]
            exact hf
          refine sound_val h (v := .agg vs') ?_ ⟨vs'.toList, by simp, hr⟩
          have := run_build w t (ps.map fun p => (p.1, a.eval p.2)) vs' hb
          simp [execOp, ho, this]
        · cases hk
      · cases hk
    · cases hk
  · cases hk
end
end Rx
end Go.Proofs.YthfgpnpoocepeaaGreat
