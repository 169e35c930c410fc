/- Regions that draw their order and in which new blocks float: whatever order is drawn, the values are those of the text's order, and each new block is somewhere among the new ones. No conditions. -/
import Derived.Test.YtaaieejhbpdmoaaTail
namespace Go.Proofs.Ytaaieejhbpdmoaa
open Go.RowKit

/-! ### An operation that leaves old memory alone -/
section
variable {P : Program} {ops : Array Oper} {md : Region.Mode}

def calmUpon (P : Program) (w : World) (v : Value) : Result Next → Prop
  | .ok (.value u) w' => w' = w ∧ u = v
  | .ok .skip w' => w' = w ∧ v = undef
  | .ok (.enter f args) w' => w' = w ∧ Calls P f args w (fun e w'' => e = .returned v ∧ Ext w w'')
  | _ => False
def calmAt (P : Program) (o : Oper) (a : Act) (w : World) (v : Value) : Prop := calmUpon P w v ((execOp a.eval o).run P w)
def calm (P : Program) (o : Oper) (a : Act) (W : World) (K : Act → Prop) : Prop := ∃ v, (∀ w, Ext W w → calmAt P o a w v) ∧ K (a.put o.dst v)
def cOp (P : Program) (ops : Array Oper) (W : World) (i : Nat) (K : Act → Prop) (a : Act) : Prop :=
  match ops[i]? with
  | none => K a
  | some o => if Region.wanted o (yielded ops a.tmps) then calm P o a W K else K (a.put o.dst undef)
def wpCalm (P : Program) (ops : Array Oper) (W : World) (Q : Act → Prop) : List Oper → Act → Prop
  | [], a => Q a
  | o :: rest, a => if Region.wanted o (yielded ops a.tmps) then calm P o a W (wpCalm P ops W Q rest) else wpCalm P ops W Q rest (a.put o.dst undef)

theorem cOp_mono {W : World} {i : Nat} {a : Act} {K K' : Act → Prop} (h : ∀ a, K a → K' a) (hh : cOp P ops W i K a) : cOp P ops W i K' a := by
  unfold cOp at *
  split
  · exact h _ (by simpa [*] using hh)
  · rename_i o ho
    simp only [ho] at hh
    split
    · rename_i hw
      simp only [hw, if_true] at hh
      obtain ⟨v, h1, h2⟩ := hh
      exact ⟨v, h1, h _ h2⟩
    · rename_i hw
      simp only [hw] at hh
      exact h _ hh

theorem wp_of_calmAt {o : Oper} {a : Act} {w : World} {v : Value} {K : Act → World → Prop} {Q : Exit → Act → World → Prop} (h : calmAt P o a w v) (hK : ∀ w', Ext w w' → K (a.put o.dst v) w') : o.wp P a w K Q := by
  unfold calmAt at h
  unfold Oper.wp
  generalize (execOp a.eval o).run P w = r at *
  cases r with
  | ok n w' =>
    cases n <;> simp only [calmUpon] at h <;> simp only [Oper.upon]
    case value u =>
      obtain ⟨e1, e2⟩ := h
      rw [e1, e2]
      exact hK _ (Ext.refl _)
    case skip =>
      obtain ⟨e1, e2⟩ := h
      rw [e1, ← e2]
      exact hK _ (Ext.refl _)
    case enter f args =>
      obtain ⟨e1, hc⟩ := h
      rw [e1]
      exact hc.mono fun e w'' ⟨he, hw''⟩ => by subst he; exact hK _ hw''
  | halt x w' => simp only [calmUpon] at h

/-! ### From a walk in every stable class to a calm walk -/
def Stable (S : World → Prop) : Prop := ∀ w w', S w → Ext w w' → S w'
/-- The worlds that extend W and of which S holds. -/
def ExtS (W : World) (S : World → Prop) := { w : World // Ext W w ∧ S w }
def ExtS.w {W : World} {S : World → Prop} (x : ExtS W S) : World := x.1
def clsOf (W : World) (S : World → Prop) (w : World) : Prop := Ext W w ∧ S w

theorem wpQuiet_slot {C : World → Prop} {A : Act} {d : Tmp} : ∀ (l : List Oper) (a : Act), (∀ o ∈ l, o.dst ≠ some d) → wpQuiet P ops C (fun a' => a' = A) l a → A.tmps[d]? = a.tmps[d]?
  | [], a, _, h => by
    have h' : a = A := h
    rw [h']
  | o :: l, a, hd, h => by
    have hne : ∀ v, (a.put o.dst v).tmps[d]? = a.tmps[d]? := fun v => by
      cases ho : o.dst with
      | none => rfl
      | some e =>
        have : e ≠ d := fun e1 => hd o (by simp) (by rw [ho, e1])
        simp [Act.put, Array.getElem?_setIfInBounds_ne this]
    unfold wpQuiet at h
    split at h
    · obtain ⟨v, _, h2⟩ := h
      rw [wpQuiet_slot l _ (fun o' ho' => hd o' (by simp [ho'])) h2, hne]
    · rw [wpQuiet_slot l _ (fun o' ho' => hd o' (by simp [ho'])) h, hne]

theorem put_eq {a : Act} {d : Tmp} {v : Value} {A : Act} (hd : d < a.tmps.size) (h : A.tmps[d]? = (a.put (some d) v).tmps[d]?) : v = A.tmps.getD d undef := by
  simp only [Act.put] at h
  rw [Array.getElem?_setIfInBounds_self_of_lt hd] at h
  rw [Array.getD_eq_getD_getElem?, h]
  rfl
theorem put_size {a : Act} {d : Option Tmp} {v : Value} : (a.put d v).tmps.size = a.tmps.size := by
  cases d <;> simp [Act.put]

theorem calmAt_of_quiet {o : Oper} {a : Act} {w : World} {v : Value} {W : World} (hw : Ext W w) (h : o.quietAt P a (clsOf W (Ext w)) w v) : calmAt P o a w v := by
  unfold Oper.quietAt at h
  unfold calmAt
  generalize (execOp a.eval o).run P w = r at *
  cases r with
  | ok n w' =>
    cases n <;> simp only [Oper.quietUpon] at h <;> simp only [calmUpon]
    case value u => exact h
    case skip => exact h
    case enter f args => exact ⟨h.1, h.2.mono fun _ _ ⟨e1, e2⟩ => ⟨e1, e2.2⟩⟩
  | halt x w' => simp only [Oper.quietUpon] at h

theorem calm_of_all {W : World} {A : Act} {N : Nat} : ∀ (l : List Oper) (a : Act), N ≤ a.tmps.size → (l.all fun o => match o.dst with | some d => decide (d < N) | none => false) = true → (l.map (·.dst)).Nodup →
    (∀ S, Stable S → Nonempty (ExtS W S) → wpQuiet P ops (clsOf W S) (fun a' => a' = A) l a) → wpCalm P ops W (fun a' => a' = A) l a
  | [], a, _, _, _, h => h (fun _ => True) (fun _ _ _ _ => trivial) ⟨⟨W, Ext.refl W, trivial⟩⟩
  | o :: l, a, hN, hs, hn, h => by
    simp only [List.all_cons, Bool.and_eq_true] at hs
    obtain ⟨ho, hs⟩ := hs
    simp only [List.map_cons, List.nodup_cons] at hn
    obtain ⟨hn1, hn2⟩ := hn
    obtain ⟨d, hd, hdN⟩ : ∃ d, o.dst = some d ∧ d < N := by
      cases hd : o.dst with
      | none => simp [hd] at ho
      | some d => exact ⟨d, rfl, by simpa [hd] using ho⟩
    have hother : ∀ o' ∈ l, o'.dst ≠ some d := fun o' ho' e => hn1 (by rw [hd, ← e]; exact List.mem_map_of_mem ho')
    unfold wpCalm
    have h' := h
    simp only [wpQuiet] at h'
    by_cases hw : Region.wanted o (yielded ops a.tmps) = true
    · simp only [hw, if_true] at h' ⊢
      refine ⟨A.tmps.getD d undef, fun w hW => ?_, calm_of_all l _ (by rw [put_size]; exact hN) hs hn2 fun S hS hne => ?_⟩
      · obtain ⟨v, h1, h2⟩ := h' (Ext w) (fun _ _ a b => a.trans b) ⟨⟨w, hW, Ext.refl w⟩⟩
        rw [hd] at h2
        rw [← put_eq (Nat.lt_of_lt_of_le hdN hN) (wpQuiet_slot l _ hother h2)]
        exact calmAt_of_quiet hW (h1 w ⟨hW, Ext.refl w⟩)
      · obtain ⟨v, h1, h2⟩ := h' S hS hne
        rw [hd] at h2 ⊢
        rw [← put_eq (Nat.lt_of_lt_of_le hdN hN) (wpQuiet_slot l _ hother h2)]
        exact h2
    · simp only [hw] at h' ⊢
      exact calm_of_all l _ (by rw [put_size]; exact hN) hs hn2 fun S hS hne => h' S hS hne

/-! ### The blocks that float -/
structure Fl where
  i : Nat
  d : Tmp
  t : TypeId
  z : Value

def Fl.ok (P : Program) (ops : Array Oper) (f : Fl) : Prop :=
  ∃ o, ops[f.i]? = some o ∧ o.op = .alloc f.t ∧ o.dst = some f.d ∧ o.guard = none ∧ o.after = #[] ∧ ∀ w, (zeroValue f.t).run P w = .ok f.z w
def Fl.fresh (W w : World) (x : Fl × Nat) : Prop := W.heap.size ≤ x.2 ∧ x.2 < w.heap.size ∧ w.heap[x.2]? = some (.cells x.1.z.cells x.1.t (0, 0))
theorem Fl.fresh.ext {W w w' : World} {x : Fl × Nat} (h : Fl.fresh W w x) (k : Ext w w') : Fl.fresh W w' x :=
  ⟨h.1, Nat.lt_of_lt_of_le h.2.1 k.size, (Below.block k x.2 h.2.1).trans h.2.2⟩
def putAll : List (Fl × Nat) → Act → Act
  | [], a => a
  | x :: r, a => (putAll r a).put (some x.1.d) (.pointer (some ⟨x.2, 0, none⟩))

theorem putAll_eval {o : Oper} (hs : ∀ cs b, o.op ≠ .select cs b) : ∀ (dn : List (Fl × Nat)) (a : Act), (∀ x ∈ dn, x.1.d ∉ o.looksAt ops) →
    execOp (putAll dn a).eval o = execOp a.eval o ∧ Region.wanted o (yielded ops (putAll dn a).tmps) = Region.wanted o (yielded ops a.tmps)
  | [], _, _ => ⟨rfl, rfl⟩
  | x :: r, a, h => by
    obtain ⟨e1, e2⟩ := putAll_eval hs r a (fun y hy => h y (by simp [hy]))
    have hx : ∀ d, some x.1.d = some d → d ∉ o.looksAt ops := fun d hd => by cases hd; exact h x (by simp)
    exact ⟨(execOp_put (ops := ops) o hs _ _ _ hx).trans e1, (wanted_put o _ _ _ hx).trans e2⟩
theorem putAll_put {dst : Option Tmp} {v : Value} : ∀ (dn : List (Fl × Nat)) (a : Act), (∀ x ∈ dn, dst ≠ some x.1.d) → (putAll dn a).put dst v = putAll dn (a.put dst v)
  | [], _, _ => rfl
  | x :: r, a, h => by
    show ((putAll r a).put (some x.1.d) _).put dst v = (putAll r (a.put dst v)).put (some x.1.d) _
    rw [← putAll_put r a (fun y hy => h y (by simp [hy]))]
    exact Act.put_comm _ _ _ (fun d hd => by cases hd; exact h x (by simp))

/-- Whatever is picked next is of the head, calm, and hands on. -/
def headCalm (P : Program) (md : Region.Mode) (ops : Array Oper) (W : World) (n : Nat) (L : Array Bool → Act → Prop) : Nat → Array Bool → Act → Prop
  | 0, listed, a => L listed a
  | f + 1, listed, a => Region.ready md ops listed ≠ [] ∧ ∀ i ∈ Region.ready md ops listed, i < n ∧ cOp P ops W i (headCalm P md ops W n L f (listed.setIfInBounds i true)) a

/-- The listing in which the blocks that still float count as laid. -/
def Rel (u : List Fl) (lr ls : Array Bool) : Prop := ls.size = lr.size ∧ ∀ j, ls[j]? = if (∃ f ∈ u, f.i = j) then (lr[j]?).map (fun _ => true) else lr[j]?

theorem Rel.nil {lr ls : Array Bool} (h : Rel [] lr ls) : ls = lr := Array.ext_getElem? fun j => by simpa using h.2 j
theorem Rel.up {u : List Fl} {lr ls : Array Bool} (h : Rel u lr ls) {j : Nat} (hj : lr.getD j false = true) : ls.getD j false = true := by
  have := h.2 j
  rw [Array.getD_eq_getD_getElem?] at hj ⊢
  cases hl : lr[j]? with
  | none => simp [hl] at hj
  | some b =>
    simp [hl] at hj
    subst hj
    rw [this, hl]
    split <;> rfl
theorem Rel.keep {u : List Fl} {lr ls : Array Bool} (h : Rel u lr ls) {j : Nat} (hj : ¬ ∃ f ∈ u, f.i = j) (d : Bool) : ls.getD j d = lr.getD j d := by
  have := h.2 j
  rw [if_neg hj] at this
  rw [Array.getD_eq_getD_getElem?, Array.getD_eq_getD_getElem?, this]
theorem Rel.set {u : List Fl} {lr ls : Array Bool} (h : Rel u lr ls) (i : Nat) : Rel u (lr.setIfInBounds i true) (ls.setIfInBounds i true) := by
  refine ⟨by simp [h.1], fun j => ?_⟩
  have hj := h.2 j
  by_cases hij : i = j
  · subst hij
    by_cases hs : i < lr.size
    · rw [Array.getElem?_setIfInBounds_self_of_lt hs, Array.getElem?_setIfInBounds_self_of_lt (by rw [h.1]; exact hs)]
      split <;> rfl
    · rw [Array.getElem?_eq_none (by simp [h.1]; omega), Array.getElem?_eq_none (by simp; omega)]
      split <;> rfl
  · rw [Array.getElem?_setIfInBounds_ne hij, Array.getElem?_setIfInBounds_ne hij, hj]
theorem Rel.lay {u : List Fl} {lr ls : Array Bool} (h : Rel u lr ls) {f : Fl} (hf : f ∈ u) (hn : (u.map (·.i)).Nodup) (hlt : f.i < lr.size) {u' : List Fl} (hu : u.Perm (f :: u')) : Rel u' (lr.setIfInBounds f.i true) ls := by
  refine ⟨by simp [h.1], fun j => ?_⟩
  have hj := h.2 j
  have hn' : ((f :: u').map (·.i)).Nodup := (hu.map _).nodup_iff.1 hn
  simp only [List.map_cons, List.nodup_cons] at hn'
  by_cases hij : f.i = j
  · subst hij
    have h1 : ∃ g ∈ u, g.i = f.i := ⟨f, hf, rfl⟩
    have h2 : ¬ ∃ g ∈ u', g.i = f.i := fun ⟨g, hg, e⟩ => hn'.1 (by rw [← e]; exact List.mem_map_of_mem hg)
    rw [if_pos h1] at hj
    rw [if_neg h2, hj, Array.getElem?_setIfInBounds_self_of_lt hlt, Array.getElem?_eq_getElem hlt]
    rfl
  · have e : (∃ g ∈ u, g.i = j) ↔ (∃ g ∈ u', g.i = j) := by
      constructor
      · rintro ⟨g, hg, e⟩
        rcases List.mem_cons.1 (hu.mem_iff.1 hg) with rfl | hg'
        · exact absurd e hij
        · exact ⟨g, hg', e⟩
      · rintro ⟨g, hg, e⟩
        exact ⟨g, hu.mem_iff.2 (List.mem_cons_of_mem _ hg), e⟩
    rw [Array.getElem?_setIfInBounds_ne hij, hj]
    simp only [e]

theorem alloc_wp {f : Fl} {o : Oper} {a : Act} {w : World} {K : Act → World → Prop} {Q : Exit → Act → World → Prop} (hop : o.op = .alloc f.t) (hd : o.dst = some f.d) (hz : ∀ w, (zeroValue f.t).run P w = .ok f.z w)
    (hK : K (a.put (some f.d) (.pointer (some ⟨w.heap.size, 0, none⟩))) (w.alloc (.cells f.z.cells f.t))) : o.wp P a w K Q := by
  unfold Oper.wp
  have hrun : (execOp a.eval o).run P w = .ok (.value (.pointer (some ⟨w.heap.size, 0, none⟩))) (w.alloc (.cells f.z.cells f.t)) := by
    simp [execOp, hop, Instr.alloc, hz, newVar, newRow, Result.andThen]
  rw [hrun, Oper.upon_value, hd]
  exact hK


/-! ### The head in whatever order -/
def YieldsC (P : Program) (ops : Array Oper) (W : World) (o : Oper) (v : Value) (a : Act) : Prop :=
  (Region.wanted o (yielded ops a.tmps) = true ∧ ∀ w, Ext W w → calmAt P o a w v) ∨ (Region.wanted o (yielded ops a.tmps) = false ∧ v = undef)

theorem YieldsC.cOp {W : World} {i : Nat} {o : Oper} {v : Value} {a : Act} (hi : ops[i]? = some o) (hy : YieldsC P ops W o v a) {K : Act → Prop} (h : K (a.put o.dst v)) : cOp P ops W i K a := by
  unfold Ytaaieejhbpdmoaa.cOp
  simp only [hi]
  rcases hy with ⟨hw, hv⟩ | ⟨hw, rfl⟩
  · simp only [hw, if_true]; exact ⟨v, hv, h⟩
  · simp only [hw, Bool.false_eq_true, if_false]; exact h
theorem YieldsC.of_same {W : World} {o : Oper} {v : Value} {a a' : Act} (hy : YieldsC P ops W o v a) (he : execOp a'.eval o = execOp a.eval o)
    (hw : Region.wanted o (yielded ops a'.tmps) = Region.wanted o (yielded ops a.tmps)) : YieldsC P ops W o v a' := by
  unfold YieldsC calmAt at *
  rw [he, hw]
  exact hy
theorem yieldsC_of_cOp {W : World} {i : Nat} {o : Oper} {a : Act} {K : Act → Prop} (hi : ops[i]? = some o) (h : cOp P ops W i K a) : ∃ v, YieldsC P ops W o v a ∧ K (a.put o.dst v) := by
  unfold cOp at h
  simp only [hi] at h
  by_cases hw : Region.wanted o (yielded ops a.tmps) = true
  · simp only [hw, if_true] at h
    obtain ⟨v, h1, h2⟩ := h
    exact ⟨v, .inl ⟨hw, h1⟩, h2⟩
  · simp only [hw] at h
    exact ⟨undef, .inr ⟨by simpa using hw, rfl⟩, h⟩
theorem cOp_put {W : World} {j : Nat} {oi oj : Oper} {v : Value} (hj : ops[j]? = some oj) (hap : oi.apart ops oj = true) (hsi : ∀ cs b, oi.op ≠ .select cs b) (hsj : ∀ cs b, oj.op ≠ .select cs b) {K : Act → Prop} {a : Act}
    (hy : YieldsC P ops W oi v a) (h : cOp P ops W j K (a.put oi.dst v)) : cOp P ops W j (fun a' => YieldsC P ops W oi v a' ∧ K (a'.put oi.dst v)) a := by
  obtain ⟨h1, h2, h3⟩ := Oper.apart_spec hap
  have keep : ∀ u, YieldsC P ops W oi v (a.put oj.dst u) := fun u => hy.of_same (execOp_put oi hsi a oj.dst u h3) (wanted_put oi a oj.dst u h3)
  obtain ⟨u, hu, hK⟩ := yieldsC_of_cOp hj h
  have hu' : YieldsC P ops W oj u a := by
    unfold YieldsC calmAt at *
    rw [execOp_put oj hsj a oi.dst v h1, wanted_put oj a oi.dst v h1] at hu
    exact hu
  exact hu'.cOp hj ⟨keep u, by rw [← Act.put_comm a v u h2]; exact hK⟩

theorem headCalm_first {W : World} {n i : Nat} {oi : Oper} {v : Value} {L : Array Bool → Act → Prop} (hi : ops[i]? = some oi) (hsel : ∀ (j : Nat) (o : Oper) cs b, ops[j]? = some o → o.op ≠ .select cs b)
    (hs : Region.sinkB md ops n = true) (hc : Region.chainB md ops n = true) (hn : n < ops.size) (hin : i < n) (hdone : ∀ listed a, L listed a → ∀ j ∈ Region.ready md ops listed, n ≤ j) :
    ∀ (f : Nat) (listed : Array Bool) (a : Act), HeadInv md ops n listed →
      (∀ j oj, ops[j]? = some oj → j ≠ i → listed.getD j true = false → (∀ e ∈ oj.after, Region.binds md e = true → e.on ≠ i) → oi.apart ops oj = true) →
      i ∈ Region.ready md ops listed → YieldsC P ops W oi v a →
      headCalm P md ops W n L f (listed.setIfInBounds i true) (a.put oi.dst v) → headCalm P md ops W n L (f + 1) listed a := by
  have step : ∀ (listed : Array Bool) (a : Act) (K : Nat → Act → Prop), HeadInv md ops n listed → i ∈ Region.ready md ops listed →
      (∀ j ∈ Region.ready md ops listed, j < n → cOp P ops W j (K j) a) → Region.ready md ops listed ≠ [] ∧ ∀ j ∈ Region.ready md ops listed, j < n ∧ cOp P ops W j (K j) a := by
    intro listed a K inv hr h
    have hun := (mem_ready.1 hr).1
    refine ⟨fun h0 => (by rw [h0] at hr; cases hr), fun j hj => ?_⟩
    have hjn : j < n := by
      rcases Nat.lt_or_ge j n with h1 | h1
      · exact h1
      · exact absurd hj (tail_waits hs hc hn inv _ i rfl hin hun j h1)
    exact ⟨hjn, h j hj hjn⟩
  intro f
  induction f with
  | zero =>
    intro listed a inv _ hr hy H
    refine step listed a _ inv hr fun j hj hjn => ?_
    by_cases hji : j = i
    · subst hji; exact hy.cOp hi H
    · have := hdone _ _ H j (ready_mono hj hji)
      omega
  | succ f ih =>
    intro listed a inv hfree hr hy H
    refine step listed a _ inv hr fun j hj hjn => ?_
    by_cases hji : j = i
    · subst hji; exact hy.cOp hi H
    · have h1 := (H.2 j (ready_mono hj hji)).2
      obtain ⟨hjun, oj, hoj, hall⟩ := mem_ready.1 hj
      have hun := (mem_ready.1 hr).1
      have hnot : ∀ e ∈ oj.after, Region.binds md e = true → e.on ≠ i := fun e he hb heq => by
        have h1 := hall e he hb
        rw [heq, getD_both hun] at h1
        cases h1
      have h2 := cOp_put hoj (hfree j oj hoj hji hjun hnot) (fun cs b => hsel i oi cs b hi) (fun cs b => hsel j oj cs b hoj) hy h1
      refine cOp_mono (fun a' h3 => ih (listed.setIfInBounds j true) a' (inv.set hj hjn) (fun k ok hk hki hu hno => ?_) (ready_mono hr (Ne.symm hji)) h3.1 ?_) h2
      · refine hfree k ok hk hki ?_ hno
        by_cases hjk : j = k
        · subst hjk; exact hjun
        · rw [getD_set_ne true hjk] at hu; exact hu
      · rw [Array.setIfInBounds_comm _ _ hji]
        exact h3.2

/-- The head's operations in the order of the text, those that float left out. -/
def lexIdx (md : Region.Mode) (ops : Array Oper) (g n : Nat) : List Nat → Array Bool → Bool
  | [], listed => Region.seqB md ops g n listed
  | k :: ks, listed => decide (k < n) && (Region.ready md ops listed).contains k && Region.free md ops listed k && lexIdx md ops g n ks (listed.setIfInBounds k true)

theorem headCalm_lex {W : World} {n g : Nat} {Lq : Act → Prop} (hsel : Region.noSelect ops = true) (hs : Region.sinkB md ops n = true) (hc : Region.chainB md ops n = true) (hn : n < ops.size) :
    ∀ (ks : List Nat) (l : List Oper) (listed : Array Bool) (a : Act), l.map some = ks.map (ops[·]?) → HeadInv md ops n listed →
    lexIdx md ops g n ks listed = true → wpCalm P ops W Lq l a → headCalm P md ops W n (fun listed' a' => Region.seqB md ops g n listed' = true ∧ Lq a') ks.length listed a := by
  intro ks
  induction ks with
  | nil =>
    intro l listed a hl _ hB h
    obtain rfl : l = [] := by simpa using hl
    exact ⟨hB, h⟩
  | cons k ks ih =>
    intro l listed a hl inv hB h
    match l, hl with
    | o :: l, hl =>
      simp only [List.map_cons, List.cons.injEq] at hl
      obtain ⟨h0, hl⟩ := hl
      have h0 := h0.symm
      simp only [lexIdx, Bool.and_eq_true, decide_eq_true_eq] at hB
      obtain ⟨⟨⟨hkn, hr⟩, hf⟩, hB'⟩ := hB
      have hr' : k ∈ Region.ready md ops listed := by simpa using hr
      have hst : cOp P ops W k (wpCalm P ops W Lq l) a := by unfold cOp; simp only [h0]; exact h
      obtain ⟨v, hy, hK⟩ := yieldsC_of_cOp h0 hst
      exact headCalm_first h0 (Region.noSelect_spec hsel) hs hc hn hkn (fun listed' a' hL => seqB_ready hL.1) ks.length listed a inv (Region.free_spec h0 hf) hr' hy
        (ih l _ _ hl (inv.set hr' hkn) hB' hK)

/-! ### The whole region -/
theorem getD_set_any {l : Array Bool} {i j : Nat} (h : l.getD j true = true) : (l.setIfInBounds i true).getD j true = true := by
  by_cases hij : i = j
  · subst hij
    by_cases hs : i < l.size
    · rw [Array.getD_eq_getD_getElem?, Array.getElem?_setIfInBounds_self_of_lt hs]; rfl
    · rw [Array.getD_eq_getD_getElem?, Array.getElem?_eq_none (by simp; omega)]; rfl
  · rw [getD_set_ne true hij]; exact h

theorem float_any {W : World} {n g : Nat} {fl : List Fl} {L : Array Bool → Act → Prop} {Q : Exit → Act → World → Prop} (hfl : ∀ f ∈ fl, f.ok P ops) (hsel : ∀ (j : Nat) (o : Oper) cs b, ops[j]? = some o → o.op ≠ .select cs b)
    (hlt : ∀ f ∈ fl, f.i < ops.size) (hwait : ∀ f ∈ fl, Region.waitsFor md ops n f.i = true)
    (hap : ∀ f ∈ fl, ∀ o, ops[f.i]? = some o → ∀ j oj, ops[j]? = some oj → j < n → j ≠ f.i → o.apart ops oj = true)
    (hdone : ∀ listed a, L listed a → ∀ j ∈ Region.ready md ops listed, j = n)
    (hL : ∀ listed a w dn, Ext W w → L listed a → (dn.map (·.1)).Perm fl → (∀ x ∈ dn, Fl.fresh W w x) → (dn.map (·.2)).Nodup → wpAny P md ops Q g listed (putAll dn a) w) :
    ∀ (N f : Nat) (u : List Fl) (lr ls : Array Bool) (a : Act) (dn : List (Fl × Nat)) (w : World), N = f + u.length → Ext W w → (dn.map (·.1) ++ u).Perm fl → (fl.map (·.i)).Nodup →
      (∀ x ∈ u, lr.getD x.i true = false) → (∀ x ∈ dn, lr.getD x.1.i true = true) → lr.size = ops.size → Rel u lr ls → headCalm P md ops W n L f ls a → (∀ x ∈ dn, Fl.fresh W w x) → (dn.map (·.2)).Nodup →
      wpAny P md ops Q (N + g) lr (putAll dn a) w := by
  intro N
  induction N with
  | zero =>
    intro f u lr ls a dn w hN hW hp _ _ _ _ hR hH hfr hnd
    obtain rfl : f = 0 := by omega
    obtain rfl : u = [] := List.eq_nil_of_length_eq_zero (by omega)
    obtain rfl := hR.nil
    rw [Nat.zero_add]
    exact hL _ _ _ _ hW hH (by simpa using hp) hfr hnd
  | succ N ih =>
    intro f u lr ls a dn w hN hW hp hnod hun hdl hsz hR hH hfr hnd
    rw [show N + 1 + g = (N + g) + 1 by omega]
    have memU : ∀ x ∈ u, x ∈ fl := fun x hx => hp.mem_iff.1 (List.mem_append_right _ hx)
    have memD : ∀ x ∈ dn, x.1 ∈ fl := fun x hx => hp.mem_iff.1 (List.mem_append_left _ (List.mem_map_of_mem hx))
    have hnu : (u.map (·.i)).Nodup := by
      have := (hp.map (·.i)).nodup_iff.2 hnod
      rw [List.map_append] at this
      exact (List.nodup_append.1 this).2.1
    refine ⟨fun h0 => ?_, fun i hi => ?_⟩
    · exfalso
      match u, hun, memU, hN, hR with
      | x :: u, hun, memU, _, _ =>
        obtain ⟨o, ho, _, _, _, haf, _⟩ := hfl x (memU x (by simp))
        have : x.i ∈ Region.ready md ops lr := mem_ready.2 ⟨hun x (by simp), o, ho, fun e he => by rw [haf] at he; simp at he⟩
        rw [h0] at this
        cases this
      | [], _, _, hN, hR =>
        obtain rfl := hR.nil
        obtain ⟨f', rfl⟩ : ∃ f', f = f' + 1 := ⟨f - 1, by simp at hN; omega⟩
        exact hH.1 h0
    · by_cases hiu : ∃ x ∈ u, x.i = i
      · obtain ⟨x, hx, rfl⟩ := hiu
        obtain ⟨o, ho, hop, hd, hg, haf, hz⟩ := hfl x (memU x hx)
        obtain ⟨u', hu'⟩ : ∃ u', u.Perm (x :: u') := by
          obtain ⟨l1, l2, rfl⟩ := List.append_of_mem hx
          exact ⟨l1 ++ l2, List.perm_middle⟩
        have hlen : u.length = u'.length + 1 := by simpa using hu'.length_eq
        unfold wpOp
        simp only [ho]
        rw [if_pos (by simp [Region.wanted, hg])]
        refine .inl (alloc_wp hop hd hz ?_)
        have hfx : Fl.fresh W (w.alloc (.cells x.z.cells x.t)) (x, w.heap.size) := ⟨hW.size, by simp, by show (w.heap.push _)[w.heap.size]? = _; simp⟩
        refine ih f u' _ ls a ((x, w.heap.size) :: dn) _ (by omega) (hW.alloc _) ?_ hnod ?_ ?_ (by simpa using hsz) (hR.lay hx hnu (by rw [hsz]; exact hlt x (memU x hx)) hu') hH ?_ ?_
        · refine List.Perm.trans ?_ hp
          simp only [List.map_cons, List.cons_append]
          exact (List.perm_middle.symm).trans (List.Perm.append_left _ hu'.symm)
        · intro y hy
          have hyu : y ∈ u := hu'.mem_iff.2 (List.mem_cons_of_mem _ hy)
          have hne : x.i ≠ y.i := by
            have := (hu'.map (·.i)).nodup_iff.1 hnu
            simp only [List.map_cons, List.nodup_cons] at this
            exact fun e => this.1 (by rw [e]; exact List.mem_map_of_mem hy)
          rw [getD_set_ne true hne]
          exact hun y hyu
        · intro y hy
          rcases List.mem_cons.1 hy with rfl | hy
          · simp
          · exact getD_set_any (hdl y hy)
        · intro y hy
          rcases List.mem_cons.1 hy with rfl | hy
          · exact hfx
          · exact (hfr y hy).ext ((Ext.refl w).alloc _)
        · simp only [List.map_cons, List.nodup_cons]
          refine ⟨fun hm => ?_, hnd⟩
          obtain ⟨y, hy, e⟩ := List.mem_map.1 hm
          have := (hfr y hy).2.1
          omega
      · obtain ⟨hiun, oi, hoi, hall⟩ := mem_ready.1 hi
        have hrs : i ∈ Region.ready md ops ls := mem_ready.2 ⟨by rw [hR.keep hiu]; exact hiun, oi, hoi, fun e he hb => hR.up (hall e he hb)⟩
        match f, hN, hH with
        | 0, hN, hH =>
          exfalso
          obtain rfl := hdone _ _ hH i hrs
          match u, hun, memU, hN with
          | x :: u, hun, memU, _ =>
            obtain ⟨o', ho', e, he, hb, hon⟩ := Region.waitsFor_spec (hwait x (memU x (by simp)))
            have : o' = oi := Option.some.inj (ho'.symm.trans hoi)
            subst this
            have h2 := hall e he hb
            rw [hon, getD_both (hun x (by simp))] at h2
            cases h2
          | [], _, _, hN => simp at hN
        | f + 1, hN, hH =>
          obtain ⟨hin, hcop⟩ := hH.2 i hrs
          obtain ⟨v, hy, hK⟩ := yieldsC_of_cOp hoi hcop
          have hsi : ∀ cs b, oi.op ≠ .select cs b := fun cs b => hsel i oi cs b hoi
          have hapart : ∀ x ∈ fl, x.i ≠ i → (∀ d, some x.d = some d → d ∉ oi.looksAt ops) ∧ oi.dst ≠ some x.d := fun x hx hne => by
            obtain ⟨o, ho, _, hd, _⟩ := hfl x hx
            obtain ⟨h1, h2, _⟩ := Oper.apart_spec (hap x hx o ho i oi hoi hin (Ne.symm hne))
            rw [hd] at h1 h2
            exact ⟨h1, h2 x.d rfl⟩
          have hdi : ∀ x ∈ dn, x.1.i ≠ i := fun x hx e => by
            have h1 := hdl x hx
            rw [e, hiun] at h1
            cases h1
          obtain ⟨e1, e2⟩ := putAll_eval (ops := ops) hsi dn a (fun x hx => (hapart x.1 (memD x hx) (hdi x hx)).1 _ rfl)
          have e3 : ∀ v, (putAll dn a).put oi.dst v = putAll dn (a.put oi.dst v) := fun v => putAll_put dn a (fun x hx => (hapart x.1 (memD x hx) (hdi x hx)).2)
          have next : ∀ w', Ext w w' → wpAny P md ops Q (N + g) (lr.setIfInBounds i true) (putAll dn (a.put oi.dst v)) w' := fun w' hw' =>
            ih f u _ _ _ dn w' (by omega) (hW.trans hw') hp hnod (fun y hy => by
              rw [getD_set_ne true (fun e => hiu ⟨y, hy, e.symm⟩)]
              exact hun y hy) (fun y hy => getD_set_any (hdl y hy)) (by simpa using hsz) (hR.set i) hK (fun x hx => (hfr x hx).ext hw') hnd
          unfold wpOp
          simp only [hoi]
          rcases hy with ⟨hw, hv⟩ | ⟨hw, rfl⟩
          · rw [if_pos (by rw [e2]; exact hw)]
            refine .inl (wp_of_calmAt (v := v) ?_ fun w' hw' => by rw [e3]; exact next w' hw')
            have := hv w hW
            unfold calmAt at this ⊢
            rw [e1]
            exact this
          · rw [if_neg (by rw [e2, hw]; exact Bool.false_ne_true), e3]
            exact next w (Ext.refl w)


/-- What is asked of a region with floating blocks: 'is': where they stand. -/
def floatB (ops : Array Oper) (n N : Nat) (is : List Nat) (hd : List Oper) : Bool :=
  Region.noSelect ops && decide (n < ops.size) && Region.sinkB .any ops n && Region.chainB .any ops n &&
  is.all (fun i => decide (i < n) && Region.waitsFor .any ops n i && (List.range n).all fun j => j == i || (match ops[i]?, ops[j]? with | some o, some oj => o.apart ops oj | _, _ => false)) &&
  decide is.Nodup && lexIdx .any ops (ops.size - n) n ((List.range n).filter fun i => !is.contains i) (is.foldl (fun l i => l.setIfInBounds i true) (Array.replicate ops.size false)) &&
  (hd.all fun o => match o.dst with | some d => decide (d < N) | none => false) && decide ((hd.map (·.dst)).Nodup) && decide (((List.range n).filter fun i => !is.contains i).length + is.length = n)

theorem listed_get (m : Nat) : ∀ (is : List Nat) (l : Array Bool), l.size = m → (∀ i ∈ is, i < m) → ∀ j, (is.foldl (fun l i => l.setIfInBounds i true) l)[j]? = if (∃ i ∈ is, i = j) then (l[j]?).map (fun _ => true) else l[j]?
  | [], l, _, _, j => by simp
  | i :: is, l, hs, hi, j => by
    rw [List.foldl_cons, listed_get m is (l.setIfInBounds i true) (by simpa using hs) (fun k hk => hi k (by simp [hk])) j]
    by_cases hij : i = j
    · subst hij
      rw [Array.getElem?_setIfInBounds_self_of_lt (by rw [hs]; exact hi i (by simp)), Array.getElem?_eq_getElem (by rw [hs]; exact hi i (by simp))]
      have e : (∃ k ∈ i :: is, k = i) := ⟨i, by simp, rfl⟩
      rw [if_pos e]
      split <;> rfl
    · rw [Array.getElem?_setIfInBounds_ne hij]
      have e : (∃ k ∈ is, k = j) ↔ (∃ k ∈ i :: is, k = j) := by
        constructor
        · rintro ⟨k, hk, e⟩; exact ⟨k, by simp [hk], e⟩
        · rintro ⟨k, hk, e⟩
          rcases List.mem_cons.1 hk with rfl | hk
          · exact absurd e hij
          · exact ⟨k, hk, e⟩
      simp only [e]

theorem wp_region_float {id : Nat} {Q : Exit → Act → World → Prop} {a : Act} {w : World} {l : List Oper} (n N : Nat) (fl : List Fl) (hd : List Oper) (hm : P.follows .mixedOrders = true) (hfl : ∀ f ∈ fl, f.ok P l.toArray)
    (hB : floatB l.toArray n N (fl.map (·.i)) hd = true) (hhd : hd.map some = (((List.range n).filter fun i => !(fl.map (·.i)).contains i)).map (l.toArray[·]?)) (hN : N ≤ a.tmps.size)
    (h : ∃ A, (∀ S, Stable S → Nonempty (ExtS w S) → wpQuiet P l.toArray (clsOf w S) (fun a' => a' = A) hd a) ∧
      ∀ w' dn, Ext w w' → (dn.map (·.1)).Perm fl → (∀ x ∈ dn, Fl.fresh w w' x) → (dn.map (·.2)).Nodup → wpList P l.toArray Q (l.drop n) (putAll dn A) w') : (Code.region id l.toArray true).wp P Q a w := by
  obtain ⟨A, hA, hK⟩ := h
  simp only [floatB, Bool.and_eq_true, decide_eq_true_eq] at hB
  obtain ⟨⟨⟨⟨⟨⟨⟨⟨⟨hsel, hn⟩, hs⟩, hc⟩, hfl2⟩, hnod⟩, hlex⟩, hdst⟩, hdn⟩, hcnt⟩ := hB
  have hn' : n < l.length := by simpa using hn
  have hf2 : ∀ f ∈ fl, f.i < n ∧ Region.waitsFor .any l.toArray n f.i = true ∧ ∀ j, j < n → j ≠ f.i → ∀ o oj, l.toArray[f.i]? = some o → l.toArray[j]? = some oj → o.apart l.toArray oj = true := fun f hf => by
    have := List.all_eq_true.1 hfl2 f.i (List.mem_map_of_mem hf)
    simp only [Bool.and_eq_true, decide_eq_true_eq] at this
    refine ⟨this.1.1, this.1.2, fun j hj hne o oj ho hoj => ?_⟩
    have := List.all_eq_true.1 this.2 j (List.mem_range.2 hj)
    rw [ho, hoj] at this
    simpa [hne] using this
  have hcalm := calm_of_all (W := w) hd a hN hdst hdn hA
  have hget := listed_get l.toArray.size (fl.map (·.i)) (Array.replicate l.toArray.size false) (by simp) (fun i hi => by
    obtain ⟨f, hf, rfl⟩ := List.mem_map.1 hi
    have := (hf2 f hf).1
    omega)
  have hszl : ∀ (is : List Nat) (l0 : Array Bool), (is.foldl (fun l i => l.setIfInBounds i true) l0).size = l0.size := fun is => by
    induction is with
    | nil => intro l0; rfl
    | cons i is ih => intro l0; rw [List.foldl_cons, ih]; simp
  have hR : Rel fl (Array.replicate l.toArray.size false) ((fl.map (·.i)).foldl (fun l i => l.setIfInBounds i true) (Array.replicate l.toArray.size false)) := by
    refine ⟨hszl _ _, fun j => ?_⟩
    rw [hget j]
    have e : (∃ i ∈ fl.map (·.i), i = j) ↔ (∃ f ∈ fl, f.i = j) := by
      constructor
      · rintro ⟨i, hi, rfl⟩
        obtain ⟨f, hf, rfl⟩ := List.mem_map.1 hi
        exact ⟨f, hf, rfl⟩
      · rintro ⟨f, hf, rfl⟩
        exact ⟨_, List.mem_map_of_mem hf, rfl⟩
    simp only [e]
  have inv0 : HeadInv .any l.toArray n ((fl.map (·.i)).foldl (fun l i => l.setIfInBounds i true) (Array.replicate l.toArray.size false)) := by
    refine ⟨by rw [hszl]; simp, fun j oj hj hl e he _ => ?_, fun t ht ht' => ?_⟩
    · by_cases hjf : ∃ f ∈ fl, f.i = j
      · obtain ⟨f, hf, rfl⟩ := hjf
        obtain ⟨o, ho, _, _, _, haf, _⟩ := hfl f hf
        have : o = oj := Option.some.inj (ho.symm.trans hj)
        subst this
        rw [haf] at he
        simp at he
      · rw [hR.keep hjf, getD_replicate_false] at hl
        cases hl
    · have hjf : ¬ ∃ f ∈ fl, f.i = t := fun ⟨f, hf, e⟩ => by have := (hf2 f hf).1; omega
      rw [hR.keep hjf]
      exact getD_in (by simpa using ht') (getD_replicate_false _ _)
  have H := headCalm_lex (md := .any) (g := l.toArray.size - n) hsel hs hc hn _ hd _ a hhd inv0 hlex hcalm
  have hdl : (l.drop n).length = l.toArray.size - n := by simp
  have hgpos : 0 < l.toArray.size - n := by omega
  refine wp_region_any hm ?_
  have := float_any (md := .any) (Q := Q) (g := l.toArray.size - n) (fl := fl) hfl (Region.noSelect_spec hsel) (fun f hf => by have := (hf2 f hf).1; omega) (fun f hf => (hf2 f hf).2.1)
    (fun f hf o ho j oj hoj hj hne => (hf2 f hf).2.2 j hj hne o oj ho hoj)
    (fun listed a' hL' j hj => by
      have hs' := hL'.1
      obtain ⟨k, hk⟩ : ∃ k, l.toArray.size - n = k + 1 := ⟨l.toArray.size - n - 1, by omega⟩
      rw [hk] at hs'
      simp only [Region.seqB, Bool.and_eq_true, decide_eq_true_eq] at hs'
      rw [hs'.1] at hj
      simpa using hj)
    (fun listed a' w' dn hW' hL' hp hfr hnd => by
      obtain ⟨hs', rfl⟩ := hL'
      have := wpAny_of_seq (md := .any) (Q' := Q) (l.drop n) n listed (putAll dn a') w' (fun j => by simp [List.getElem?_drop]) (by rw [hdl]; exact hs') (hK w' dn hW' hp hfr hnd)
      rwa [hdl] at this)
    _ _ fl _ _ a [] _ rfl (Ext.refl w).drew (by simp) hnod (fun x hx => getD_in (by have := (hf2 x hx).1; simp; omega) (getD_replicate_false _ _)) (fun x hx => by cases hx) (by simp) hR H (fun x hx => by cases hx) (by simp)
  have hcount : ((List.range n).filter fun i => !(fl.map (·.i)).contains i).length + fl.length + (l.toArray.size - n) = l.toArray.size := by
    rw [List.length_map] at hcnt
    omega
  rw [hcount] at this
  exact this

end

/-! ### For the walk -/
section
variable {W : World} {S : World → Prop} (x : ExtS W S)
theorem ExtS.ext : Ext W x.w := x.2.1
@[simp, go_sem] theorem ExtS.cell {b o : Nat} (h : b < W.heap.size) : x.w.cell? ⟨b, o, none⟩ = W.cell? ⟨b, o, none⟩ := Below.cell x.2.1 (p := ⟨b, o, none⟩) h
@[simp, go_sem] theorem ExtS.frozen {b o : Nat} (h : b < W.heap.size) : x.w.frozen? ⟨b, o, none⟩ = W.frozen? ⟨b, o, none⟩ := Below.frozen x.2.1 (p := ⟨b, o, none⟩) h
@[simp, go_sem] theorem ExtS.lt {b : Nat} (h : b < W.heap.size) : b < x.w.heap.size := Nat.lt_of_lt_of_le h (Ext.size x.2.1)
theorem Ext.vals {a : World} (h : Ext a W) : Ext a x.w := h.trans x.2.1
end
theorem clsOf_eq {W : World} {S : World → Prop} (w : World) : clsOf W S w ↔ ∃ x : ExtS W S, w = x.w := ⟨fun h => ⟨⟨w, h⟩, rfl⟩, fun ⟨x, e⟩ => by rw [e]; exact x.2⟩
theorem Calls.exts_of {P : Program} {f : FuncId} {args : Array Value} {W : World} {S : World → Prop} {x : ExtS W S} {v : Value} (hS : Stable S)
    (h : Calls P f args x.w fun e w' => e = .returned v ∧ Ext x.w w') : Calls P f args x.w fun e w'' => e = .returned v ∧ ∃ y : ExtS W S, w'' = y.w :=
  h.mono fun _ w' ⟨he, hm⟩ => ⟨he, ⟨w', x.2.1.trans hm, hS _ _ x.2.2 hm⟩, rfl⟩
theorem Calls.exts_of_same {P : Program} {f : FuncId} {args : Array Value} {W : World} {S : World → Prop} {x : ExtS W S} {v : Value} (_hS : Stable S)
    (h : Calls P f args x.w fun e w' => e = .returned v ∧ x.w = w') : Calls P f args x.w fun e w'' => e = .returned v ∧ ∃ y : ExtS W S, w'' = y.w :=
  h.mono fun _ _ ⟨he, hm⟩ => ⟨he, x, hm.symm⟩

/-- One floating block: '(i, d, t)': the operation's place, its slot, its type. -/
theorem wp_region_float1 {P : Program} {id : Nat} {Q : Exit → Act → World → Prop} {a : Act} {w : World} {l : List Oper} (n N i d : Nat) (t : TypeId) (z : Value) (hm : P.follows .mixedOrders = true) (hz : ∀ w, (zeroValue t).run P w = .ok z w)
    (hok : (match l.toArray[i]? with | some o => (match o.op with | .alloc t' => t' == t | _ => false) && o.dst == some d && o.guard.isNone && o.after.size == 0 | none => false) = true)
    (hB : floatB l.toArray n N [i] ((l.take n).eraseIdx i) = true) (hhd : ((l.take n).eraseIdx i).map some = (((List.range n).filter fun j => !([i] : List Nat).contains j)).map (l.toArray[·]?)) (hN : Nat.ble N a.tmps.size = true)
    (h : ∃ A, (∀ S, Stable S → Nonempty (ExtS w S) → wpQuiet P l.toArray (fun w' => ∃ x : ExtS w S, w' = x.w) (fun a' => a' = A) ((l.take n).eraseIdx i) a) ∧
      ∀ (x : ExtOf w) (g : Nat), w.heap.size ≤ g → g < x.w.heap.size → x.w.heap[g]? = some (.cells z.cells t (0, 0)) → wpList P l.toArray Q (l.drop n) (A.put (some d) (.pointer (some ⟨g, 0, none⟩))) x.w) : (Code.region id l.toArray true).wp P Q a w := by
  obtain ⟨A, hA, hK⟩ := h
  refine wp_region_float n N [⟨i, d, t, z⟩] _ hm (fun f hf => ?_) hB hhd (Nat.le_of_ble_eq_true hN) ⟨A, fun S hS hne => ?_, fun w' dn hW hp hfr _ => ?_⟩
  · obtain rfl : f = ⟨i, d, t, z⟩ := by simpa using hf
    split at hok
    · rename_i o ho
      simp only [Bool.and_eq_true, beq_iff_eq, Option.isNone_iff_eq_none] at hok
      obtain ⟨⟨⟨h1, h2⟩, h3⟩, h4⟩ := hok
      refine ⟨o, ho, ?_, h2, h3, Array.eq_empty_of_size_eq_zero h4, hz⟩
      split at h1
      · rename_i t' e
        rw [e]
        simp at h1
        rw [h1]
      · cases h1
    · cases hok
  · have e : clsOf w S = fun w' => ∃ x : ExtS w S, w' = x.w := funext fun w' => propext (clsOf_eq w')
    rw [e]
    exact hA S hS hne
  · have h1 : dn.length = 1 := by simpa using hp.length_eq
    match dn, h1 with
    | [x], _ =>
      have hx : x.1 = ⟨i, d, t, z⟩ := by simpa using hp
      obtain ⟨f, g⟩ := x
      subst hx
      obtain ⟨f1, f2, f3⟩ := hfr _ (List.mem_singleton.2 rfl)
      exact hK ⟨w', hW⟩ g f1 f2 f3
/-- What a floating block gives the walk. -/
theorem block_cells {w : World} {g : Nat} {cs : Array Value} {t : TypeId} (h : w.heap[g]? = some (.cells cs t (0, 0))) : (∀ j, w.cell? ⟨g, j, none⟩ = cs[j]?) ∧ (∀ j, w.frozen? ⟨g, j, none⟩ = false) :=
  ⟨fun j => cell_of_row w g j cs t (0, 0) h, fun j => frozen_of_row w g j cs t h⟩
end Go.Proofs.Ytaaieejhbpdmoaa
