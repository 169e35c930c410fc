/- Regions that draw their order: new blocks float, and a component of a tuple may be taken late. No conditions. -/
import Derived.Test.YtaaieejhbpdmoaaFloat
namespace Go.Proofs.Ytaaieejhbpdmoaa
open Go.RowKit

section
variable {P : Program} {ops : Array Oper} {md : Region.Mode}

def onlyLate (n : Nat) (late : List Nat) (ls : Array Bool) : Bool := (List.range n).all fun j => ls.getD j true || late.contains j
def sinkL (md : Region.Mode) (ops : Array Oper) (n : Nat) (late : List Nat) : Bool :=
  (List.range n).all fun i => late.contains i || (List.range (n + 1)).any fun j => decide (i < j) && !late.contains j && Region.waitsFor md ops j i

theorem tailL_waits {n : Nat} {late : List Nat} {listed : Array Bool} (hs : sinkL md ops n late = true) (hc : Region.chainB md ops n = true) (inv : HeadInv md ops n listed) :
    ∀ (d i : Nat), n - i = d → i < n → late.contains i = false → listed.getD i true = false → ∀ t, n ≤ t → t ∉ Region.ready md ops listed := by
  intro d
  induction d using Nat.strongRecOn with
  | _ d ih =>
    intro i hd hi hil hun t ht hr
    obtain ⟨_, ot, hot, hall⟩ := mem_ready.1 hr
    have htlt : t < ops.size := (Array.getElem?_eq_some_iff.1 hot).1
    by_cases htn : t = n
    · subst htn
      have h1 := List.all_eq_true.1 hs i (List.mem_range.2 hi)
      rw [hil, Bool.false_or] at h1
      obtain ⟨j, hj, hj2⟩ := List.any_eq_true.1 h1
      simp only [Bool.and_eq_true, decide_eq_true_eq, Bool.not_eq_true'] at hj2
      obtain ⟨⟨hij, hjl⟩, hwt⟩ := hj2
      obtain ⟨oj, hoj, e, he, hb, hon⟩ := Region.waitsFor_spec hwt
      have hjle : j ≤ t := by have := List.mem_range.1 hj; omega
      by_cases hjt : j = t
      · subst hjt
        obtain rfl : oj = ot := Option.some.inj (hoj.symm.trans hot)
        have h2 := hall e he hb
        rw [hon, getD_both hun] at h2
        cases h2
      · cases hl : listed.getD j false with
        | true =>
          have h2 := inv.closed j oj hoj hl e he hb
          rw [hon, getD_both hun] at h2
          cases h2
        | false => exact ih (t - j) (by omega) j rfl (by omega) hjl (getD_in (by rw [inv.size]; omega) hl) t (Nat.le_refl _) hr
    · have h1 := List.all_eq_true.1 hc t (List.mem_range.2 htlt)
      simp only [Bool.or_eq_true, decide_eq_true_eq] at h1
      rcases h1 with h1 | h1
      · omega
      · obtain ⟨o', ho', e, he, hb, hon⟩ := Region.waitsFor_spec h1
        obtain rfl : o' = ot := Option.some.inj (ho'.symm.trans hot)
        have h2 := hall e he hb
        rw [hon, getD_both (inv.tail (t - 1) (by omega) (by omega))] at h2
        cases h2

def headL (P : Program) (md : Region.Mode) (ops : Array Oper) (W : World) (n : Nat) (late : List Nat) (L : Array Bool → Act → Prop) (G : Nat → Array Bool → Act → Prop) : Nat → Array Bool → Act → Prop
  | 0, ls, a => L ls a
  | f + 1, ls, a => (∃ i ∈ Region.ready md ops ls, i < n) ∧ (∀ i ∈ Region.ready md ops ls, i < n → cOp P ops W i (headL P md ops W n late L G f (ls.setIfInBounds i true)) a) ∧
      (onlyLate n late ls = false → ∀ i ∈ Region.ready md ops ls, i < n) ∧ (onlyLate n late ls = true → G (f + 1) ls a)

/-- What a late operation may do for G. -/
def Late (P : Program) (md : Region.Mode) (ops : Array Oper) (W : World) (n : Nat) (late : List Nat) (G : Nat → Array Bool → Act → Prop) : Prop :=
  ∀ (k : Nat) (ls : Array Bool) (a : Act) (i : Nat) (oi : Oper) (v : Value), ops[i]? = some oi → i < n → late.contains i = true → i ∈ Region.ready md ops ls → YieldsC P ops W oi v a →
    (∀ j oj, ops[j]? = some oj → j ≠ i → ls.getD j true = false → (∀ e ∈ oj.after, Region.binds md e = true → e.on ≠ i) → oi.apart ops oj = true) → G k (ls.setIfInBounds i true) (a.put oi.dst v) → G (k + 1) ls a

theorem onlyLate_set {n i : Nat} {late : List Nat} {ls : Array Bool} (h : onlyLate n late ls = true) : onlyLate n late (ls.setIfInBounds i true) = true := by
  refine List.all_eq_true.2 fun j hj => ?_
  have := List.all_eq_true.1 h j hj
  simp only [Bool.or_eq_true] at this ⊢
  exact this.imp getD_set_any id

theorem headL_first {W : World} {n i : Nat} {late : List Nat} {oi : Oper} {v : Value} {L : Array Bool → Act → Prop} {G : Nat → Array Bool → Act → Prop} (hi : ops[i]? = some oi) (hsel : ∀ (j : Nat) (o : Oper) cs b, ops[j]? = some o → o.op ≠ .select cs b)
    (hs : sinkL md ops n late = true) (hc : Region.chainB md ops n = true) (hin : i < n) (hdone : ∀ listed a, L listed a → ∀ j ∈ Region.ready md ops listed, n ≤ j)
    (hG0 : ∀ ls a, L ls a → G 0 ls a) (hG : Late P md ops W n late G) :
    ∀ (f : Nat) (listed : Array Bool) (a : Act), HeadInv md ops n listed →
      (∀ j oj, ops[j]? = some oj → j ≠ i → listed.getD j true = false → (∀ e ∈ oj.after, Region.binds md e = true → e.on ≠ i) → oi.apart ops oj = true) →
      i ∈ Region.ready md ops listed → YieldsC P ops W oi v a → headL P md ops W n late L G f (listed.setIfInBounds i true) (a.put oi.dst v) → headL P md ops W n late L G (f + 1) listed a := by
  have comp3 : ∀ (listed : Array Bool), HeadInv md ops n listed → onlyLate n late listed = false → ∀ j ∈ Region.ready md ops listed, j < n := by
    intro listed inv ho j hj
    rcases Nat.lt_or_ge j n with h1 | h1
    · exact h1
    · obtain ⟨k, hk, hk2⟩ : ∃ k, k < n ∧ (listed.getD k true || late.contains k) = false := by
        rcases Classical.em (∃ k, k < n ∧ (listed.getD k true || late.contains k) = false) with h | h
        · exact h
        · have : onlyLate n late listed = true := List.all_eq_true.2 fun k hk => by
            cases hb : (listed.getD k true || late.contains k) with
            | true => rfl
            | false => exact absurd ⟨k, List.mem_range.1 hk, hb⟩ h
          rw [this] at ho
          cases ho
      simp only [Bool.or_eq_false_iff] at hk2
      exact absurd hj (tailL_waits hs hc inv _ k rfl hk hk2.2 hk2.1 j h1)
  have lateI : ∀ (listed : Array Bool), onlyLate n late listed = true → listed.getD i true = false → late.contains i = true := by
    intro listed ho hun
    have := List.all_eq_true.1 ho i (List.mem_range.2 hin)
    rw [hun, Bool.false_or] at this
    exact this
  intro f
  induction f with
  | zero =>
    intro listed a inv hfree hr hy H
    have hun := (mem_ready.1 hr).1
    refine ⟨⟨i, hr, hin⟩, fun j hj hjn => ?_, comp3 listed inv, fun ho => hG 0 listed a i oi v hi hin (lateI _ ho hun) hr hy hfree (hG0 _ _ H)⟩
    by_cases hji : j = i
    · subst hji; exact hy.cOp hi H
    · have := hdone _ _ H j (ready_mono hj hji)
      omega
  | succ f ih =>
    intro listed a inv hfree hr hy H
    have hun := (mem_ready.1 hr).1
    refine ⟨⟨i, hr, hin⟩, fun j hj hjn => ?_, comp3 listed inv, fun ho => hG _ listed a i oi v hi hin (lateI _ ho hun) hr hy hfree (H.2.2.2 (onlyLate_set ho))⟩
    by_cases hji : j = i
    · subst hji; exact hy.cOp hi H
    · have h1 := H.2.1 j (ready_mono hj hji) hjn
      obtain ⟨hjun, oj, hoj, hall⟩ := mem_ready.1 hj
      have hnot : ∀ e ∈ oj.after, Region.binds md e = true → e.on ≠ i := fun e he hb heq => by
        have h1 := hall e he hb
        rw [heq, getD_both hun] at h1
        cases h1
      have h2 := cOp_put hoj (hfree j oj hoj hji hjun hnot) (fun cs b => hsel i oi cs b hi) (fun cs b => hsel j oj cs b hoj) hy h1
      refine cOp_mono (fun a' h3 => ih (listed.setIfInBounds j true) a' (inv.set hj hjn) (fun k ok hk hki hu hno => ?_) (ready_mono hr (Ne.symm hji)) h3.1 ?_) h2
      · refine hfree k ok hk hki ?_ hno
        by_cases hjk : j = k
        · subst hjk; exact hjun
        · rw [getD_set_ne true hjk] at hu; exact hu
      · rw [Array.setIfInBounds_comm _ _ hji]
        exact h3.2

theorem headL_lex {W : World} {n g : Nat} {late : List Nat} {Lq : Act → Prop} {G : Nat → Array Bool → Act → Prop} (hsel : Region.noSelect ops = true) (hs : sinkL md ops n late = true) (hc : Region.chainB md ops n = true)
    (hG0 : ∀ ls a, (Region.seqB md ops g n ls = true ∧ Lq a) → G 0 ls a) (hG : Late P md ops W n late G) :
    ∀ (ks : List Nat) (l : List Oper) (listed : Array Bool) (a : Act), l.map some = ks.map (ops[·]?) → HeadInv md ops n listed →
    lexIdx md ops g n ks listed = true → wpCalm P ops W Lq l a → headL P md ops W n late (fun listed' a' => Region.seqB md ops g n listed' = true ∧ Lq a') G ks.length listed a := by
  intro ks
  induction ks with
  | nil =>
    intro l listed a hl _ hB h
    obtain rfl : l = [] := by simpa using hl
    exact ⟨hB, h⟩
  | cons k ks ih =>
    intro l listed a hl inv hB h
    match l, hl with
    | o :: l, hl =>
      simp only [List.map_cons, List.cons.injEq] at hl
      obtain ⟨h0, hl⟩ := hl
      have h0 := h0.symm
      simp only [lexIdx, Bool.and_eq_true, decide_eq_true_eq] at hB
      obtain ⟨⟨⟨hkn, hr⟩, hf⟩, hB'⟩ := hB
      have hr' : k ∈ Region.ready md ops listed := by simpa using hr
      have hst : cOp P ops W k (wpCalm P ops W Lq l) a := by unfold cOp; simp only [h0]; exact h
      obtain ⟨v, hy, hK⟩ := yieldsC_of_cOp h0 hst
      exact headL_first h0 (Region.noSelect_spec hsel) hs hc hkn (fun listed' a' hL => seqB_ready hL.1) hG0 hG ks.length listed a inv (Region.free_spec h0 hf) hr' hy
        (ih l _ _ hl (inv.set hr' hkn) hB' hK)

/-! ### An operation that does not look at the world may be taken first -/
theorem wpOp_unput {Q : Exit → Act → World → Prop} {j : Nat} {oj : Oper} {d : Tmp} {v : Value} {a : Act} {w : World} {K K' : Act → World → Prop} {good : Act → Prop} (hj : ops[j]? = some oj) (hsj : ∀ cs b, oj.op ≠ .select cs b)
    (h1 : d ∉ oj.looksAt ops) (h2 : oj.dst ≠ some d) (hQ : ∀ c (a : Act) v w, Q (.panic c) (a.put (some d) v) w → Q (.panic c) a w) (hgood : ∀ u, good (a.put oj.dst u)) (hgood' : ∀ u dd, good (({ a with defers := dd } : Act).put oj.dst u))
    (hK : ∀ a' w', good a' → K (a'.put (some d) v) w' → K' a' w') (h : wpOp P ops Q j K (a.put (some d) v) w) : wpOp P ops Q j K' a w := by
  have hx : ∀ e, some d = some e → e ∉ oj.looksAt ops := fun e he => by cases he; exact h1
  have he := execOp_put (ops := ops) oj hsj a (some d) v hx
  have hw := wanted_put (ops := ops) oj a (some d) v hx
  have hc : ∀ u, (a.put (some d) v).put oj.dst u = (a.put oj.dst u).put (some d) v := fun u => Act.put_comm a v u (fun e he => by cases he; exact h2)
  unfold wpOp at h ⊢
  simp only [hj] at h ⊢
  rw [hw] at h
  split
  · rename_i hwt
    rw [if_pos hwt] at h
    rcases h with h | ⟨h, ho⟩
    · left
      unfold Oper.wp at h ⊢
      rw [he] at h
      generalize (execOp a.eval oj).run P w = r at h ⊢
      cases r with
      | ok nx w' =>
        cases nx with
        | value u =>
          simp only [Oper.upon] at h ⊢
          exact hK _ _ (hgood u) (by rw [← hc]; exact h)
        | skip =>
          simp only [Oper.upon] at h ⊢
          exact hK _ _ (hgood _) (by rw [← hc]; exact h)
        | defer dd =>
          simp only [Oper.upon] at h ⊢
          refine hK _ _ (hgood' _ _) ?_
          have hc' : (({ a with defers := dd :: a.defers } : Act).put oj.dst undef).put (some d) v = (({ a.put (some d) v with defers := dd :: (a.put (some d) v).defers } : Act)).put oj.dst undef :=
            (Act.put_comm ({ a with defers := dd :: a.defers } : Act) v undef (x := some d) (y := oj.dst) (fun e he => by cases he; exact h2)).symm
          rw [hc']
          exact h
        | enter f args =>
          simp only [Oper.upon] at h ⊢
          refine h.mono fun e w'' he => ?_
          cases e with
          | returned u => exact hK _ _ (hgood u) (by rw [← hc]; exact he)
          | panicked c => exact hQ _ _ _ _ he
          | outgrown => exact he
        | row r args =>
          simp only [Oper.upon] at h ⊢
          exact h.mono fun u w'' he => hK _ _ (hgood u) (by rw [← hc]; exact he)
        | _ => simp only [Oper.upon] at h
      | halt x w' =>
        cases x with
        | panic u => exact hQ _ _ _ _ h
        | _ => simp only [Oper.upon] at h
    · right
      refine ⟨?_, ho⟩
      unfold Oper.asks at h ⊢
      rw [he] at h
      exact h
  · rename_i hwt
    rw [if_neg hwt] at h
    exact hK _ _ (hgood _) (by rw [← hc]; exact h)

theorem pure_first {Q : Exit → Act → World → Prop} {i : Nat} {oi : Oper} {d : Tmp} {v : Value} (hi : ops[i]? = some oi) (hd : oi.dst = some d) (hg : oi.guard = none) (hsel : ∀ (j : Nat) (o : Oper) cs b, ops[j]? = some o → o.op ≠ .select cs b)
    (hQ : ∀ c (a : Act) v w, Q (.panic c) (a.put (some d) v) w → Q (.panic c) a w) :
    ∀ (fuel : Nat) (ls : Array Bool) (a : Act) (w : World), (∀ w, (execOp a.eval oi).run P w = .ok (.value v) w) →
      (∀ j oj, ops[j]? = some oj → j ≠ i → ls.getD j true = false → (∀ e ∈ oj.after, Region.binds md e = true → e.on ≠ i) → oi.apart ops oj = true) → i ∈ Region.ready md ops ls →
      wpAny P md ops Q fuel (ls.setIfInBounds i true) (a.put (some d) v) w → wpAny P md ops Q (fuel + 1) ls a w := by
  have self : ∀ (K : Act → World → Prop) (a : Act) (w : World), (∀ w, (execOp a.eval oi).run P w = .ok (.value v) w) → K (a.put (some d) v) w → wpOp P ops Q i K a w := by
    intro K a w hp h
    unfold wpOp
    simp only [hi]
    rw [if_pos (by simp [Region.wanted, hg])]
    left
    unfold Oper.wp
    rw [hp w, Oper.upon_value, hd]
    exact h
  intro fuel
  induction fuel with
  | zero =>
    intro ls a w hp _ hr H
    refine ⟨fun h0 => (by rw [h0] at hr; cases hr), fun j hj => ?_⟩
    by_cases hji : j = i
    · subst hji; exact self _ _ _ hp H
    · have := ready_mono hj hji
      rw [H.1] at this
      cases this
  | succ fuel ih =>
    intro ls a w hp hfree hr H
    refine ⟨fun h0 => (by rw [h0] at hr; cases hr), fun j hj => ?_⟩
    by_cases hji : j = i
    · subst hji; exact self _ _ _ hp H
    · have hun := (mem_ready.1 hr).1
      obtain ⟨hjun, oj, hoj, hall⟩ := mem_ready.1 hj
      have hnot : ∀ e ∈ oj.after, Region.binds md e = true → e.on ≠ i := fun e he hb heq => by
        have h1 := hall e he hb
        rw [heq, getD_both hun] at h1
        cases h1
      obtain ⟨h1, h2, h3⟩ := Oper.apart_spec (hfree j oj hoj hji hjun hnot)
      have hsi : ∀ cs b, oi.op ≠ .select cs b := fun cs b => hsel i oi cs b hi
      have hpe : ∀ u, execOp (a.put oj.dst u).eval oi = execOp a.eval oi := fun u => execOp_put (ops := ops) oi hsi a oj.dst u h3
      refine wpOp_unput (good := fun a' => ∀ w, (execOp a'.eval oi).run P w = .ok (.value v) w) hoj (fun cs b => hsel j oj cs b hoj) (h1 d hd) (h2 d hd) hQ (fun u w => by rw [hpe]; exact hp w) (fun u dd w => ?_) (fun a' w' hp' hK => ?_) (H.2 j (ready_mono hj hji))
      · have : execOp (({ a with defers := dd } : Act).put oj.dst u).eval oi = execOp ({ a with defers := dd } : Act).eval oi := execOp_put (ops := ops) oi hsi _ oj.dst u h3
        rw [this]
        exact hp w
      · refine ih (ls.setIfInBounds j true) a' w' hp' (fun k ok hk hki hu hno => ?_) (ready_mono hr (Ne.symm hji)) ?_
        · refine hfree k ok hk hki ?_ hno
          by_cases hjk : j = k
          · subst hjk; exact hjun
          · rw [getD_set_ne true hjk] at hu; exact hu
        · rw [Array.setIfInBounds_comm _ _ hji]
          exact hK


/-! ### The whole region -/
theorem late_any {W : World} {n g : Nat} {late : List Nat} {fl : List Fl} {L : Array Bool → Act → Prop} {G : Nat → Array Bool → Act → Prop} {Q : Exit → Act → World → Prop} (hfl : ∀ f ∈ fl, f.ok P ops) (hsel : ∀ (j : Nat) (o : Oper) cs b, ops[j]? = some o → o.op ≠ .select cs b)
    (hlt : ∀ f ∈ fl, f.i < ops.size) (hltn : ∀ f ∈ fl, f.i < n) (hwait : ∀ f ∈ fl, Region.waitsFor md ops n f.i = true) (hc : Region.chainB md ops n = true)
    (hap : ∀ f ∈ fl, ∀ o, ops[f.i]? = some o → ∀ j oj, ops[j]? = some oj → j < n → j ≠ f.i → o.apart ops oj = true)
    (hdone : ∀ listed a, L listed a → ∀ j ∈ Region.ready md ops listed, j = n)
    (hL : ∀ listed a w dn, Ext W w → L listed a → (dn.map (·.1)).Perm fl → (∀ x ∈ dn, Fl.fresh W w x) → (dn.map (·.2)).Nodup → wpAny P md ops Q g listed (putAll dn a) w)
    (hGG : ∀ k ls a w dn, Ext W w → G k ls a → (dn.map (·.1)).Perm fl → (∀ x ∈ dn, Fl.fresh W w x) → (dn.map (·.2)).Nodup → wpAny P md ops Q (k + g) ls (putAll dn a) w) :
    ∀ (N f : Nat) (u : List Fl) (lr ls : Array Bool) (a : Act) (dn : List (Fl × Nat)) (w : World), N = f + u.length → Ext W w → (dn.map (·.1) ++ u).Perm fl → (fl.map (·.i)).Nodup →
      (∀ x ∈ u, lr.getD x.i true = false) → (∀ x ∈ dn, lr.getD x.1.i true = true) → lr.size = ops.size → (∀ t, n ≤ t → t < ops.size → lr.getD t true = false) → Rel u lr ls → headL P md ops W n late L G f ls a → (∀ x ∈ dn, Fl.fresh W w x) → (dn.map (·.2)).Nodup →
      wpAny P md ops Q (N + g) lr (putAll dn a) w := by
  intro N
  induction N with
  | zero =>
    intro f u lr ls a dn w hN hW hp _ _ _ _ _ hR hH hfr hnd
    obtain rfl : f = 0 := by omega
    obtain rfl : u = [] := List.eq_nil_of_length_eq_zero (by omega)
    obtain rfl := hR.nil
    rw [Nat.zero_add]
    exact hL _ _ _ _ hW hH (by simpa using hp) hfr hnd
  | succ N ih =>
    intro f u lr ls a dn w hN hW hp hnod hun hdl hsz htu hR hH hfr hnd
    by_cases hstop : onlyLate n late ls = true ∧ u = []
    · obtain ⟨ho, rfl⟩ := hstop
      obtain rfl := hR.nil
      obtain ⟨f', rfl⟩ : ∃ f', f = f' + 1 := ⟨f - 1, by simp at hN; omega⟩
      obtain rfl : N = f' := by simp at hN; omega
      exact hGG _ _ _ _ _ hW (hH.2.2.2 ho) (by simpa using hp) hfr hnd
    rw [show N + 1 + g = (N + g) + 1 by omega]
    have memU : ∀ x ∈ u, x ∈ fl := fun x hx => hp.mem_iff.1 (List.mem_append_right _ hx)
    have memD : ∀ x ∈ dn, x.1 ∈ fl := fun x hx => hp.mem_iff.1 (List.mem_append_left _ (List.mem_map_of_mem hx))
    have hnu : (u.map (·.i)).Nodup := by
      have := (hp.map (·.i)).nodup_iff.2 hnod
      rw [List.map_append] at this
      exact (List.nodup_append.1 this).2.1
    refine ⟨fun h0 => ?_, fun i hi => ?_⟩
    · exfalso
      match u, hun, memU, hN, hR with
      | x :: u, hun, memU, _, _ =>
        obtain ⟨o, ho, _, _, _, haf, _⟩ := hfl x (memU x (by simp))
        have : x.i ∈ Region.ready md ops lr := mem_ready.2 ⟨hun x (by simp), o, ho, fun e he => by rw [haf] at he; simp at he⟩
        rw [h0] at this
        cases this
      | [], _, _, hN, hR =>
        obtain rfl := hR.nil
        obtain ⟨f', rfl⟩ : ∃ f', f = f' + 1 := ⟨f - 1, by simp at hN; omega⟩
        obtain ⟨i, hi, _⟩ := hH.1
        rw [h0] at hi
        cases hi
    · by_cases hiu : ∃ x ∈ u, x.i = i
      · obtain ⟨x, hx, rfl⟩ := hiu
        obtain ⟨o, ho, hop, hd, hg, haf, hz⟩ := hfl x (memU x hx)
        obtain ⟨u', hu'⟩ : ∃ u', u.Perm (x :: u') := by
          obtain ⟨l1, l2, rfl⟩ := List.append_of_mem hx
          exact ⟨l1 ++ l2, List.perm_middle⟩
        have hlen : u.length = u'.length + 1 := by simpa using hu'.length_eq
        have hxn : x.i < n := hltn x (memU x hx)
        unfold wpOp
        simp only [ho]
        rw [if_pos (by simp [Region.wanted, hg])]
        refine .inl (alloc_wp hop hd hz ?_)
        have hfx : Fl.fresh W (w.alloc (.cells x.z.cells x.t)) (x, w.heap.size) := ⟨hW.size, by simp, by show (w.heap.push _)[w.heap.size]? = _; simp⟩
        refine ih f u' _ ls a ((x, w.heap.size) :: dn) _ (by omega) (hW.alloc _) ?_ hnod ?_ ?_ (by simpa using hsz) ?_ (hR.lay hx hnu (by rw [hsz]; exact hlt x (memU x hx)) hu') hH ?_ ?_
        · refine List.Perm.trans ?_ hp
          simp only [List.map_cons, List.cons_append]
          exact (List.perm_middle.symm).trans (List.Perm.append_left _ hu'.symm)
        · intro y hy
          have hyu : y ∈ u := hu'.mem_iff.2 (List.mem_cons_of_mem _ hy)
          have hne : x.i ≠ y.i := by
            have := (hu'.map (·.i)).nodup_iff.1 hnu
            simp only [List.map_cons, List.nodup_cons] at this
            exact fun e => this.1 (by rw [e]; exact List.mem_map_of_mem hy)
          rw [getD_set_ne true hne]
          exact hun y hyu
        · intro y hy
          rcases List.mem_cons.1 hy with rfl | hy
          · simp
          · exact getD_set_any (hdl y hy)
        · intro t ht ht'
          rw [getD_set_ne true (by omega)]
          exact htu t ht ht'
        · intro y hy
          rcases List.mem_cons.1 hy with rfl | hy
          · exact hfx
          · exact (hfr y hy).ext ((Ext.refl w).alloc _)
        · simp only [List.map_cons, List.nodup_cons]
          refine ⟨fun hm => ?_, hnd⟩
          obtain ⟨y, hy, e⟩ := List.mem_map.1 hm
          have := (hfr y hy).2.1
          omega
      · obtain ⟨hiun, oi, hoi, hall⟩ := mem_ready.1 hi
        have hilt : i < ops.size := (Array.getElem?_eq_some_iff.1 hoi).1
        have hrs : i ∈ Region.ready md ops ls := mem_ready.2 ⟨by rw [hR.keep hiu]; exact hiun, oi, hoi, fun e he hb => hR.up (hall e he hb)⟩
        have notn : u ≠ [] → i ≠ n := by
          intro hu e
          subst e
          match u, hun, memU, hu with
          | x :: u, hun, memU, _ =>
            obtain ⟨o', ho', e, he, hb, hon⟩ := Region.waitsFor_spec (hwait x (memU x (by simp)))
            obtain rfl : o' = oi := Option.some.inj (ho'.symm.trans hoi)
            have h2 := hall e he hb
            rw [hon, getD_both (hun x (by simp))] at h2
            cases h2
        match f, hN, hH with
        | 0, hN, hH =>
          exfalso
          refine notn (fun e => ?_) (hdone _ _ hH i hrs)
          rw [e] at hN
          simp at hN
        | f + 1, hN, hH =>
          have hin : i < n := by
            cases ho : onlyLate n late ls with
            | false => exact hH.2.2.1 ho i hrs
            | true =>
              have hu : u ≠ [] := fun e => hstop ⟨ho, e⟩
              rcases Nat.lt_or_ge i n with h | h
              · exact h
              · exfalso
                have hne := notn hu
                have h1 := List.all_eq_true.1 hc i (List.mem_range.2 hilt)
                simp only [Bool.or_eq_true, decide_eq_true_eq] at h1
                rcases h1 with h1 | h1
                · omega
                · obtain ⟨o', ho', e, he, hb, hon⟩ := Region.waitsFor_spec h1
                  obtain rfl : o' = oi := Option.some.inj (ho'.symm.trans hoi)
                  have h2 := hall e he hb
                  rw [hon, getD_both (htu (i - 1) (by omega) (by omega))] at h2
                  cases h2
          have hcop := hH.2.1 i hrs hin
          obtain ⟨v, hy, hK⟩ := yieldsC_of_cOp hoi hcop
          have hsi : ∀ cs b, oi.op ≠ .select cs b := fun cs b => hsel i oi cs b hoi
          have hapart : ∀ x ∈ fl, x.i ≠ i → (∀ d, some x.d = some d → d ∉ oi.looksAt ops) ∧ oi.dst ≠ some x.d := fun x hx hne => by
            obtain ⟨o, ho, _, hd, _⟩ := hfl x hx
            obtain ⟨h1, h2, _⟩ := Oper.apart_spec (hap x hx o ho i oi hoi hin (Ne.symm hne))
            rw [hd] at h1 h2
            exact ⟨h1, h2 x.d rfl⟩
          have hdi : ∀ x ∈ dn, x.1.i ≠ i := fun x hx e => by
            have h1 := hdl x hx
            rw [e, hiun] at h1
            cases h1
          obtain ⟨e1, e2⟩ := putAll_eval (ops := ops) hsi dn a (fun x hx => (hapart x.1 (memD x hx) (hdi x hx)).1 _ rfl)
          have e3 : ∀ v, (putAll dn a).put oi.dst v = putAll dn (a.put oi.dst v) := fun v => putAll_put dn a (fun x hx => (hapart x.1 (memD x hx) (hdi x hx)).2)
          have next : ∀ w', Ext w w' → wpAny P md ops Q (N + g) (lr.setIfInBounds i true) (putAll dn (a.put oi.dst v)) w' := fun w' hw' =>
            ih f u _ _ _ dn w' (by omega) (hW.trans hw') hp hnod (fun y hy => by
              rw [getD_set_ne true (fun e => hiu ⟨y, hy, e.symm⟩)]
              exact hun y hy) (fun y hy => getD_set_any (hdl y hy)) (by simpa using hsz) (fun t ht ht' => by rw [getD_set_ne true (by omega)]; exact htu t ht ht') (hR.set i) hK (fun x hx => (hfr x hx).ext hw') hnd
          unfold wpOp
          simp only [hoi]
          rcases hy with ⟨hw, hv⟩ | ⟨hw, rfl⟩
          · rw [if_pos (by rw [e2]; exact hw)]
            refine .inl (wp_of_calmAt (v := v) ?_ fun w' hw' => by rw [e3]; exact next w' hw')
            have := hv w hW
            unfold calmAt at this ⊢
            rw [e1]
            exact this
          · rw [if_neg (by rw [e2, hw]; exact Bool.false_ne_true), e3]
            exact next w (Ext.refl w)

theorem extract_form {o : Oper} {x : Operand} {k : Nat} (h : o.op = .extract x k) (a : Act) : (∃ v, ∀ w, (execOp a.eval o).run P w = .ok (.value v) w) ∨ (∀ w, ∃ r w', (execOp a.eval o).run P w = .halt r w') := by
  cases hx : a.eval x with
  | tuple vs =>
    cases hv : vs[k]? with
    | some v => exact .inl ⟨v, fun w => by simp [execOp, h, hx, Instr.extract, hv, Result.andThen]⟩
    | none => exact .inr fun w => by simp [execOp, h, hx, Instr.extract, hv, Result.andThen, stuck]
  | _ => exact .inr fun w => by simp [execOp, h, hx, Instr.extract, Result.andThen, stuck]

/-- What is asked of a region with floating blocks ('is') and late components ('late'). -/
def lateB (ops : Array Oper) (n N : Nat) (is late : List Nat) (hd : List Oper) : Bool :=
  Region.noSelect ops && decide (n < ops.size) && sinkL .any ops n late && Region.chainB .any ops n &&
  is.all (fun i => decide (i < n) && Region.waitsFor .any ops n i && (List.range n).all fun j => j == i || (match ops[i]?, ops[j]? with | some o, some oj => o.apart ops oj | _, _ => false)) &&
  decide is.Nodup && lexIdx .any ops (ops.size - n) n ((List.range n).filter fun i => !is.contains i) (is.foldl (fun l i => l.setIfInBounds i true) (Array.replicate ops.size false)) &&
  (hd.all fun o => match o.dst with | some d => decide (d < N) | none => false) && decide ((hd.map (·.dst)).Nodup) && decide (((List.range n).filter fun i => !is.contains i).length + is.length = n) &&
  late.all fun i => match ops[i]? with | some o => o.guard.isNone && o.dst.isSome && (match o.op with | .extract _ _ => true | _ => false) && !is.contains i | none => false

theorem wp_region_late {id : Nat} {Q : Exit → Act → World → Prop} {a : Act} {w : World} {l : List Oper} (n N : Nat) (fl : List Fl) (late : List Nat) (hd : List Oper) (hm : P.follows .mixedOrders = true) (hfl : ∀ f ∈ fl, f.ok P l.toArray)
    (hB : lateB l.toArray n N (fl.map (·.i)) late hd = true) (hhd : hd.map some = (((List.range n).filter fun i => !(fl.map (·.i)).contains i)).map (l.toArray[·]?)) (hN : N ≤ a.tmps.size)
    (hQ : ∀ c (a : Act) d v w, Q (.panic c) (a.put (some d) v) w → Q (.panic c) a w)
    (h : ∃ A, (∀ S, Stable S → Nonempty (ExtS w S) → wpQuiet P l.toArray (clsOf w S) (fun a' => a' = A) hd a) ∧
      ∀ w' dn, Ext w w' → (dn.map (·.1)).Perm fl → (∀ x ∈ dn, Fl.fresh w w' x) → (dn.map (·.2)).Nodup → wpList P l.toArray Q (l.drop n) (putAll dn A) w') : (Code.region id l.toArray true).wp P Q a w := by
  obtain ⟨A, hA, hK⟩ := h
  simp only [lateB, Bool.and_eq_true, decide_eq_true_eq] at hB
  obtain ⟨⟨⟨⟨⟨⟨⟨⟨⟨⟨hsel, hn⟩, hs⟩, hc⟩, hfl2⟩, hnod⟩, hlex⟩, hdst⟩, hdn⟩, hcnt⟩, hlate⟩ := hB
  have hn' : n < l.length := by simpa using hn
  have hf2 : ∀ f ∈ fl, f.i < n ∧ Region.waitsFor .any l.toArray n f.i = true ∧ ∀ j, j < n → j ≠ f.i → ∀ o oj, l.toArray[f.i]? = some o → l.toArray[j]? = some oj → o.apart l.toArray oj = true := fun f hf => by
    have := List.all_eq_true.1 hfl2 f.i (List.mem_map_of_mem hf)
    simp only [Bool.and_eq_true, decide_eq_true_eq] at this
    refine ⟨this.1.1, this.1.2, fun j hj hne o oj ho hoj => ?_⟩
    have := List.all_eq_true.1 this.2 j (List.mem_range.2 hj)
    rw [ho, hoj] at this
    simpa [hne] using this
  have hcalm := calm_of_all (W := w) hd a hN hdst hdn hA
  have hget := listed_get l.toArray.size (fl.map (·.i)) (Array.replicate l.toArray.size false) (by simp) (fun i hi => by
    obtain ⟨f, hf, rfl⟩ := List.mem_map.1 hi
    have := (hf2 f hf).1
    omega)
  have hszl : ∀ (is : List Nat) (l0 : Array Bool), (is.foldl (fun l i => l.setIfInBounds i true) l0).size = l0.size := fun is => by
    induction is with
    | nil => intro l0; rfl
    | cons i is ih => intro l0; rw [List.foldl_cons, ih]; simp
  have hR : Rel fl (Array.replicate l.toArray.size false) ((fl.map (·.i)).foldl (fun l i => l.setIfInBounds i true) (Array.replicate l.toArray.size false)) := by
    refine ⟨hszl _ _, fun j => ?_⟩
    rw [hget j]
    have e : (∃ i ∈ fl.map (·.i), i = j) ↔ (∃ f ∈ fl, f.i = j) := by
      constructor
      · rintro ⟨i, hi, rfl⟩
        obtain ⟨f, hf, rfl⟩ := List.mem_map.1 hi
        exact ⟨f, hf, rfl⟩
      · rintro ⟨f, hf, rfl⟩
        exact ⟨_, List.mem_map_of_mem hf, rfl⟩
    simp only [e]
  have inv0 : HeadInv .any l.toArray n ((fl.map (·.i)).foldl (fun l i => l.setIfInBounds i true) (Array.replicate l.toArray.size false)) := by
    refine ⟨by rw [hszl]; simp, fun j oj hj hl e he _ => ?_, fun t ht ht' => ?_⟩
    · by_cases hjf : ∃ f ∈ fl, f.i = j
      · obtain ⟨f, hf, rfl⟩ := hjf
        obtain ⟨o, ho, _, _, _, haf, _⟩ := hfl f hf
        obtain rfl : o = oj := Option.some.inj (ho.symm.trans hj)
        rw [haf] at he
        simp at he
      · rw [hR.keep hjf, getD_replicate_false] at hl
        cases hl
    · have hjf : ¬ ∃ f ∈ fl, f.i = t := fun ⟨f, hf, e⟩ => by have := (hf2 f hf).1; omega
      rw [hR.keep hjf]
      exact getD_in (by simpa using ht') (getD_replicate_false _ _)
  have hdl : (l.drop n).length = l.toArray.size - n := by simp
  have hLL : ∀ (ls : Array Bool) (a' : Act) (w' : World) (dn : List (Fl × Nat)), Ext w w' → (Region.seqB .any l.toArray (l.toArray.size - n) n ls = true ∧ a' = A) → (dn.map (·.1)).Perm fl → (∀ x ∈ dn, Fl.fresh w w' x) → (dn.map (·.2)).Nodup →
      wpAny P .any l.toArray Q (l.toArray.size - n) ls (putAll dn a') w' := fun ls a' w' dn hW' hL' hp hfr hnd => by
    obtain ⟨hs', rfl⟩ := hL'
    have := wpAny_of_seq (md := .any) (Q' := Q) (l.drop n) n ls (putAll dn a') w' (fun j => by simp [List.getElem?_drop]) (by rw [hdl]; exact hs') (hK w' dn hW' hp hfr hnd)
    rwa [hdl] at this
  have H := headL_lex (md := .any) (g := l.toArray.size - n) (late := late) (G := fun k ls a' => ∀ (w' : World) (dn : List (Fl × Nat)), Ext w w' → (dn.map (·.1)).Perm fl → (∀ x ∈ dn, Fl.fresh w w' x) → (dn.map (·.2)).Nodup → wpAny P .any l.toArray Q (k + (l.toArray.size - n)) ls (putAll dn a') w')
    hsel hs hc (fun ls a' hL' w' dn hW' hp hfr hnd => by rw [Nat.zero_add]; exact hLL ls a' w' dn hW' hL' hp hfr hnd)
    (by
      intro k ls a' i oi v hi hin hil hr hy hfree hG w' dn hW' hp hfr hnd
      have hl := List.all_eq_true.1 hlate i (by simpa using hil)
      rw [hi] at hl
      simp only [Bool.and_eq_true, Option.isNone_iff_eq_none, Bool.not_eq_true'] at hl
      obtain ⟨⟨⟨hg, hds⟩, hop⟩, hni⟩ := hl
      obtain ⟨d, hd⟩ := Option.isSome_iff_exists.1 hds
      split at hop
      · rename_i x kk hopx
        have hsi : ∀ cs b, oi.op ≠ .select cs b := fun cs b => Region.noSelect_spec hsel i oi cs b hi
        have hv : ∀ w, (execOp a'.eval oi).run P w = .ok (.value v) w := by
          rcases hy with ⟨_, hy⟩ | ⟨hy, _⟩
          · have h0 := hy w (Ext.refl w)
            unfold calmAt at h0
            rcases extract_form (P := P) hopx a' with ⟨u, hu⟩ | hu
            · rw [hu w] at h0
              obtain ⟨_, rfl⟩ := h0
              exact hu
            · obtain ⟨r, w2, hu⟩ := hu w
              rw [hu] at h0
              exact h0.elim
          · simp [Region.wanted, hg] at hy
        have memD : ∀ x ∈ dn, x.1 ∈ fl := fun x hx => hp.mem_iff.1 (List.mem_map_of_mem hx)
        have hapart : ∀ x ∈ fl, x.d ∉ oi.looksAt l.toArray ∧ oi.dst ≠ some x.d := fun x hx => by
          obtain ⟨o, ho, _, hd', _⟩ := hfl x hx
          have hne : i ≠ x.i := fun e => by
            have : (fl.map (·.i)).contains i = true := by rw [e]; simp; exact ⟨x, hx, rfl⟩
            rw [this] at hni
            cases hni
          obtain ⟨h1, h2, _⟩ := Oper.apart_spec ((hf2 x hx).2.2 i hin hne o oi ho hi)
          exact ⟨h1 x.d hd', h2 x.d hd'⟩
        obtain ⟨e1, _⟩ := putAll_eval (ops := l.toArray) hsi dn a' (fun x hx => (hapart x.1 (memD x hx)).1)
        have e3 : (putAll dn a').put oi.dst v = putAll dn (a'.put oi.dst v) := putAll_put dn a' (fun x hx => (hapart x.1 (memD x hx)).2)
        rw [show k + 1 + (l.toArray.size - n) = (k + (l.toArray.size - n)) + 1 by omega]
        refine pure_first (md := .any) hi hd hg (Region.noSelect_spec hsel) (fun c a v w => hQ c a d v w) _ ls _ w' (fun w => by rw [e1]; exact hv w) hfree hr ?_
        rw [← hd, e3]
        exact hG w' dn hW' hp hfr hnd
      · cases hop)
    _ hd _ a hhd inv0 hlex hcalm
  refine wp_region_any hm ?_
  have := late_any (md := .any) (Q := Q) (g := l.toArray.size - n) (fl := fl) hfl (Region.noSelect_spec hsel) (fun f hf => by have := (hf2 f hf).1; omega) (fun f hf => (hf2 f hf).1) (fun f hf => (hf2 f hf).2.1) hc
    (fun f hf o ho j oj hoj hj hne => (hf2 f hf).2.2 j hj hne o oj ho hoj)
    (fun listed a' hL' j hj => by
      have hs' := hL'.1
      obtain ⟨k, hk⟩ : ∃ k, l.toArray.size - n = k + 1 := ⟨l.toArray.size - n - 1, by omega⟩
      rw [hk] at hs'
      simp only [Region.seqB, Bool.and_eq_true, decide_eq_true_eq] at hs'
      rw [hs'.1] at hj
      simpa using hj)
    (fun listed a' w' dn hW' hL' hp hfr hnd => hLL listed a' w' dn hW' hL' hp hfr hnd)
    (fun k ls a' w' dn hW' hG hp hfr hnd => hG w' dn hW' hp hfr hnd)
    _ _ fl _ _ a [] _ rfl (Ext.refl w).drew (by simp) hnod (fun x hx => getD_in (by have := (hf2 x hx).1; simp; omega) (getD_replicate_false _ _)) (fun x hx => by cases hx) (by simp)
    (fun t ht ht' => getD_in (by simpa using ht') (getD_replicate_false _ _)) hR H (fun x hx => by cases hx) (by simp)
  have hcount : ((List.range n).filter fun i => !(fl.map (·.i)).contains i).length + fl.length + (l.toArray.size - n) = l.toArray.size := by
    rw [List.length_map] at hcnt
    omega
  rw [hcount] at this
  exact this
end

/-- One floating block, components that may be taken late. -/
theorem wp_region_late1 {P : Program} {id : Nat} {Q : Exit → Act → World → Prop} {a : Act} {w : World} {l : List Oper} (n N i d : Nat) (t : TypeId) (late : List Nat) (z : Value) (hm : P.follows .mixedOrders = true) (hz : ∀ w, (zeroValue t).run P w = .ok z w)
    (hok : (match l.toArray[i]? with | some o => (match o.op with | .alloc t' => t' == t | _ => false) && o.dst == some d && o.guard.isNone && o.after.size == 0 | none => false) = true)
    (hB : lateB l.toArray n N [i] late ((l.take n).eraseIdx i) = true) (hhd : ((l.take n).eraseIdx i).map some = (((List.range n).filter fun j => !([i] : List Nat).contains j)).map (l.toArray[·]?)) (hN : Nat.ble N a.tmps.size = true)
    (hQ : ∀ c (a : Act) d v w, Q (.panic c) (a.put (some d) v) w → Q (.panic c) a w)
    (h : ∃ A, (∀ S, Stable S → Nonempty (ExtS w S) → wpQuiet P l.toArray (fun w' => ∃ x : ExtS w S, w' = x.w) (fun a' => a' = A) ((l.take n).eraseIdx i) a) ∧
      ∀ (x : ExtOf w) (g : Nat), w.heap.size ≤ g → g < x.w.heap.size → x.w.heap[g]? = some (.cells z.cells t (0, 0)) → wpList P l.toArray Q (l.drop n) (A.put (some d) (.pointer (some ⟨g, 0, none⟩))) x.w) : (Code.region id l.toArray true).wp P Q a w := by
  obtain ⟨A, hA, hK⟩ := h
  refine wp_region_late n N [⟨i, d, t, z⟩] late _ hm (fun f hf => ?_) hB hhd (Nat.le_of_ble_eq_true hN) hQ ⟨A, fun S hS hne => ?_, fun w' dn hW hp hfr _ => ?_⟩
  · obtain rfl : f = ⟨i, d, t, z⟩ := by simpa using hf
    split at hok
    · rename_i o ho
      simp only [Bool.and_eq_true, beq_iff_eq, Option.isNone_iff_eq_none] at hok
      obtain ⟨⟨⟨h1, h2⟩, h3⟩, h4⟩ := hok
      refine ⟨o, ho, ?_, h2, h3, Array.eq_empty_of_size_eq_zero h4, hz⟩
      split at h1
      · rename_i t' e
        rw [e]
        simp at h1
        rw [h1]
      · cases h1
    · cases hok
  · have e : clsOf w S = fun w' => ∃ x : ExtS w S, w' = x.w := funext fun w' => propext (clsOf_eq w')
    rw [e]
    exact hA S hS hne
  · have h1 : dn.length = 1 := by simpa using hp.length_eq
    match dn, h1 with
    | [x], _ =>
      have hx : x.1 = ⟨i, d, t, z⟩ := by simpa using hp
      obtain ⟨f, g⟩ := x
      subst hx
      obtain ⟨f1, f2, f3⟩ := hfr _ (List.mem_singleton.2 rfl)
      exact hK ⟨w', hW⟩ g f1 f2 f3
end Go.Proofs.Ytaaieejhbpdmoaa
