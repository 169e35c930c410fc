/- A region that draws its order: one walk in the order of the text serves every order. No conditions. -/
import Derived.Test.YthfgpnpoocepeaaGreatRxL
namespace Go.Proofs.YthfgpnpoocepeaaGreat
open Go.RowKit
namespace Rx

/-- The same temporaries, the same blocks. -/
def Same (S S' : St) : Prop := S.tmps = S'.tmps ∧ ∀ b, lk S.heap b = lk S'.heap b
theorem Same.refl (S : St) : Same S S := ⟨rfl, fun _ => rfl⟩
theorem Same.symm {S S' : St} (h : Same S S') : Same S' S := ⟨h.1.symm, fun b => (h.2 b).symm⟩
theorem Same.trans {S S' S'' : St} (h : Same S S') (h' : Same S' S'') : Same S S'' := ⟨h.1.trans h'.1, fun b => (h.2 b).trans (h'.2 b)⟩

theorem lk_setAll_congr : ∀ (l : List (Nat × Option Blk)) {H H' : Heap}, (∀ b, lk H b = lk H' b) → ∀ b, lk (setAll H l) b = lk (setAll H' l) b
  | [], _, _, h => h
  | x :: r, H, H', h => lk_setAll_congr r (H := x :: H) (H' := x :: H') fun b => by
    obtain ⟨n, y⟩ := x
    simp only [lk_cons, h b]
theorem lk_setAll_out : ∀ (l : List (Nat × Option Blk)) (H : Heap) (b : Nat), b ∉ l.map (·.1) → lk (setAll H l) b = lk H b
  | [], _, _, _ => rfl
  | (n, x) :: r, H, b, h => by
    simp only [List.map_cons, List.mem_cons, not_or] at h
    rw [setAll, lk_setAll_out r _ b h.2, lk_cons, if_neg (fun e => h.1 e.symm)]
/-- What is written of a block is what is written of it last. -/
theorem lk_setAll_in : ∀ (l : List (Nat × Option Blk)) (H H' : Heap) (b : Nat), b ∈ l.map (·.1) → lk (setAll H l) b = lk (setAll H' l) b
  | [], _, _, _, h => by cases h
  | (n, x) :: r, H, H', b, h => by
    simp only [setAll]
    by_cases hb : b ∈ r.map (·.1)
    · exact lk_setAll_in r _ _ b hb
    · rw [lk_setAll_out r _ b hb, lk_setAll_out r _ b hb, lk_cons, lk_cons]
      have : n = b := by simp only [List.map_cons, List.mem_cons] at h; exact (h.resolve_right hb).symm
      simp [this]
theorem Same.app {S S' : St} (h : Same S S') (d : Option Tmp) (e : Eff) : Same (S.app d e) (S'.app d e) := by
  refine ⟨?_, lk_setAll_congr e.wr h.2⟩
  show putT S.tmps d e.val = putT S'.tmps d e.val
  rw [h.1]

section
variable {P : Program} {W : WX} {M0 : Mem} {S : St} {hdr : Nat → Option Value} {inn : Nat → List Nat} {M : Mem} {a : Act} {w : World} {o : Oper} {e : Eff} {id : Nat} {E : Env} {R : Type} {ops : Array Oper}

theorem G.same {S' : St} (h : G W M0 S a w) (hs : Same S S') : G W M0 S' a w := by
  obtain ⟨hdr, inn, M, g⟩ := h
  obtain ⟨h1, h2⟩ := hs
  refine ⟨hdr, inn, M, ?_⟩
  have := g.sameH h2
  cases S; cases S'
  dsimp only at h1
  subst h1
  exact this

theorem mem_looks_op {o : Oper} {t : Tmp} (h : Operand.tmp t ∈ o.op.operands.toList) : t ∈ o.looksAt ops := by
  unfold Oper.looksAt
  exact List.mem_append.2 (.inl (List.mem_filterMap.2 ⟨.tmp t, h, rfl⟩))
theorem mem_looks_guard {o : Oper} {j : Nat} {b : Bool} {t : Tmp} (hg : o.guard = some (j, b)) (ht : (ops[j]?).bind (·.dst) = some t) : t ∈ o.looksAt ops := by
  unfold Oper.looksAt
  refine List.mem_append.2 (.inr ?_)
  rw [hg]
  simp [ht]

/-- An operation with its guard looks at its temporaries and at the blocks that it says. -/
theorem opG_local {S2 : St} (hk : opG E ops o S = some e) (ht : ∀ t ∈ o.looksAt ops, (S.tmps[t]?).getD .undef = (S2.tmps[t]?).getD .undef) (hh : ∀ b ∈ e.rd, lk S.heap b = lk S2.heap b) : opG E ops o S2 = some e := by
  have ev : ∀ x ∈ o.op.operands.toList, S.ev x = S2.ev x := by
    intro x hx
    cases x with
    | tmp t => exact ht t (mem_looks_op hx)
    | const v => rfl
    | global g => rfl
    | func f => rfl
  have main : opK E o.op (blockId o.dst) S some = some e → opK E o.op (blockId o.dst) S2 some = some e := by
    intro h
    have h1 := opK_heap (H := S2.heap) h hh
    rw [opK_ev (S := ⟨S.tmps, S2.heap⟩) (S2 := S2) (fun x hx => ?_) rfl] at h1
    · exact h1
    · rw [← ev x hx]; cases x <;> rfl
  refine opG_iff.2 ?_
  rcases opG_iff.1 hk with ⟨hg, hk⟩ | ⟨j, t, b, hg, htt, hb, hk⟩ | ⟨j, t, b, hg, htt, hb, he⟩ | ⟨j, t, b, hg, htt, hb, he⟩
  · exact .free hg (main hk)
  · exact .yes j t b hg htt (by rw [← ht t (mem_looks_guard hg htt)]; exact hb) (main hk)
  · exact .no j t b hg htt (by rw [← ht t (mem_looks_guard hg htt)]; exact hb) he
  · exact .skip j t b hg htt (by rw [← ht t (mem_looks_guard hg htt)]; exact hb) he

abbrev Done := Nat × Oper × Eff
/-- The operations one behind another, with what each does. -/
def LexRun (E : Env) (ops : Array Oper) : List Done → St → St → Prop
  | [], S, S' => Same S S'
  | x :: r, S, S' => opG E ops x.2.1 S = some x.2.2 ∧ LexRun E ops r (S.app x.2.1.dst x.2.2) S'

theorem LexRun.congr : ∀ {L : List Done} {S S2 S' : St}, Same S S2 → LexRun E ops L S S' → LexRun E ops L S2 S'
  | [], _, _, _, hs, h => hs.symm.trans h
  | x :: r, S, S2, S', hs, h => ⟨opG_local h.1 (fun t _ => by rw [hs.1]) (fun b _ => hs.2 b), LexRun.congr (hs.app _ _) h.2⟩

def Free (ops : Array Oper) (x y : Done) : Prop := indep ops x.2.1 y.2.1 x.2.2 y.2.2 = true

theorem putT_ne {l : List AV} {d : Option Tmp} {v : AV} {t : Nat} (h : ∀ q, d = some q → q ≠ t) : ((putT l d v)[t]?).getD .undef = (l[t]?).getD .undef := by
  cases d with
  | none => rfl
  | some q => simp only [putT]; rw [List.getElem?_set_ne (h q rfl)]

theorem swap {x k : Done} {L : List Done} {S S' : St} (hf : Free ops x k) (h : LexRun E ops (x :: k :: L) S S') : LexRun E ops (k :: x :: L) S S' := by
  obtain ⟨h1, h2, h3⟩ := h
  unfold Free indep at hf
  simp only [Bool.and_eq_true] at hf
  obtain ⟨⟨ha, hd1⟩, hd2⟩ := hf
  obtain ⟨a1, a2, a3⟩ := Oper.apart_spec ha
  have hk : opG E ops k.2.1 S = some k.2.2 := by
    refine opG_local h2 (fun t ht => putT_ne fun q hq e => a1 q hq (by rw [e]; exact ht)) fun b hb => lk_setAll_out _ _ _ fun hm => ?_
    exact disj_mem hd1 hm (List.mem_append.2 (.inl hb))
  have hx : opG E ops x.2.1 (S.app k.2.1.dst k.2.2) = some x.2.2 := by
    refine opG_local h1 (fun t ht => (putT_ne fun q hq e => a3 q hq (by rw [e]; exact ht)).symm) fun b hb => (lk_setAll_out _ _ _ fun hm => ?_).symm
    exact disj_mem hd2 hm hb
  refine ⟨hk, hx, LexRun.congr ?_ h3⟩
  refine ⟨?_, fun b => ?_⟩
  · show putT (putT S.tmps x.2.1.dst x.2.2.val) k.2.1.dst k.2.2.val = putT (putT S.tmps k.2.1.dst k.2.2.val) x.2.1.dst x.2.2.val
    cases hx1 : x.2.1.dst with
    | none => rfl
    | some d =>
      cases hk1 : k.2.1.dst with
      | none => rfl
      | some d' =>
        have : d ≠ d' := fun e => a2 d hx1 (by rw [hk1, e])
        simp only [putT]
        exact List.set_comm _ _ this
  · show lk (setAll (setAll S.heap x.2.2.wr) k.2.2.wr) b = lk (setAll (setAll S.heap k.2.2.wr) x.2.2.wr) b
    by_cases hb1 : b ∈ x.2.2.wr.map (·.1)
    · have hb2 : b ∉ k.2.2.wr.map (·.1) := fun hm => disj_mem hd1 hb1 (List.mem_append.2 (.inr hm))
      rw [lk_setAll_out _ _ b hb2]
      exact lk_setAll_in _ _ _ b hb1
    · rw [lk_setAll_out _ (setAll S.heap k.2.2.wr) b hb1]
      by_cases hb2 : b ∈ k.2.2.wr.map (·.1)
      · exact lk_setAll_in _ _ _ b hb2
      · rw [lk_setAll_out _ _ b hb2, lk_setAll_out _ _ b hb2, lk_setAll_out _ _ b hb1]

theorem to_front {k : Done} : ∀ {L1 L2 : List Done} {S S' : St}, (∀ x ∈ L1, Free ops x k) → LexRun E ops (L1 ++ k :: L2) S S' → LexRun E ops (k :: (L1 ++ L2)) S S'
  | [], _, _, _, _, h => h
  | x :: L1, L2, S, S', hf, h => by
    have ih := to_front (L1 := L1) (L2 := L2) (fun y hy => hf y (by simp [hy])) h.2
    exact swap (hf x (by simp)) (show LexRun E ops (x :: k :: (L1 ++ L2)) S S' from ⟨h.1, ih⟩)

/-- What is asked of two, the first one ahead of the second one in the text. -/
def Pair (ops : Array Oper) (x y : Done) : Prop := waits y.2.1 x.1 = true ∨ Free ops x y ∨ waitsT ops 14 y.2.1 x.1 = true

/-- What is done has all done that it waits for. -/
def Closed (ops : Array Oper) (listed : Array Bool) : Prop := ∀ i o, ops[i]? = some o → listed.getD i true = true → ∀ e ∈ o.after.toList, Region.binds .any e = true → listed.getD e.on true = true
theorem waitsT_listed {ops : Array Oper} {listed : Array Bool} (hc : Closed ops listed) : ∀ (n : Nat) (o : Oper) (i : Nat), (∀ e ∈ o.after.toList, Region.binds .any e = true → listed.getD e.on true = true) → waitsT ops n o i = true → listed.getD i true = true
  | 0, _, _, _, h => by cases h
  | n + 1, o, i, ho, h => by
    unfold waitsT at h
    obtain ⟨e, he, hb⟩ := List.any_eq_true.1 h
    rw [Bool.and_eq_true, Bool.or_eq_true] at hb
    have hl := ho e he hb.1
    rcases hb.2 with h1 | h1
    · have : e.on = i := by simpa using h1
      rw [← this]; exact hl
    · split at h1
      · rename_i z hz
        exact waitsT_listed hc n z i (fun e' he' hb' => hc e.on z hz hl e' he' hb') h1
      · cases h1

theorem getD_set_list {l : Array Bool} {i j : Nat} : (l.setIfInBounds i true).getD j true = (if i = j then true else l.getD j true) := by
  by_cases h : i = j
  · subst h
    by_cases hi : i < l.size
    · simp [hi]
    · simp [hi]
  · by_cases hj : j < l.size
    · simp [hj, h, Array.getElem_setIfInBounds_ne hj h]
    · simp [hj, h]

theorem draw_any {Q : Exit → Act → World → Prop} (hE : EnvOK P E) {S' : St} (hQ : ∀ S2 a' w', Same S2 S' → G W M0 S2 a' w' → Q .normal a' w') :
    ∀ (n : Nat) (L : List Done) (S : St) (listed : Array Bool) (a : Act) (w : World), L.length = n → LexRun E ops L S S' → L.Pairwise (fun x y => Pair ops x y ∧ x.1 < y.1) → (∀ x ∈ L, ops[x.1]? = some x.2.1 ∧ edgesBack x.1 x.2.1 = true) →
      listed.size = ops.size → (∀ i, listed.getD i true = false ↔ i ∈ L.map (·.1)) → Closed ops listed → G W M0 S a w → wpAny P .any ops Q n listed a w := by
  intro n
  induction n with
  | zero =>
    intro L S listed a w hl hr _ _ _ hc _ hG
    have : L = [] := List.eq_nil_of_length_eq_zero hl
    subst this
    refine ⟨?_, hQ S a w hr hG⟩
    unfold Region.ready
    rw [List.filter_eq_nil_iff]
    intro i _
    have : ¬ listed.getD i true = false := fun h => by have := (hc i).1 h; cases this
    have : listed.getD i true = true := by cases hx : listed.getD i true <;> simp_all
    simp [this]
  | succ n ih =>
    intro L S listed a w hl hr hp ho hsz hc hcl hG
    refine ⟨fun h0 => ?_, fun i hi => ?_⟩
    · exfalso
      match L, hl with
      | x :: L, _ =>
        have hx : x.1 ∈ Region.ready .any ops listed := by
          obtain ⟨hx1, hx2⟩ := ho x (by simp)
          have hlt : x.1 < ops.size := (Array.getElem?_eq_some_iff.1 hx1).1
          unfold Region.ready
          rw [List.mem_filter]
          refine ⟨List.mem_range.2 hlt, ?_⟩
          have hun : listed.getD x.1 true = false := (hc x.1).2 (by simp)
          rw [hx1, hun]
          simp only [Option.map_some, Option.getD_some, Bool.not_false, Bool.true_and]
          rw [Array.all_eq_true_iff_forall_mem]
          intro e he
          unfold edgesBack at hx2
          rw [List.all_eq_true] at hx2
          have h1 := hx2 e (by simpa using he)
          cases hbd : Region.binds .any e with
          | false => rfl
          | true =>
            rw [hbd] at h1
            simp only [Bool.not_true, Bool.false_or, decide_eq_true_eq] at h1
            have hno : e.on ∉ (x :: L).map (·.1) := by
              intro hm
              obtain ⟨y, hy, hye⟩ := List.mem_map.1 hm
              rcases List.mem_cons.1 hy with rfl | hy
              · omega
              · have := ((List.pairwise_cons.1 hp).1 y hy).2
                omega
            have hnf : ¬ listed.getD e.on true = false := fun h => hno ((hc e.on).1 h)
            have hlt2 : e.on < listed.size := by omega
            simp [hlt2] at hnf ⊢
            exact hnf
        rw [h0] at hx; cases hx
    · obtain ⟨hun, oi, hoi, hall⟩ := mem_ready.1 hi
      have hun' : listed.getD i true = false := hun
      have him := (hc i).1 hun'
      obtain ⟨k, hk, hki⟩ := List.mem_map.1 him
      obtain ⟨L1, L2, rfl⟩ := List.append_of_mem hk
      have hk0 := (ho k hk).1
      subst hki
      have hkall : ∀ e ∈ k.2.1.after.toList, Region.binds .any e = true → listed.getD e.on true = true := by
        intro e he hbd
        have h00 := hk0
        rw [hoi] at h00
        cases h00
        have h2 := hall e (by simpa using he) hbd
        by_cases hlt : e.on < listed.size
        · simpa [hlt] using h2
        · simp [hlt]
      have hfree : ∀ x ∈ L1, Free ops x k := by
        intro x hx
        have hpx := (List.pairwise_append.1 hp).2.2 x hx k (by simp)
        rcases hpx.1 with hw | hf | hwt
        · exfalso
          unfold waits at hw
          rw [List.any_eq_true] at hw
          obtain ⟨e, he, hb⟩ := hw
          simp only [Bool.and_eq_true, beq_iff_eq] at hb
          rw [hoi] at hk0
          cases hk0
          have h2 := hall e (by simpa using he) hb.1
          have hx0 : listed.getD x.1 true = false := (hc x.1).2 (List.mem_map_of_mem (List.mem_append.2 (.inl hx)))
          rw [hb.2] at h2
          have hlt : x.1 < listed.size := by
            have := (Array.getElem?_eq_some_iff.1 (ho x (List.mem_append.2 (.inl hx))).1).1
            omega
          simp [hlt] at h2 hx0
          rw [hx0] at h2; cases h2
        · exact hf
        · exfalso
          have hx0 : listed.getD x.1 true = false := (hc x.1).2 (List.mem_map_of_mem (List.mem_append.2 (.inl hx)))
          rw [waitsT_listed hcl 14 k.2.1 x.1 hkall hwt] at hx0
          cases hx0
      obtain ⟨h1, h2⟩ := to_front hfree hr
      have hp' : (L1 ++ L2).Pairwise (fun x y => Pair ops x y ∧ x.1 < y.1) := by
        refine hp.sublist ?_
        exact List.Sublist.append (List.Sublist.refl _) (List.sublist_cons_self _ _)
      have ho' : ∀ x ∈ L1 ++ L2, ops[x.1]? = some x.2.1 ∧ edgesBack x.1 x.2.1 = true := fun x hx => ho x (by
        rcases List.mem_append.1 hx with h | h
        · exact List.mem_append.2 (.inl h)
        · exact List.mem_append.2 (.inr (List.mem_cons_of_mem _ h)))
      have hne : ∀ x ∈ L1 ++ L2, x.1 ≠ k.1 := by
        intro x hx
        rcases List.mem_append.1 hx with h | h
        · have := ((List.pairwise_append.1 hp).2.2 x h k (by simp)).2; omega
        · have := ((List.pairwise_cons.1 (List.pairwise_append.1 hp).2.1).1 x h).2; omega
      have hc' : ∀ j, (listed.setIfInBounds k.1 true).getD j true = false ↔ j ∈ (L1 ++ L2).map (·.1) := by
        intro j
        rw [getD_set_list]
        by_cases hj : k.1 = j
        · rw [if_pos hj]
          constructor
          · intro h; cases h
          · intro h
            obtain ⟨x, hx, hxj⟩ := List.mem_map.1 h
            exact absurd (hxj.trans hj.symm) (hne x hx)
        · rw [if_neg hj, hc j]
          simp only [List.map_append, List.map_cons, List.mem_append, List.mem_cons]
          constructor
          · rintro (h | rfl | h)
            · exact .inl h
            · exact absurd rfl hj
            · exact .inr h
          · rintro (h | h)
            · exact .inl h
            · exact .inr (.inr h)
      have hcl' : Closed ops (listed.setIfInBounds k.1 true) := by
        intro i o hi hli e he hbd
        rw [getD_set_list] at hli ⊢
        split
        · rfl
        · by_cases hik : k.1 = i
          · subst hik
            rw [hi] at hk0; cases hk0
            exact hkall e he hbd
          · rw [if_neg hik] at hli
            exact hcl i o hi hli e he hbd
      have hlen : (L1 ++ L2).length = n := by simp at hl ⊢; omega
      have next : ∀ a' w', G W M0 (S.app k.2.1.dst k.2.2) a' w' → wpAny P .any ops Q n (listed.setIfInBounds k.1 true) a' w' := fun a' w' hG' =>
        ih (L1 ++ L2) _ _ a' w' hlen h2 hp' ho' (by simpa using hsz) hc' hcl' hG'
      unfold wpOp
      rw [hk0]
      dsimp only
      obtain ⟨hdr, inn, M, g⟩ := hG
      rcases opG_sound hE g h1 with ⟨hw, hs⟩ | ⟨hw, hs⟩
      · rw [if_pos hw]
        exact .inl (hs _ _ next)
      · rw [if_neg (by rw [hw]; simp)]
        exact next _ _ hs

theorem allOk_spec : ∀ {L : List Done}, allOk ops L = true → L.Pairwise (fun y x => Pair ops x y) ∧ ∀ y ∈ L, edgesBack y.1 y.2.1 = true
  | [], _ => ⟨.nil, fun y hy => by cases hy⟩
  | y :: r, h => by
    unfold allOk at h
    simp only [Bool.and_eq_true] at h
    obtain ⟨⟨h1, h2⟩, h3⟩ := h
    obtain ⟨k1, k2⟩ := allOk_spec h3
    refine ⟨List.pairwise_cons.2 ⟨fun x hx => ?_, k1⟩, fun z hz => ?_⟩
    · rw [List.all_eq_true] at h1
      have := h1 x hx
      simp only [Bool.or_eq_true, or_assoc] at this
      exact this
    · rcases List.mem_cons.1 hz with rfl | hz
      · exact h2
      · exact k2 z hz

theorem runDraw_lex {k : List Done → St → Option R} {r : R} : ∀ (l : List Oper) (i : Nat) (acc : List Done) (S : St), runDraw E ops i l acc S k = some r →
    ∃ L S', LexRun E ops L S S' ∧ L.map (fun x => (x.1, x.2.1)) = (l.zipIdx i).map (fun p => (p.2, p.1)) ∧ k (L.reverse ++ acc) S' = some r
  | [], i, acc, S, h => ⟨[], S, .refl S, rfl, h⟩
  | o :: rest, i, acc, S, h => by
    unfold runDraw at h
    obtain ⟨e, h1, h2⟩ := guard_some h
    rw [appK_eq] at h2
    obtain ⟨L, S', k1, k2, k3⟩ := runDraw_lex rest (i + 1) _ _ h2
    refine ⟨(i, o, e) :: L, S', ⟨h1, k1⟩, ?_, ?_⟩
    · simp only [List.map_cons, List.zipIdx_cons, k2]
    · simpa using k3

theorem draw_sound {id : Nat} {Q : Exit → Act → World → Prop} (hE : EnvOK P E) {k : St → Option R} {r : R} {S : St} {a : Act} {w : World}
    (h : runDraw E ops 0 ops.toList [] S (fun acc S => chk (allOk ops acc) (k S)) = some r) (hG : G W M0 S a w) (hQ : ∀ S' S2 a' w', k S' = some r → Same S2 S' → G W M0 S2 a' w' → Q .normal a' w') : (Code.region id ops true).wp P Q a w := by
  obtain ⟨L, S', k1, k2, k3⟩ := runDraw_lex _ _ _ _ h
  obtain ⟨c1, c2⟩ := chk_some k3
  rw [List.append_nil] at c1
  obtain ⟨p1, p2⟩ := allOk_spec c1
  rw [List.pairwise_reverse] at p1
  have hlen : L.length = ops.size := by
    have := congrArg List.length k2
    simpa using this
  have hget : ∀ (j : Nat) x, L[j]? = some x → x.1 = j ∧ ops[j]? = some x.2.1 := by
    intro j x hx
    have h1 : (L.map (fun x => (x.1, x.2.1)))[j]? = some (x.1, x.2.1) := by rw [List.getElem?_map, hx]; rfl
    rw [k2, List.getElem?_map, List.getElem?_zipIdx] at h1
    cases ho : ops.toList[j]? with
    | none => rw [ho] at h1; simp at h1
    | some y =>
      rw [ho] at h1
      simp at h1
      obtain ⟨e1, e2⟩ := h1
      exact ⟨e1.symm, by rw [← e2]; simpa using ho⟩
  refine wp_region_any hE.mix ?_
  have hG' : G W M0 S a { w with drawn := w.drawn + 1 } := by
    obtain ⟨hdr, inn, M, g⟩ := hG
    exact ⟨hdr, inn, M, g.drew⟩
  refine draw_any hE (fun S2 a' w' hs hg => hQ S' S2 a' w' c2 hs hg) ops.size L S _ a _ hlen k1 ?_ ?_ (by simp) ?_ (fun i o hi hli => ?_) hG'
  · rw [List.pairwise_iff_getElem] at p1 ⊢
    intro i j hi hj hij
    refine ⟨p1 i j hi hj hij, ?_⟩
    have e1 := (hget i L[i] (List.getElem?_eq_getElem hi)).1
    have e2 := (hget j L[j] (List.getElem?_eq_getElem hj)).1
    omega
  · intro x hx
    obtain ⟨j, hj, rfl⟩ := List.getElem_of_mem hx
    obtain ⟨e1, e2⟩ := hget j L[j] (List.getElem?_eq_getElem hj)
    exact ⟨by rw [e1]; exact e2, p2 _ (List.mem_reverse.2 hx)⟩
  · intro i
    have hm : i ∈ L.map (·.1) ↔ i < ops.size := by
      constructor
      · intro h
        obtain ⟨x, hx, rfl⟩ := List.mem_map.1 h
        obtain ⟨j, hj, rfl⟩ := List.getElem_of_mem hx
        rw [(hget j L[j] (List.getElem?_eq_getElem hj)).1]; omega
      · intro h
        have hj : i < L.length := by omega
        refine List.mem_map.2 ⟨L[i], List.getElem_mem hj, (hget i L[i] (List.getElem?_eq_getElem hj)).1⟩
    rw [hm]
    by_cases hi : i < ops.size
    · simp [hi]
    · simp [hi]
  · have : i < ops.size := (Array.getElem?_eq_some_iff.1 hi).1
    simp [this] at hli
end
end Rx
end Go.Proofs.YthfgpnpoocepeaaGreat
