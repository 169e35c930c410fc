/- Texts of trains read: both programs alike. No program in sight. No conditions. -/
import Derived.Test.YtfapjkcmoefilaaGreatDoorRxReadLaw
import Derived.Test.YtfapjkcmoefilaaGreatDoorRxReadT
namespace Go.Proofs.YtfapjkcmoefilaaGreatDoor
namespace Rx
open Go

/-! ### Pieces -/
theorem cutL_mem {c : UInt8} : ∀ (l p : List UInt8), p ∈ cutL c l → c ∉ p
  | [], p, h => by
    have : p = [] := by simpa [cutL] using h
    rw [this]; simp
  | b :: l, p, h => by
    rw [cutL] at h
    by_cases hb : b = c
    · rw [if_pos hb] at h
      rcases List.mem_cons.1 h with h | h
      · rw [h]; simp
      · exact cutL_mem l p h
    · rw [if_neg hb] at h
      obtain ⟨x, r, e⟩ := List.exists_cons_of_ne_nil (cutL_ne c l)
      have hx := cutL_mem l x (by rw [e]; simp)
      rw [e] at h
      rcases List.mem_cons.1 h with h | h
      · have h : p = b :: x := h
        rw [h]
        intro hc
        rcases List.mem_cons.1 hc with e' | e'
        · exact hb e'.symm
        · exact hx e'
      · exact cutL_mem l p (by rw [e]; exact List.mem_cons_of_mem _ h)
theorem cutL_len {c : UInt8} : ∀ (l p : List UInt8), p ∈ cutL c l → p.length ≤ l.length
  | [], p, h => by
    have : p = [] := by simpa [cutL] using h
    rw [this]; simp
  | b :: l, p, h => by
    rw [cutL] at h
    by_cases hb : b = c
    · rw [if_pos hb] at h
      rcases List.mem_cons.1 h with h | h
      · rw [h]; simp
      · have := cutL_len l p h
        simp; omega
    · rw [if_neg hb] at h
      obtain ⟨x, r, e⟩ := List.exists_cons_of_ne_nil (cutL_ne c l)
      have hx := cutL_len l x (by rw [e]; simp)
      rw [e] at h
      rcases List.mem_cons.1 h with h | h
      · have h : p = b :: x := h
        rw [h]; simp; exact hx
      · have := cutL_len l p (by rw [e]; exact List.mem_cons_of_mem _ h)
        simp; omega
theorem cutL_glue {c : UInt8} : ∀ (xs : List (List UInt8)), xs ≠ [] → (∀ x ∈ xs, c ∉ x) → cutL c (glueL c xs) = xs
  | [], h, _ => (h rfl).elim
  | [x], _, h => cutL_no (h x (by simp))
  | x :: y :: r, _, h => by
    show cutL c (x ++ c :: glueL c (y :: r)) = _
    rw [cutL_hit _ (h x (by simp)), cutL_glue (y :: r) (by simp) (fun z hz => h z (List.mem_cons_of_mem _ hz))]
theorem index_app {c : UInt8} : ∀ (a b : List UInt8), c ∉ a → Lib.indexByte (a ++ c :: b) c = (a.length : Int)
  | [], b, _ => by
    rw [List.nil_append, Lib.indexByte, if_pos (by simp)]; rfl
  | x :: a, b, h => by
    have hx : ¬ (x == c) = true := fun e => h (by rw [beq_iff_eq.1 e]; simp)
    have ih := index_app a b (fun e : c ∈ a => h (List.mem_cons_of_mem _ e))
    rw [List.cons_append, Lib.indexByte, if_neg hx, ih, if_neg (by rw [beq_iff_eq]; omega), List.length_cons]
    omega
theorem cut_of {c : UInt8} {a b : List UInt8} (h : c ∉ a) : Lib.cut (a ++ c :: b) [c] = (a, b, true) := by
  unfold Lib.cut
  rw [(Lib.index_one _ _).trans (index_app a b h), if_pos (by omega)]
  have e1 : ((a.length : Int)).toNat = a.length := by omega
  rw [e1]
  simp
theorem glue_join {c : UInt8} : ∀ (x : List UInt8) (r : List (List UInt8)), glueL c (x :: r) = Lib.join (x :: r) [c]
  | x, [] => by rw [Lib.join_cons]; simp [glueL, Lib.joinTail]
  | x, y :: r => by
    show x ++ c :: glueL c (y :: r) = _
    rw [glue_join y r, Lib.join_cons, Lib.join_cons]
    simp [Lib.joinTail]
theorem itoa_mem {n : Int} {b : UInt8} (h : b ∈ Lib.itoa n) : isD b = true ∨ b = 45 := by
  unfold Lib.itoa at h
  split at h
  · rcases List.mem_cons.1 h with h | h
    · exact .inr h
    · exact .inl (dig_is _ b h)
  · exact .inl (dig_is _ b h)
theorem itoa_no {n : Int} {c : UInt8} (h1 : isD c = false) (h2 : c ≠ 45) : c ∉ Lib.itoa n := fun h => by
  rcases itoa_mem h with e | e
  · rw [h1] at e; cases e
  · exact h2 e
theorem pairB_list (y : Int × Int) : (pairB y).data.toList = Lib.itoa y.1 ++ 58 :: Lib.itoa y.2 := by
  unfold pairB
  rw [ba_app, ba_app]
  show (Lib.itoa y.1 ++ [58]) ++ Lib.itoa y.2 = _
  simp
theorem pairB_no (y : Int × Int) : (32 : UInt8) ∉ (pairB y).data.toList := by
  rw [pairB_list]
  intro h
  rcases List.mem_append.1 h with h | h
  · exact itoa_no (by decide) (by decide) h
  · rcases List.mem_cons.1 h with h | h
    · exact absurd h (by decide)
    · exact itoa_no (by decide) (by decide) h
theorem trainB_cut {l : List (Int × Int)} (h0 : l ≠ []) : cutL 32 (trainB l).data.toList = l.map fun y => (pairB y).data.toList := by
  unfold trainB
  rw [if_neg h0, ba_list]
  obtain ⟨y, r, rfl⟩ := List.exists_cons_of_ne_nil h0
  rw [List.map_cons, ← glue_join, ← List.map_cons (f := fun y => (pairB y).data.toList)]
  exact cutL_glue _ (by simp) (fun x hx => by
    obtain ⟨z, _, rfl⟩ := List.mem_map.1 hx
    exact pairB_no z)

/-! ### One word -/
noncomputable def pI (x : BA) : Int × Int := ((numF (ba (Lib.cut x.data.toList [58]).1)).1, (numF (ba (Lib.cut x.data.toList [58]).2.1)).1)
/-- The reference finds two numbers. -/
def two (x : BA) : Prop := ∃ a b, cutL 58 x.data.toList = [a, b] ∧ (numF (ba a)).2 = true ∧ (numF (ba b)).2 = true
theorem cut_two {l a b : List UInt8} (h : cutL 58 l = [a, b]) : Lib.cut l [58] = (a, b, true) := by
  have hg := glue_cut 58 l
  rw [h] at hg
  have hg : a ++ 58 :: b = l := hg
  rw [← hg]
  exact cut_of (cutL_mem l a (by rw [h]; simp))
theorem pI_two {x : BA} {a b : List UInt8} (h : cutL 58 x.data.toList = [a, b]) : pI x = ((numF (ba a)).1, (numF (ba b)).1) := by
  unfold pI
  rw [cut_two h]
/-- A word of two numbers is the text of its pair. -/
theorem two_text {x : BA} (h : two x) : pairB (pI x) = x := by
  obtain ⟨a, b, h1, h2, h3⟩ := h
  rw [pI_two h1]
  have hg := glue_cut 58 x.data.toList
  rw [h1] at hg
  have hg : a ++ 58 :: b = x.data.toList := hg
  apply ba_ext
  rw [pairB_list, ← hg]
  have e1 := numF_canon h2
  have e2 := numF_canon h3
  have e1 : Lib.itoa (numF (ba a)).1 = a := congrArg (fun z : BA => z.data.toList) e1
  have e2 : Lib.itoa (numF (ba b)).1 = b := congrArg (fun z : BA => z.data.toList) e2
  show Lib.itoa (numF (ba a)).1 ++ 58 :: Lib.itoa (numF (ba b)).1 = _
  rw [e1, e2]
theorem numF_zero {s : BA} (h : (numF s).1 ≠ 0) : (numF s).2 = true := by
  unfold numF at h ⊢
  split
  · rfl
  · rename_i h1
    rw [if_neg h1] at h
    exact (h rfl).elim
/-- A text of a pair of teeth that is read back. -/
theorem text_two {x : BA} (h : pairB (pI x) = x) (hok : okP (pI x) = true) : two x := by
  have hb := okP_bd hok
  have hl : x.data.toList = Lib.itoa (pI x).1 ++ 58 :: Lib.itoa (pI x).2 := (congrArg (fun z : BA => z.data.toList) h).symm.trans (pairB_list _)
  have hn : ∀ n, (58 : UInt8) ∉ Lib.itoa n := fun n => itoa_no (by decide) (by decide)
  have hc : Lib.cut x.data.toList [58] = (Lib.itoa (pI x).1, Lib.itoa (pI x).2, true) := by
    conv => lhs; rw [hl]
    exact cut_of (hn _)
  have hp : cutL 58 x.data.toList = [Lib.itoa (pI x).1, Lib.itoa (pI x).2] := by
    conv => lhs; rw [hl]
    rw [cutL_hit _ (hn _), cutL_no (hn _)]
  refine ⟨_, _, hp, numF_zero ?_, numF_zero ?_⟩
  · have e := congrArg Prod.fst (pI_two hp)
    have e : (pI x).1 = (numF (ba (Lib.itoa (pI x).1))).1 := e
    rw [← e]; omega
  · have e := congrArg Prod.snd (pI_two hp)
    have e : (pI x).2 = (numF (ba (Lib.itoa (pI x).2))).1 := e
    rw [← e]; omega

/-! ### All words -/
theorem words_iff {s : BA} {W : List BA} (hW : (cutL 32 s.data.toList).map ba = W) (hok : ∀ x ∈ W, okP (pI x) = true) : trainB (W.map pI) = s ↔ ∀ x ∈ W, two x := by
  have hne : W ≠ [] := by
    intro e
    rw [e] at hW
    exact cutL_ne 32 s.data.toList (List.map_eq_nil_iff.1 hW)
  have hm : W.map (fun x : BA => x.data.toList) = cutL 32 s.data.toList := by
    rw [← hW, List.map_map]
    exact (List.map_congr_left fun x _ => rfl).trans (List.map_id _)
  have hmne : W.map pI ≠ [] := by simpa using hne
  constructor
  · intro h x hx
    have h1 := trainB_cut hmne
    rw [h, ← hm, List.map_map] at h1
    have h2 : x.data.toList = (pairB (pI x)).data.toList := List.map_inj_left.1 h1 x hx
    exact text_two (ba_ext h2.symm) (hok x hx)
  · intro h
    apply ba_ext
    have hg := glue_cut 32 s.data.toList
    rw [← hm] at hg
    rw [← hg]
    unfold trainB
    rw [if_neg hmne, ba_list, List.map_map]
    have e : W.map (fun x : BA => x.data.toList) = W.map ((fun y => (pairB y).data.toList) ∘ pI) := List.map_congr_left fun x hx => by
      show x.data.toList = (pairB (pI x)).data.toList
      rw [two_text (h x hx)]
    rw [← e]
    obtain ⟨y, r, rfl⟩ := List.exists_cons_of_ne_nil hne
    rw [List.map_cons, glue_join]

/-! ### The program -/
theorem cut_len (l : List UInt8) : (Lib.cut l [58]).1.length ≤ l.length ∧ (Lib.cut l [58]).2.1.length ≤ l.length := by
  unfold Lib.cut
  split
  · exact ⟨by simp; omega, by simp⟩
  · exact ⟨Nat.le_refl _, by simp⟩
theorem cutX_eq {x : BA} (h : x.size < 4294967281) : cutX (x, (⟨⟨[(58 : UInt8)]⟩⟩ : ByteArray)) = some (ba (Lib.cut x.data.toList [58]).1, ba (Lib.cut x.data.toList [58]).2.1, (Lib.cut x.data.toList [58]).2.2) := by
  unfold cutX
  rw [if_pos h]
theorem trainIL_eq {s : BA} {W : List BA} (hl : W.length ≤ 4294967290) (hs : ∀ x ∈ W, x.size ≤ 1048576) : readTrainIL (s, [], W, (W.length : Int), 0) = some (s, W.map pI, W, (W.length : Int), (W.length : Int)) := by
  have hf := fold_loop (step := readTrainIL_step) (l := W) (fun i (a : List (Int × Int)) => (s, a, W, (W.length : Int), i)) (fun a y => a ++ [pI y]) (fun i a => (a.length : Int) ≤ i) (fun a => (s, a, W, (W.length : Int), (W.length : Int)))
    (fun i a y h0 h1 hy hJ => by
      have hg : W[i.toNat]? = some y := by
        unfold idx at hy
        rwa [if_pos h0] at hy
      have hsz := hs y (List.mem_of_getElem? hg)
      have hc := cut_len y.data.toList
      rw [← ba_size] at hc
      have e5 : IntKind.i64.wrap (i + 1) = i + 1 := w64 (by omega) (by omega)
      refine ⟨?_, by simp; omega⟩
      unfold readTrainIL_step
      dsimp only
      rw [br_t (by simpa using h1), ob_some' hy, ob_some' ((List.get?Internal_eq_getElem? ..).trans hg), ob_some' (cutX_eq (by omega)), ob_some' (readX_eq (by rw [ba_len]; omega)), ob_some' (readX_eq (by rw [ba_len]; omega)), br_t (by simp; omega), e5]
      rfl)
    (fun a _ => by
      show br (decide ((W.length : Int) < (W.length : Int))) _ _ = _
      rw [br_f (by simp)]) (n := ((W.length : Int) - 0).toNat + 1) (by omega) (a0 := []) (by simp)
  have h2 := hf.1
  rw [foldl_append] at h2
  exact h2
def minusB : BA := ⟨⟨[45]⟩⟩
theorem W_facts {s : BA} (h : s.size ≤ 1048576) : ((cutL 32 s.data.toList).map ba).length ≤ 1048577 ∧ ∀ x ∈ (cutL 32 s.data.toList).map ba, x.size ≤ 1048576 := by
  refine ⟨?_, fun x hx => ?_⟩
  · have : ∀ l : List UInt8, (cutL 32 l).length ≤ l.length + 1 := by
      intro l
      induction l with
      | nil => simp [cutL]
      | cons b l ih =>
        rw [cutL]
        split
        · simp; omega
        · have := List.length_tail (l := cutL 32 l)
          simp only [List.length_cons]
          omega
    have := this s.data.toList
    rw [← ba_size] at this
    simp; omega
  · obtain ⟨p, hp, rfl⟩ := List.mem_map.1 hx
    have := cutL_len _ p hp
    rw [← ba_size] at this
    rw [ba_len]; omega
open Classical in
noncomputable def trainF (s : BA) : List (Int × Int) × Bool :=
  if ((((cutL 32 s.data.toList).map ba).map pI).all okP = true ∧ ((cutL 32 s.data.toList).map ba).length ≤ 5) ∧ ∀ x ∈ (cutL 32 s.data.toList).map ba, two x then (((cutL 32 s.data.toList).map ba).map pI, true) else ([], false)
theorem readTrainI_eq {s : BA} (h : s.size ≤ 1048576) (hne : s ≠ minusB) : readTrainI s = some (trainF s) := by
  obtain ⟨f1, f2⟩ := W_facts h
  unfold readTrainI trainF
  have hb : (ByteArray.toList s == ByteArray.toList (⟨⟨[(45 : UInt8)]⟩⟩ : ByteArray)) = false := Bool.eq_false_iff.2 (fun h => hne (beq_list.1 h))
  rw [br_t (by rw [hb]; rfl), ob_some' (wordsI_eq h)]
  generalize hW : (cutL 32 s.data.toList).map ba = W at f1 f2
  rw [ob_some' (trainIL_eq (by omega) f2)]
  dsimp only
  have hL : (W.map pI).length ≤ 4294967296 := by simp; omega
  rw [ob_some' (validTrainI_eq hL)]
  by_cases hv : ((W.map pI).all okP && decide (((W.map pI).length : Int) ≤ 5)) = true
  · have hv' := hv
    simp only [Bool.and_eq_true, decide_eq_true_eq] at hv'
    obtain ⟨v1, v2⟩ := hv'
    have v3 : W.length ≤ 5 := by simp at v2; omega
    have hall : ∀ y ∈ W.map pI, okP y = true := List.all_eq_true.1 v1
    rw [br_f (by rw [hv]; rfl), ob_some' (trainTextI_eq (v := true) ((validTrainI_eq hL).trans (congrArg some hv)) (fun _ => ⟨by simp; omega, hall⟩)), if_pos rfl]
    have hiff := words_iff hW (fun x hx => hall _ (List.mem_map_of_mem hx))
    by_cases hs : trainB (W.map pI) = s
    · rw [br_f (by rw [beq_list.2 hs]; rfl), if_pos ⟨⟨v1, v3⟩, hiff.1 hs⟩]
    · rw [br_t (by rw [Bool.eq_false_iff.2 (fun h => hs (beq_list.1 h))]; rfl), if_neg (fun h => hs (hiff.2 h.2))]
  · rw [br_t (by rw [Bool.eq_false_iff.2 hv]; rfl), if_neg (fun h => hv (by
      simp only [Bool.and_eq_true, decide_eq_true_eq]
      exact ⟨h.1.1, by have := h.1.2; simp; omega⟩))]

/-! ### The reference -/
/-! ### The law -/
def mkPr (k : Int) : Int × Int := (k, k + 1)
end Rx
end Go.Proofs.YtfapjkcmoefilaaGreatDoor
