/- The reference's products: all of them, sorted, the first that is great enough. No program in sight. -/
import Derived.Test.YthfgpnpoocepeaaGreatRxCanonLaw
namespace Go.Proofs.YthfgpnpoocepeaaGreat
namespace Rx
open Go

noncomputable section
def pw (l : List Int) : Int × List Int := (prodW l, l)
theorem idx_mem {α : Type} {l : List α} {i : Int} {y : α} (h : idx l i = some y) : y ∈ l := by
  unfold idx at h
  split at h
  · exact List.mem_of_getElem? h
  · cases h
theorem prodS00_eq {lo hi lo' c k t i : Int} {ls : List (List Int)} {acc : List (Int × List Int)} {l : List Int} {n : Nat} (hw : IsW lo' hi n l) (hlo : 1 ≤ lo') (hn : n ≤ 2) (hi' : idx (ls.map pw) i = some (pw l)) (ha : acc.length ≤ 1000000) (h1 : 0 ≤ t) (h2 : hi ≤ 120) :
    ∃ t', prodS00 (lo, hi, c, ls.map pw, k, acc, i, t) = some (lo, hi, c, ls.map pw, k, acc ++ (rangeI t hi).map (fun u => pw (l ++ [u])), i, t') := by
  have hlen : (rangeI t hi).length ≤ 121 := by rw [rangeI_len]; omega
  have hb := prod_bd3 hlo h2 (by omega) hw
  have hl := hw.len
  have := fold_loop (step := prodS00_step) (l := rangeI t hi) (fun j a => (lo, hi, c, ls.map pw, k, a, i, t + j)) (fun a y => a ++ [pw (l ++ [y])]) (fun j a => a.length ≤ acc.length + j.toNat)
    (fun a => (lo, hi, c, ls.map pw, k, a, i, t + ((rangeI t hi).length : Int))) (fun j a y hk0 hk1 hy hJ => ?_) (fun a hJ => ?_) (n := prodS00_fuel (lo, hi, c, ls.map pw, k, acc, i, t)) ?_ (a0 := acc) (by simp)
  · refine ⟨t + ((rangeI t hi).length : Int), ?_⟩
    have h := this.1
    rw [foldl_append (fun u => pw (l ++ [u]))] at h
    rw [show t + (0 : Int) = t by omega] at h
    exact h
  · obtain ⟨rfl, _⟩ := rangeI_get hy
    rw [rangeI_len] at hk1
    have e1 : 1 * 0 ≤ prodW l * (t + j) := Int.mul_le_mul hb.1 (by omega) (by omega) (by omega)
    have e2 : prodW l * (t + j) ≤ 1728000 * 120 := Int.mul_le_mul hb.2 (by omega) (by omega) (by omega)
    refine ⟨?_, ?_⟩
    · unfold prodS00_step
      dsimp only
      rw [br_t (by simp; omega), hi', ob_s, ob_s]
      unfold pw
      dsimp only
      rw [ownS_eq (by omega), ob_s, br_t (by simp; omega), br_t (by simp; omega), w64 (by omega) (by omega), w64 (by omega) (by omega), Int.add_assoc, prodW_snoc]
    · simp only [List.length_append, List.length_cons, List.length_nil]; omega
  · unfold prodS00_step
    dsimp only
    rw [br_f (by rw [rangeI_len]; simp; omega)]
  · rw [rangeI_len]
    show _ < (hi + 1 - t).toNat + 1
    omega
theorem map_idx {α β : Type} {f : α → β} {l : List α} {i : Int} {y : α} (h : idx l i = some y) : idx (l.map f) i = some (f y) := by
  unfold idx at *
  split at h
  · rename_i h0
    rw [if_pos h0, List.getElem?_map, h]; rfl
  · cases h
theorem prodS0_eq {lo hi c : Int} {n : Nat} (h1 : 1 ≤ lo) (h2 : hi ≤ 120) (h3 : hi ≤ lo + 30) (hn : n ≤ 2) {ls : List (List Int)} (hls : ls = wheels lo hi n) :
    ∃ t o, prodS0 (lo, hi, c, ls.map pw, (n : Int), [], 0) = some (lo, hi, c, o, (n : Int), (wheels lo hi (n + 1)).map pw, t) := by
  have hW : ∀ l ∈ ls, IsW lo hi n l := fun l h => wheels_is (by rw [← hls]; exact h)
  have hlen : ls.length ≤ 1000 := by
    have := wheels_len h3 n
    rw [← hls] at this
    rcases (by omega : n = 0 ∨ n = 1 ∨ n = 2) with rfl | rfl | rfl <;> omega
  have := fold_loop (step := prodS0_step) (l := ls) (fun k a => (lo, hi, c, ls.map pw, (n : Int), a, k)) (fun a y => a ++ (nextW lo hi y).map pw) (fun k a => a.length ≤ 31 * k.toNat)
    (fun a => (lo, hi, c, ls.map pw, (n : Int), a, (ls.length : Int))) (fun k a y hk0 hk1 hy hJ => ?_) (fun a hJ => ?_) (n := prodS0_fuel (lo, hi, c, ls.map pw, (n : Int), [], 0)) ?_ (a0 := []) (by simp)
  · refine ⟨(ls.length : Int), ls.map pw, ?_⟩
    have h := this.1
    have e : ∀ (l : List (List Int)) (a : List (Int × List Int)), l.foldl (fun a y => a ++ (nextW lo hi y).map pw) a = a ++ (l.flatMap (nextW lo hi)).map pw := by
      intro l
      induction l with
      | nil => intro a; simp
      | cons x l ih => intro a; rw [List.foldl_cons, ih, List.flatMap_cons, List.map_append, List.append_assoc]
    rw [e, List.nil_append] at h
    rw [show wheels lo hi (n + 1) = ls.flatMap (nextW lo hi) by rw [hls]; rfl]
    exact h
  · have hw := hW y (idx_mem hy)
    have hyl := hw.len
    have hnx := nextW_len h3 hw
    have hm := map_idx (f := pw) hy
    refine ⟨?_, ?_⟩
    · unfold prodS0_step
      dsimp only
      rw [br_t (by simp; omega)]
      by_cases hz : n = 0
      · subst hz
        obtain rfl := List.length_eq_zero_iff.1 hyl
        rw [br_f (by simp)]
        obtain ⟨t', h⟩ := prodS00_eq (lo := lo) (c := c) (k := ((0 : Nat) : Int)) (t := lo) (acc := a) hw h1 (by omega) hm (by omega) (by omega) h2
        rw [h, ob_s]
        dsimp only
        rw [w64 (by omega) (by omega)]
        simp [nextW]
      · have hne : y ≠ [] := fun e => by rw [e] at hyl; simp at hyl; omega
        rw [br_t (by simp; omega), hm, ob_s, w64 (by omega) (by omega), show (pw y).2 = y from rfl, ← hyl, last_idx (lo := lo) hne, ob_s, hyl]
        obtain ⟨t', h⟩ := prodS00_eq (lo := lo) (c := c) (k := (n : Int)) (t := y.getLast?.getD lo) (acc := a) hw h1 (by omega) hm (by omega) (by
          cases e : y.getLast? with
          | none => simp; omega
          | some u => have := (hw.bd u (last_mem e)).1; simp; omega) h2
        rw [h, ob_s]
        dsimp only
        rw [w64 (by omega) (by omega)]
        simp [nextW]
    · rw [List.length_append, List.length_map]; omega
  · unfold prodS0_step
    dsimp only
    rw [br_f (by simp)]
  · show ls.length < ((ls.map pw).length - (0 : Int).toNat) + 1
    rw [List.length_map]; omega
theorem productsS_eq {lo hi : Int} (h1 : 1 ≤ lo) (h2 : hi ≤ 120) (h3 : hi ≤ lo + 30) {n : Nat} (hn : n ≤ 3) : productsS (lo, hi, (n : Int)) = some ((wheels lo hi n).map pw) := by
  have := iterP_end (step := prodSL_step) (fun x => ∃ k : Nat, k ≤ n ∧ x = (lo, hi, (n : Int), (wheels lo hi k).map pw, (k : Int))) (fun x => ∃ c, x = (lo, hi, (n : Int), (wheels lo hi n).map pw, c)) (fun x => (x.2.2.1 - x.2.2.2.2).toNat) ?_
    (prodSL_fuel (lo, hi, (n : Int), [(1, [])], 0)) (lo, hi, (n : Int), [(1, [])], 0) ⟨0, by omega, rfl⟩ (by show _ < _ + 1; omega)
  · obtain ⟨_, h, c, rfl⟩ := this
    unfold productsS
    rw [show prodSL (lo, hi, (n : Int), [(1, [])], 0) = _ from h, ob_s]
  · rintro _ ⟨k, hk, rfl⟩
    by_cases hlt : k < n
    · obtain ⟨t, o, h⟩ := prodS0_eq (lo := lo) (hi := hi) (c := (n : Int)) (n := k) h1 h2 h3 (by omega) rfl
      refine ⟨.next, (lo, hi, (n : Int), (wheels lo hi (k + 1)).map pw, ((k + 1 : Nat) : Int)), ?_, fun _ => ⟨⟨k + 1, by omega, rfl⟩, ?_⟩, fun h => (by cases h), by intro h; cases h⟩
      · unfold prodSL_step
        dsimp only
        rw [br_t (by simp; omega), h, ob_s]
        dsimp only
        rw [w64 (by omega) (by omega)]
        rfl
      · show ((n : Int) - ((k + 1 : Nat) : Int)).toNat < ((n : Int) - (k : Int)).toNat
        omega
    · obtain rfl : k = n := by omega
      refine ⟨.out, (lo, hi, (k : Int), (wheels lo hi k).map pw, (k : Int)), ?_, fun h => (by cases h), fun _ => ⟨(k : Int), rfl⟩, by intro h; cases h⟩
      unfold prodSL_step
      dsimp only
      rw [br_f (by simp)]

/-! ### Sorted products -/
def ascP (l : List (Int × List Int)) : Prop := l.Pairwise fun a b => a.1 ≤ b.1
structure MInv (a b : List (Int × List Int)) (i k : Nat) (o : List (Int × List Int)) : Prop where
  hi : i ≤ a.length
  hk : k ≤ b.length
  perm : o.Perm (a.take i ++ b.take k)
  asc : ascP o
  la : ∀ z ∈ o, ∀ y ∈ a.drop i, z.1 ≤ y.1
  lb : ∀ z ∈ o, ∀ y ∈ b.drop k, z.1 ≤ y.1
theorem asc_snoc {o : List (Int × List Int)} {y : Int × List Int} (h : ascP o) (hy : ∀ z ∈ o, z.1 ≤ y.1) : ascP (o ++ [y]) :=
  List.pairwise_append.2 ⟨h, by simp, fun a ha b hb => by simp at hb; subst hb; exact hy a ha⟩
theorem asc_head {a : List (Int × List Int)} {i : Nat} (h : ascP a) (hi : i < a.length) : ∀ y ∈ a.drop (i + 1), (a[i]).1 ≤ y.1 := by
  have : ascP (a.drop i) := h.sublist (List.drop_sublist _ _)
  rw [List.drop_eq_getElem_cons hi] at this
  exact (List.pairwise_cons.1 this).1
theorem drop_head {α : Type} {a : List α} {i : Nat} (hi : i < a.length) : a[i] ∈ a.drop i := by
  have := List.mem_cons_self (a := a[i]) (l := a.drop (i + 1))
  rwa [← List.drop_eq_getElem_cons hi] at this
theorem drop_tail {α : Type} {a : List α} {i : Nat} {y : α} (hi : i < a.length) (hy : y ∈ a.drop (i + 1)) : y ∈ a.drop i := by
  have := List.mem_cons_of_mem a[i] hy
  rwa [← List.drop_eq_getElem_cons hi] at this
theorem MInv.left {a b o : List (Int × List Int)} {i k : Nat} (h : MInv a b i k o) (ha : ascP a) (hi : i < a.length) (hb : ∀ y ∈ b.drop k, (a[i]).1 ≤ y.1) : MInv a b (i + 1) k (o ++ [a[i]]) where
  hi := by omega
  hk := h.hk
  perm := by
    rw [List.take_add_one, List.getElem?_eq_getElem hi, Option.toList_some, List.append_assoc]
    refine (h.perm.append_right _).trans ?_
    rw [List.append_assoc]
    exact List.Perm.append_left _ List.perm_append_comm
  asc := asc_snoc h.asc fun z hz => h.la z hz _ (drop_head hi)
  la := fun z hz y hy => by
    rcases List.mem_append.1 hz with hz | hz
    · exact h.la z hz y (drop_tail hi hy)
    · simp at hz; subst hz; exact asc_head ha hi y hy
  lb := fun z hz y hy => by
    rcases List.mem_append.1 hz with hz | hz
    · exact h.lb z hz y hy
    · simp at hz; subst hz; exact hb y hy
theorem MInv.right {a b o : List (Int × List Int)} {i k : Nat} (h : MInv a b i k o) (hb : ascP b) (hk : k < b.length) (ha : ∀ y ∈ a.drop i, (b[k]).1 ≤ y.1) : MInv a b i (k + 1) (o ++ [b[k]]) where
  hi := h.hi
  hk := by omega
  perm := by
    rw [List.take_add_one, List.getElem?_eq_getElem hk, Option.toList_some, ← List.append_assoc]
    exact h.perm.append_right _
  asc := asc_snoc h.asc fun z hz => h.lb z hz _ (drop_head hk)
  la := fun z hz y hy => by
    rcases List.mem_append.1 hz with hz | hz
    · exact h.la z hz y hy
    · simp at hz; subst hz; exact ha y hy
  lb := fun z hz y hy => by
    rcases List.mem_append.1 hz with hz | hz
    · exact h.lb z hz y (drop_tail hk hy)
    · simp at hz; subst hz; exact asc_head hb hk y hy
theorem MInv.len {a b o : List (Int × List Int)} {i k : Nat} (h : MInv a b i k o) : o.length = i + k := by
  have := h.perm.length_eq
  have := h.hi; have := h.hk
  rw [List.length_append, List.length_take, List.length_take] at *
  omega
theorem get_idx {α : Type} {l : List α} {i : Nat} (h : i < l.length) : idx l (i : Int) = some l[i] := idx_nat (by omega) (by rw [Int.toNat_natCast]; exact List.getElem?_eq_getElem h)
theorem mergeSL0_eq {a b o : List (Int × List Int)} {i k : Nat} (ha : ascP a) (hb : ascP b) (hla : a.length ≤ 100000) (hlb : b.length ≤ 100000) (h : MInv a b i k o) (hk : k < b.length) :
    ∃ i' o', mergeSL0 (a, b, o, (i : Int), (k : Int)) = some (a, b, o', ((i' : Nat) : Int), (k : Int)) ∧ MInv a b i' k o' ∧ ∀ y ∈ a.drop i', (b[k]).1 ≤ y.1 := by
  have := iterP_end (step := mergeSL0_step) (fun x => ∃ (i : Nat) (o : List (Int × List Int)), x = (a, b, o, (i : Int), (k : Int)) ∧ MInv a b i k o) (fun x => ∃ (i : Nat) (o : List (Int × List Int)), x = (a, b, o, (i : Int), (k : Int)) ∧ MInv a b i k o ∧ ∀ y ∈ a.drop i, (b[k]).1 ≤ y.1)
    (fun x => x.1.length - x.2.2.2.1.toNat) ?_ (mergeSL0_fuel (a, b, o, (i : Int), (k : Int))) (a, b, o, (i : Int), (k : Int)) ⟨i, o, rfl, h⟩ (by show _ < _ + 1; omega)
  · obtain ⟨_, h, i', o', rfl, h1, h2⟩ := this
    exact ⟨i', o', h, h1, h2⟩
  · rintro _ ⟨i, o, rfl, h⟩
    have hlen := h.len
    by_cases hi : i < a.length
    · by_cases hle : (a[i]).1 ≤ (b[k]).1
      · refine ⟨.next, (a, b, o ++ [a[i]], ((i + 1 : Nat) : Int), (k : Int)), ?_, fun _ => ⟨⟨i + 1, _, rfl, h.left ha hi fun y hy => ?_⟩, ?_⟩, fun h => (by cases h), by intro h; cases h⟩
        · unfold mergeSL0_step
          dsimp only
          rw [br_t (by simp; omega), get_idx hi, ob_s, get_idx hk, ob_s, br_t (by simpa using hle), ob_s, br_t (by simp; omega), w64 (by omega) (by omega)]
          rfl
        · rw [List.drop_eq_getElem_cons hk] at hy
          rcases List.mem_cons.1 hy with rfl | hy
          · exact hle
          · exact Int.le_trans hle (asc_head hb hk y hy)
        · show a.length - ((i + 1 : Nat) : Int).toNat < a.length - (i : Int).toNat
          omega
      · refine ⟨.out, (a, b, o, (i : Int), (k : Int)), ?_, fun h => (by cases h), fun _ => ⟨i, o, rfl, h, fun y hy => ?_⟩, by intro h; cases h⟩
        · unfold mergeSL0_step
          dsimp only
          rw [br_t (by simp; omega), get_idx hi, ob_s, get_idx hk, ob_s, br_f (by simpa using hle)]
        · rw [List.drop_eq_getElem_cons hi] at hy
          rcases List.mem_cons.1 hy with rfl | hy
          · omega
          · have := asc_head ha hi y hy; omega
    · refine ⟨.out, (a, b, o, (i : Int), (k : Int)), ?_, fun h => (by cases h), fun _ => ⟨i, o, rfl, h, fun y hy => ?_⟩, by intro h; cases h⟩
      · unfold mergeSL0_step
        dsimp only
        rw [br_f (by simp; omega)]
      · rw [List.drop_eq_nil_of_le (by omega)] at hy; cases hy
theorem mergeS_eq {a b : List (Int × List Int)} (ha : ascP a) (hb : ascP b) (hla : a.length ≤ 100000) (hlb : b.length ≤ 100000) : ∃ l, mergeS (a, b) = some l ∧ l.Perm (a ++ b) ∧ ascP l := by
  have := iterP_end (step := mergeSL_step) (fun x => ∃ (i k : Nat) (o : List (Int × List Int)), x = (a, b, o, (i : Int), (k : Int)) ∧ MInv a b i k o) (fun x => ∃ (i : Nat) (o : List (Int × List Int)) (k : Int), x = (a, b, o, (i : Int), k) ∧ MInv a b i b.length o)
    (fun x => x.2.1.length - x.2.2.2.2.toNat) ?_ (mergeSL_fuel (a, b, [], 0, 0)) (a, b, [], 0, 0) ⟨0, 0, [], rfl, by omega, by omega, by simp, List.Pairwise.nil, fun z hz => (by cases hz), fun z hz => by cases hz⟩ (by show b.length - (0 : Int).toNat < (b.length - (0 : Int).toNat) + 1; omega)
  · obtain ⟨_, h, i, o, k, rfl, hI⟩ := this
    have hlen := hI.len
    have hi := hI.hi
    refine ⟨o ++ a.drop i, ?_, ?_, ?_⟩
    · unfold mergeS
      dsimp only
      rw [show mergeSL (a, b, [], 0, 0) = _ from h, ob_s]
      dsimp only
      rw [br_t (by simp; omega), Int.toNat_natCast, Int.toNat_natCast, List.take_length, br_t (by simp; omega)]
    · have hp := hI.perm
      rw [List.take_length] at hp
      refine (hp.append_right _).trans ?_
      rw [List.append_assoc]
      refine (List.Perm.append_left _ List.perm_append_comm).trans ?_
      rw [← List.append_assoc, List.take_append_drop]
    · exact List.pairwise_append.2 ⟨hI.asc, ha.sublist (List.drop_sublist _ _), hI.la⟩
  · rintro _ ⟨i, k, o, rfl, h⟩
    by_cases hk : k < b.length
    · obtain ⟨i', o', e, h', hle⟩ := mergeSL0_eq ha hb hla hlb h hk
      have hlen := h'.len
      have hi' := h'.hi
      refine ⟨.next, (a, b, o' ++ [b[k]], (i' : Int), ((k + 1 : Nat) : Int)), ?_, fun _ => ⟨⟨i', k + 1, _, rfl, h'.right hb hk hle⟩, ?_⟩, fun h => (by cases h), by intro h; cases h⟩
      · unfold mergeSL_step
        dsimp only
        rw [br_t (by simp; omega), e, ob_s]
        dsimp only
        rw [get_idx hk, ob_s, br_t (by simp; omega), w64 (by omega) (by omega)]
        rfl
      · show b.length - ((k + 1 : Nat) : Int).toNat < b.length - (k : Int).toNat
        omega
    · have := h.hk
      obtain rfl : k = b.length := by omega
      refine ⟨.out, (a, b, o, (i : Int), (b.length : Int)), ?_, fun h => (by cases h), fun _ => ⟨i, o, _, rfl, h⟩, by intro h; cases h⟩
      unfold mergeSL_step
      dsimp only
      rw [br_f (by simp)]
theorem sortPS_fuelled : ∀ (n : Nat) (l : List (Int × List Int)), l.length < n → l.length ≤ 100000 → ∃ l', sortPS_f n l = some l' ∧ l'.Perm l ∧ ascP l'
  | 0, l, h, _ => by omega
  | n + 1, l, h, hl => by
    show ∃ l', sortPS_t (sortPS_f n) l = some l' ∧ _
    unfold sortPS_t
    by_cases h2 : l.length < 2
    · rw [br_t (by simp; omega)]
      refine ⟨l, rfl, .refl _, ?_⟩
      match l, h2 with
      | [], _ => exact .nil
      | [x], _ => exact List.pairwise_singleton _ _
    · have e : IntKind.i64.wrap ((l.length : Int).tdiv 2) = ((l.length / 2 : Nat) : Int) := by
        rw [show (l.length : Int).tdiv 2 = ((l.length / 2 : Nat) : Int) from rfl]
        exact w64 (by omega) (by omega)
      rw [br_f (by simp; omega), e, br_t (by simp; omega)]
      rw [show Int.toNat (0 : Int) = 0 from rfl, List.drop_zero, Int.toNat_natCast, Int.toNat_natCast, List.take_length]
      obtain ⟨a, e1, p1, s1⟩ := sortPS_fuelled n (l.take (l.length / 2)) (by rw [List.length_take]; omega) (by rw [List.length_take]; omega)
      obtain ⟨b, e2, p2, s2⟩ := sortPS_fuelled n (l.drop (l.length / 2)) (by rw [List.length_drop]; omega) (by rw [List.length_drop]; omega)
      have l1 := p1.length_eq; have l2 := p2.length_eq
      rw [List.length_take] at l1; rw [List.length_drop] at l2
      obtain ⟨m, e3, p3, s3⟩ := mergeS_eq s1 s2 (by omega) (by omega)
      rw [e1, ob_s, br_t (by simp; omega), e2, ob_s, e3, ob_s]
      refine ⟨m, rfl, p3.trans ((p1.append p2).trans ?_), s3⟩
      rw [List.take_append_drop]
theorem sortPS_eq {l : List (Int × List Int)} (hl : l.length ≤ 100000) : ∃ l', sortPS l = some l' ∧ l'.Perm l ∧ ascP l' := sortPS_fuelled (l.length + 1) l (by omega) hl
theorem firstS_eq {l : List (Int × List Int)} (hl : l.length ≤ 100000) (hs : ascP l) (v : Int) :
    ∃ k : Nat, firstS (l, v) = some (k : Int) ∧ k ≤ l.length ∧ (∀ y ∈ l.take k, y.1 < v) ∧ ∀ y ∈ l.drop k, v ≤ y.1 := by
  have := iterP_end (step := firstSL_step) (fun x => ∃ i k : Nat, x = (l, v, (i : Int), (k : Int)) ∧ i ≤ k ∧ k ≤ l.length ∧ (∀ y ∈ l.take i, y.1 < v) ∧ ∀ y ∈ l.drop k, v ≤ y.1)
    (fun x => ∃ k : Nat, x = (l, v, (k : Int), (k : Int)) ∧ k ≤ l.length ∧ (∀ y ∈ l.take k, y.1 < v) ∧ ∀ y ∈ l.drop k, v ≤ y.1) (fun x => (x.2.2.2 - x.2.2.1).toNat) ?_
    (firstSL_fuel (l, v, 0, (l.length : Int))) (l, v, 0, (l.length : Int)) ⟨0, l.length, rfl, by omega, by omega, by simp, by simp⟩ (by show _ < _ + 1; omega)
  · obtain ⟨_, h, k, rfl, h1, h2, h3⟩ := this
    refine ⟨k, ?_, h1, h2, h3⟩
    unfold firstS
    rw [show firstSL (l, v, 0, (l.length : Int)) = _ from h, ob_s]
  · rintro _ ⟨i, k, rfl, hik, hk, h1, h2⟩
    by_cases hlt : i < k
    · have e : IntKind.i64.wrap ((IntKind.i64.wrap ((i : Int) + (k : Int))).tdiv 2) = (((i + k) / 2 : Nat) : Int) := by
        have e0 : IntKind.i64.wrap ((i : Int) + (k : Int)) = ((i + k : Nat) : Int) := by rw [w64 (by omega) (by omega)]; omega
        rw [e0, show ((i + k : Nat) : Int).tdiv 2 = (((i + k) / 2 : Nat) : Int) from rfl]
        exact w64 (by omega) (by omega)
      have hm : (i + k) / 2 < l.length := by omega
      by_cases hv : (l[(i + k) / 2]).1 < v
      · refine ⟨.next, (l, v, (((i + k) / 2 + 1 : Nat) : Int), (k : Int)), ?_, fun _ => ⟨⟨(i + k) / 2 + 1, k, rfl, by omega, hk, fun y hy => ?_, h2⟩, ?_⟩, fun h => (by cases h), by intro h; cases h⟩
        · unfold firstSL_step
          dsimp only
          rw [br_t (by simp; omega), e, get_idx hm, ob_s, br_t (by simpa using hv), w64 (by omega) (by omega)]
          rfl
        · obtain ⟨j, hj, rfl⟩ := List.mem_iff_getElem.1 hy
          rw [List.length_take] at hj
          rw [List.getElem_take]
          rcases (by omega : j = (i + k) / 2 ∨ j < (i + k) / 2) with rfl | hj
          · exact hv
          · exact Int.lt_of_le_of_lt (List.pairwise_iff_getElem.1 hs j _ (by omega) hm hj) hv
        · show ((k : Int) - (((i + k) / 2 + 1 : Nat) : Int)).toNat < ((k : Int) - (i : Int)).toNat
          omega
      · refine ⟨.next, (l, v, (i : Int), (((i + k) / 2 : Nat) : Int)), ?_, fun _ => ⟨⟨i, (i + k) / 2, rfl, by omega, by omega, h1, fun y hy => ?_⟩, ?_⟩, fun h => (by cases h), by intro h; cases h⟩
        · unfold firstSL_step
          dsimp only
          rw [br_t (by simp; omega), e, get_idx hm, ob_s, br_f (by simpa using hv)]
        · rw [List.drop_eq_getElem_cons hm] at hy
          rcases List.mem_cons.1 hy with rfl | hy
          · omega
          · have := asc_head hs hm y hy; omega
        · show ((((i + k) / 2 : Nat) : Int) - (i : Int)).toNat < ((k : Int) - (i : Int)).toNat
          omega
    · obtain rfl : i = k := by omega
      refine ⟨.out, (l, v, (i : Int), (i : Int)), ?_, fun h => (by cases h), fun _ => ⟨i, rfl, hk, h1, h2⟩, by intro h; cases h⟩
      unfold firstSL_step
      dsimp only
      rw [br_f (by simp)]
end
end Rx
end Go.Proofs.YthfgpnpoocepeaaGreat
