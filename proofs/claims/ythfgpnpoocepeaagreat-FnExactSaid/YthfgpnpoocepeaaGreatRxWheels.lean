/- Lists of wheels, their products, groups by products. In plain terms. No program in sight. -/
import Derived.Test.YthfgpnpoocepeaaGreatRxPlain
namespace Go.Proofs.YthfgpnpoocepeaaGreat
namespace Rx
open Go

/-! ### Whole numbers from one to another -/
def rangeI (a b : Int) : List Int := (List.range (b + 1 - a).toNat).map fun (i : Nat) => a + (i : Int)
theorem rangeI_len (a b : Int) : (rangeI a b).length = (b + 1 - a).toNat := by simp [rangeI]
theorem rangeI_get {a b i y : Int} (h : idx (rangeI a b) i = some y) : y = a + i ∧ 0 ≤ i := by
  unfold idx at h
  split at h
  · rename_i h0
    unfold rangeI at h
    rw [List.getElem?_map] at h
    cases e : (List.range (b + 1 - a).toNat)[i.toNat]? with
    | none => rw [e] at h; cases h
    | some k =>
      rw [e] at h
      rw [List.getElem?_range (by
        have := (List.getElem?_eq_some_iff.1 e).1
        simpa using this)] at e
      simp at h e
      omega
  · cases h
theorem mem_rangeI {a b y : Int} : y ∈ rangeI a b ↔ a ≤ y ∧ y ≤ b := by
  unfold rangeI
  simp only [List.mem_map, List.mem_range]
  constructor
  · rintro ⟨i, h, rfl⟩; omega
  · rintro ⟨h1, h2⟩; exact ⟨(y - a).toNat, by omega, by omega⟩

/-! ### Lists of wheels -/
def nextW (lo hi : Int) (l : List Int) : List (List Int) := (rangeI (l.getLast?.getD lo) hi).map fun t => l ++ [t]
def wheels (lo hi : Int) : Nat → List (List Int)
  | 0 => [[]]
  | n + 1 => (wheels lo hi n).flatMap (nextW lo hi)
structure IsW (lo hi : Int) (n : Nat) (l : List Int) : Prop where
  len : l.length = n
  bd : ∀ t ∈ l, lo ≤ t ∧ t ≤ hi
  asc : l.Pairwise (· ≤ ·)
theorem last_mem {l : List Int} {t : Int} (h : l.getLast? = some t) : t ∈ l := List.mem_of_getLast? h
theorem wheels_is {lo hi : Int} : ∀ {n : Nat} {l : List Int}, l ∈ wheels lo hi n → IsW lo hi n l
  | 0, l, h => by
    obtain rfl : l = [] := by simpa [wheels] using h
    exact ⟨rfl, fun t h => (by cases h), List.Pairwise.nil⟩
  | n + 1, l, h => by
    simp only [wheels, List.mem_flatMap, nextW, List.mem_map, mem_rangeI] at h
    obtain ⟨l', hl', t, ⟨h1, h2⟩, rfl⟩ := h
    have ih := wheels_is hl'
    have hlo : lo ≤ t := by
      cases e : l'.getLast? with
      | none => rw [e] at h1; exact h1
      | some u =>
        rw [e] at h1
        have := (ih.bd u (last_mem e)).1
        simp at h1
        omega
    refine ⟨by simp [ih.len], fun u hu => ?_, ?_⟩
    · rcases List.mem_append.1 hu with hu | hu
      · exact ih.bd u hu
      · simp at hu; subst hu; exact ⟨hlo, h2⟩
    · rw [List.pairwise_append]
      refine ⟨ih.asc, by simp, fun a ha b hb => ?_⟩
      simp at hb; subst hb
      cases e : l'.getLast? with
      | none => rw [List.getLast?_eq_none_iff] at e; subst e; cases ha
      | some u =>
        rw [e] at h1
        obtain ⟨m, rfl⟩ := List.getLast?_eq_some_iff.1 e
        simp at h1
        rcases List.mem_append.1 ha with ha | ha
        · have := (List.pairwise_append.1 ih.asc).2.2 a ha u (by simp)
          omega
        · simp at ha; omega
theorem wheels_of {lo hi : Int} : ∀ {n : Nat} {l : List Int}, IsW lo hi n l → l ∈ wheels lo hi n
  | 0, l, h => by
    have := List.length_eq_zero_iff.1 h.len
    subst this; simp [wheels]
  | n + 1, l, h => by
    have hne : l ≠ [] := fun e => by have := h.len; rw [e] at this; simp at this
    obtain ⟨m, t, rfl⟩ : ∃ m t, l = m ++ [t] := ⟨l.dropLast, l.getLast hne, (List.dropLast_concat_getLast hne).symm⟩
    have hp := List.pairwise_append.1 h.asc
    have hm : IsW lo hi n m := ⟨by have := h.len; simp at this; exact this, fun u hu => h.bd u (by simp [hu]), hp.1⟩
    have ht := h.bd t (by simp)
    simp only [wheels, List.mem_flatMap, nextW, List.mem_map, mem_rangeI]
    refine ⟨m, wheels_of hm, t, ⟨?_, ht.2⟩, rfl⟩
    cases e : m.getLast? with
    | none => exact ht.1
    | some u => exact hp.2.2 u (last_mem e) t (by simp)
theorem nextW_len {lo hi : Int} (hs : hi ≤ lo + 30) {n : Nat} {l : List Int} (h : IsW lo hi n l) : (nextW lo hi l).length ≤ 31 := by
  unfold nextW
  rw [List.length_map, rangeI_len]
  cases e : l.getLast? with
  | none => simp; omega
  | some u =>
    have := (h.bd u (last_mem e)).1
    simp
    omega
theorem flatMap_len {α β : Type} {f : α → List β} {c : Nat} : ∀ {l : List α}, (∀ x ∈ l, (f x).length ≤ c) → (l.flatMap f).length ≤ c * l.length
  | [], _ => by simp
  | x :: l, h => by
    have h1 := h x (by simp)
    have h2 := flatMap_len (l := l) fun y hy => h y (by simp [hy])
    rw [List.flatMap_cons, List.length_append, List.length_cons, Nat.mul_add]
    omega
theorem wheels_len {lo hi : Int} (hs : hi ≤ lo + 30) : ∀ n, (wheels lo hi n).length ≤ 31 ^ n
  | 0 => by simp [wheels]
  | n + 1 => by
    have h := flatMap_len (f := nextW lo hi) (l := wheels lo hi n) (c := 31) fun l hl => nextW_len hs (wheels_is hl)
    have := wheels_len hs n
    show ((wheels lo hi n).flatMap (nextW lo hi)).length ≤ _
    rw [Nat.pow_succ]
    omega

/-! ### Products -/
def prodW (l : List Int) : Int := l.foldl (fun a t => a * t) 1
theorem prodW_snoc (l : List Int) (t : Int) : prodW (l ++ [t]) = prodW l * t := by simp [prodW]
theorem prod_bd {lo hi : Int} (h1 : 1 ≤ lo) (h2 : hi ≤ 120) : ∀ {n : Nat} {l : List Int}, IsW lo hi n l → 1 ≤ prodW l ∧ prodW l ≤ 120 ^ n
  | 0, l, h => by
    have := List.length_eq_zero_iff.1 h.len
    subst this; simp [prodW]
  | n + 1, l, h => by
    have hne : l ≠ [] := fun e => by have := h.len; rw [e] at this; simp at this
    obtain ⟨m, t, rfl⟩ : ∃ m t, l = m ++ [t] := ⟨l.dropLast, l.getLast hne, (List.dropLast_concat_getLast hne).symm⟩
    have hp := List.pairwise_append.1 h.asc
    have hm : IsW lo hi n m := ⟨by have := h.len; simp at this; exact this, fun u hu => h.bd u (by simp [hu]), hp.1⟩
    have ht := h.bd t (by simp)
    obtain ⟨i1, i2⟩ := prod_bd h1 h2 hm
    rw [prodW_snoc]
    have e1 : 1 * 1 ≤ prodW m * t := Int.mul_le_mul i1 (by omega) (by omega) (by omega)
    have e2 : prodW m * t ≤ 120 ^ n * 120 := Int.mul_le_mul i2 (by omega) (by omega) (by omega)
    rw [Int.pow_succ]
    exact ⟨by omega, e2⟩
theorem prod_bd3 {lo hi : Int} (h1 : 1 ≤ lo) (h2 : hi ≤ 120) {n : Nat} (hn : n ≤ 3) {l : List Int} (h : IsW lo hi n l) : 1 ≤ prodW l ∧ prodW l ≤ 1728000 := by
  obtain ⟨i1, i2⟩ := prod_bd h1 h2 h
  refine ⟨i1, Int.le_trans i2 ?_⟩
  rcases (by omega : n = 0 ∨ n = 1 ∨ n = 2 ∨ n = 3) with rfl | rfl | rfl | rfl <;> decide

/-! ### Maps as lists -/
section
variable {α : Type}
theorem getM_put (m : List (Int × List α)) (k k' : Int) (v : List α) : getM (putM m k v) k' = if k = k' then v else getM m k' := by
  induction m with
  | nil => simp only [putM, getM]
  | cons p r ih =>
    unfold putM
    by_cases h : p.1 = k
    · rw [if_pos h]
      simp only [getM]
      subst h
      by_cases h2 : p.1 = k'
      · rw [if_pos h2, if_pos h2]
      · rw [if_neg h2, if_neg h2, if_neg h2]
    · rw [if_neg h]
      simp only [getM]
      by_cases h2 : p.1 = k'
      · rw [if_pos h2, if_neg (by omega), if_pos h2]
      · rw [if_neg h2, ih, if_neg h2]
end
/-- One list of wheels more. -/
def grp (s : List Int × List (Int × List (List Int))) (l : List Int) : List Int × List (Int × List (List Int)) :=
  (if (getM s.2 (prodW l)).length = 0 then s.1 ++ [prodW l] else s.1, putM s.2 (prodW l) (getM s.2 (prodW l) ++ [l]))
structure Grp (ls : List (List Int)) (s : List Int × List (Int × List (List Int))) : Prop where
  get : ∀ p, getM s.2 p = ls.filter fun l => prodW l == p
  mem : ∀ p, p ∈ s.1 ↔ ∃ l ∈ ls, prodW l = p
  nodup : s.1.Nodup
theorem Grp.snoc {ls : List (List Int)} {s : List Int × List (Int × List (List Int))} (h : Grp ls s) (l : List Int) : Grp (ls ++ [l]) (grp s l) := by
  have h0 : (getM s.2 (prodW l)).length = 0 ↔ prodW l ∉ s.1 := by
    rw [h.get, h.mem, List.length_eq_zero_iff, List.filter_eq_nil_iff]
    constructor
    · rintro h ⟨a, ha, he⟩; exact h a ha (by simp [he])
    · intro h a ha he; exact h ⟨a, ha, by simpa using he⟩
  refine ⟨fun p => ?_, fun p => ?_, ?_⟩
  · show getM (putM s.2 _ _) p = _
    rw [getM_put, List.filter_append, h.get, h.get]
    by_cases hp : prodW l = p
    · subst hp; simp
    · rw [if_neg hp]; simp [hp]
  · show p ∈ (if _ then _ else _) ↔ _
    by_cases h1 : (getM s.2 (prodW l)).length = 0
    · rw [if_pos h1, List.mem_append, h.mem]
      constructor
      · rintro (⟨a, ha, he⟩ | he)
        · exact ⟨a, by simp [ha], he⟩
        · exact ⟨l, by simp, (List.mem_singleton.1 he).symm⟩
      · rintro ⟨a, ha, he⟩
        rcases List.mem_append.1 ha with ha | ha
        · exact .inl ⟨a, ha, he⟩
        · simp at ha; subst ha; exact .inr (by simp [he])
    · rw [if_neg h1, h.mem]
      constructor
      · rintro ⟨a, ha, he⟩; exact ⟨a, by simp [ha], he⟩
      · rintro ⟨a, ha, he⟩
        rcases List.mem_append.1 ha with ha | ha
        · exact ⟨a, ha, he⟩
        · simp at ha; subst ha
          rw [h0] at h1
          have := (h.mem p).1 (by rw [← he]; exact Classical.byContradiction h1)
          exact this
  · show (if _ then _ else _ : List Int).Nodup
    by_cases h1 : (getM s.2 (prodW l)).length = 0
    · rw [if_pos h1]
      refine List.nodup_append.2 ⟨h.nodup, by simp, fun a ha b hb => ?_⟩
      simp at hb; subst hb
      intro e; subst e
      exact h0.1 h1 ha
    · rw [if_neg h1]; exact h.nodup
theorem grp_all : ∀ (ls done : List (List Int)) (s : List Int × List (Int × List (List Int))), Grp done s → Grp (done ++ ls) (ls.foldl grp s)
  | [], done, s, h => by simpa using h
  | l :: ls, done, s, h => by
    have := grp_all ls (done ++ [l]) (grp s l) (h.snoc l)
    rw [List.append_assoc] at this
    exact this
theorem grp_nil : Grp [] ([], []) := ⟨fun p => rfl, fun p => (by simp), List.Pairwise.nil⟩
end Rx
end Go.Proofs.YthfgpnpoocepeaaGreat
