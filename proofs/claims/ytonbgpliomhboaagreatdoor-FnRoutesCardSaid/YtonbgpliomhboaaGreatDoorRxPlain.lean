/- What the evaluator's answers are made of, in plain terms: words, choices, indices; loops in general. No program in sight. -/
import Derived.Test.YtonbgpliomhboaaGreatDoorRxEnv
namespace Go.Proofs.YtonbgpliomhboaaGreatDoor
namespace Rx
open Go

theorem w64 {x : Int} (h1 : -9223372036854775808 ≤ x) (h2 : x ≤ 9223372036854775807) : IntKind.i64.wrap x = x := by
  rw [IntKind.wrap_i64]; omega
theorem wu64 {x : Int} (h1 : 0 ≤ x) (h2 : x ≤ 18446744073709551615) : IntKind.u64.wrap x = x := by
  rw [IntKind.wrap_u64]; omega
theorem br_t {α : Type} {c : Bool} {a b : α} (h : c = true) : br c a b = a := by rw [h]; rfl
theorem br_f {α : Type} {c : Bool} {a b : α} (h : c = false) : br c a b = b := by rw [h]; rfl
theorem ob_s {α β : Type} {a : α} {f : α → Option β} : ob (some a) f = f a := rfl
theorem idx_get {α : Type} {l : List α} {i : Int} (h0 : 0 ≤ i) (h1 : i < l.length) : ∃ y, idx l i = some y ∧ l[i.toNat]? = some y := by
  have h2 : i.toNat < l.length := by omega
  refine ⟨l[i.toNat], ?_, List.getElem?_eq_getElem h2⟩
  unfold idx
  rw [if_pos h0]
  exact List.getElem?_eq_getElem h2
theorem idx_set {α : Type} {l : List α} {i : Int} {y : α} (h0 : 0 ≤ i) (h1 : i < l.length) : idx (l.set i.toNat y) i = some y := by
  unfold idx
  rw [if_pos h0, List.getElem?_set_self (by omega)]
theorem get_set {α : Type} {l : List α} {i : Nat} {y : α} (h1 : i < l.length) : (l.set i y)[i]? = some y := List.getElem?_set_self h1
theorem idx_nat {α : Type} {l : List α} {i : Int} {y : α} (h0 : 0 ≤ i) (h : l[i.toNat]? = some y) : idx l i = some y := by
  unfold idx
  rw [if_pos h0]; exact h

theorem idx_bytes (s : ByteArray) (i : Int) : idx (bytesIn s) i = (sidx s i).map fun b => (b.toNat : Int) := by
  unfold idx sidx bytesIn
  split
  · rw [List.getElem?_map]
    congr 1
    show _ = s.data[i.toNat]?
    simp
  · rfl
section
variable {α : Type}
/-- A list is run through until one of its elements does not fit. -/
theorem all_loop {σ : Type} {step : σ → Option (LRes × σ)} {l : List α} (st : Int → σ) (p : α → Bool) (O Q : σ → Prop)
    (hn : ∀ (i : Int) (y : α), 0 ≤ i → i < l.length → idx l i = some y → p y = true → step (st i) = some (.next, st (i + 1)))
    (hb : ∀ (i : Int) (y : α), 0 ≤ i → i < l.length → idx l i = some y → p y = false → ∃ s, step (st i) = some (.ret, s) ∧ Q s)
    (ho : ∃ s, step (st l.length) = some (.out, s) ∧ O s) {n : Nat} (hf : l.length < n) :
    ∃ s, iter step n (st 0) = some (l.all p, s) ∧ (l.all p = true → O s) ∧ (l.all p = false → Q s) := by
  have key : ∀ (n : Nat) (i : Nat), i ≤ l.length → l.length - i < n → ∃ s, iter step n (st i) = some ((l.drop i).all p, s) ∧ ((l.drop i).all p = true → O s) ∧ ((l.drop i).all p = false → Q s) := by
    intro n
    induction n with
    | zero => intro i _ h; omega
    | succ n ih =>
      intro i hi h
      show ∃ s, ob (step (st i)) _ = _ ∧ _
      by_cases hlt : i < l.length
      · obtain ⟨y, hy, hy2⟩ := idx_get (l := l) (i := (i : Int)) (by omega) (by omega)
        have hd : l.drop i = y :: l.drop (i + 1) := by
          rw [List.drop_eq_getElem_cons hlt]
          congr 1
          have := List.getElem?_eq_getElem hlt
          rw [show l[(i : Int).toNat]? = l[i]? by simp, this] at hy2
          cases hy2; rfl
        rw [hd, List.all_cons]
        cases hp : p y with
        | true =>
          rw [hn i y (by omega) (by omega) hy hp, Bool.true_and]
          exact ih (i + 1) (by omega) (by omega)
        | false =>
          obtain ⟨s, h1, h2⟩ := hb i y (by omega) (by omega) hy hp
          rw [h1, Bool.false_and]
          exact ⟨s, rfl, fun h => (by cases h), fun _ => h2⟩
      · have : i = l.length := by omega
        subst this
        obtain ⟨s, h1, h2⟩ := ho
        rw [h1, List.drop_length]
        exact ⟨s, rfl, fun _ => h2, fun h => by cases h⟩
  exact key n 0 (by omega) (by omega)

/-- All elements fit, each at its place. -/
def allI (p : Nat → α → Bool) : List α → Nat → Bool
  | [], _ => true
  | y :: l, k => p k y && allI p l (k + 1)
theorem allI_true {p : Nat → α → Bool} : ∀ {l : List α} {k : Nat}, allI p l k = true → ∀ (i : Nat) y, l[i]? = some y → p (k + i) y = true
  | [], _, _, i, y, h => by simp at h
  | z :: l, k, hp, 0, y, h => by
    simp at h; subst h
    unfold allI at hp
    rw [Bool.and_eq_true] at hp
    exact hp.1
  | z :: l, k, hp, i + 1, y, h => by
    unfold allI at hp
    rw [Bool.and_eq_true] at hp
    have := allI_true hp.2 i y (by simpa using h)
    rw [show k + (i + 1) = k + 1 + i by omega]; exact this
/-- A list is run through until one of its elements does not fit at its place. -/
theorem all_loopI {σ : Type} {step : σ → Option (LRes × σ)} {l : List α} (st : Int → σ) (p : Nat → α → Bool) (O Q : σ → Prop)
    (hn : ∀ (i : Int) (y : α), 0 ≤ i → i < l.length → idx l i = some y → l[i.toNat]? = some y → p i.toNat y = true → step (st i) = some (.next, st (i + 1)))
    (hb : ∀ (i : Int) (y : α), 0 ≤ i → i < l.length → idx l i = some y → l[i.toNat]? = some y → p i.toNat y = false → ∃ s, step (st i) = some (.ret, s) ∧ Q s)
    (ho : ∃ s, step (st l.length) = some (.out, s) ∧ O s) {n : Nat} (hf : l.length < n) :
    ∃ s, iter step n (st 0) = some (allI p l 0, s) ∧ (allI p l 0 = true → O s) ∧ (allI p l 0 = false → Q s) := by
  have key : ∀ (n : Nat) (i : Nat), i ≤ l.length → l.length - i < n → ∃ s, iter step n (st i) = some (allI p (l.drop i) i, s) ∧ (allI p (l.drop i) i = true → O s) ∧ (allI p (l.drop i) i = false → Q s) := by
    intro n
    induction n with
    | zero => intro i _ h; omega
    | succ n ih =>
      intro i hi h
      show ∃ s, ob (step (st i)) _ = _ ∧ _
      by_cases hlt : i < l.length
      · obtain ⟨y, hy, hy2⟩ := idx_get (l := l) (i := (i : Int)) (by omega) (by omega)
        have hd : l.drop i = y :: l.drop (i + 1) := by
          rw [List.drop_eq_getElem_cons hlt]
          congr 1
          have := List.getElem?_eq_getElem hlt
          rw [show l[(i : Int).toNat]? = l[i]? by simp, this] at hy2
          cases hy2; rfl
        rw [hd]
        show ∃ s, _ ∧ ((p i y && allI p (l.drop (i + 1)) (i + 1)) = true → _) ∧ _
        cases hp : p i y with
        | true =>
          rw [hn i y (by omega) (by omega) hy hy2 hp]
          show ∃ s, _ = some (p i y && allI p (l.drop (i + 1)) (i + 1), s) ∧ _ ∧ ((p i y && allI p (l.drop (i + 1)) (i + 1)) = false → _)
          rw [hp, Bool.true_and]
          exact ih (i + 1) (by omega) (by omega)
        | false =>
          obtain ⟨s, h1, h2⟩ := hb i y (by omega) (by omega) hy hy2 hp
          rw [h1]
          show ∃ s, _ = some (p i y && allI p (l.drop (i + 1)) (i + 1), s) ∧ _ ∧ ((p i y && allI p (l.drop (i + 1)) (i + 1)) = false → _)
          rw [hp, Bool.false_and]
          exact ⟨s, rfl, fun h => (by cases h), fun _ => h2⟩
      · have : i = l.length := by omega
        subst this
        obtain ⟨s, h1, h2⟩ := ho
        rw [h1, List.drop_length]
        exact ⟨s, rfl, fun _ => h2, fun h => by cases h⟩
  exact key n 0 (by omega) (by omega)

/-! ### Lists beside themselves; marks -/
/-- Each element is changed where it lies. -/
theorem map_loop {σ : Type} {step : σ → Option (LRes × σ)} {l : List α} {f : α → α} (st : List α → Int → σ)
    (hn : ∀ (o : List α) (i : Int) (y : α), o.length = l.length → 0 ≤ i → i < l.length → l[i.toNat]? = some y → o[i.toNat]? = some y → idx o i = some y → step (st o i) = some (.next, st (o.set i.toNat (f y)) (i + 1)))
    (ho : ∀ o : List α, o.length = l.length → step (st o l.length) = some (.out, st o l.length)) {n : Nat} (hf : l.length < n) : iterP step n (st l 0) = some (st (l.map f) l.length) := by
  have key : ∀ (n : Nat) (i : Nat), i ≤ l.length → l.length - i < n → iterP step n (st ((l.take i).map f ++ l.drop i) i) = some (st (l.map f) l.length) := by
    intro n
    induction n with
    | zero => intro i _ h; omega
    | succ n ih =>
      intro i hi h
      have hlen : ((l.take i).map f ++ l.drop i).length = l.length := by simp; omega
      show ob (step (st ((l.take i).map f ++ l.drop i) i)) _ = _
      by_cases hlt : i < l.length
      · have hy : l[i]? = some l[i] := List.getElem?_eq_getElem hlt
        have ht : (l.take i).length = i := by rw [List.length_take]; omega
        have hy2 : ((l.take i).map f ++ l.drop i)[i]? = some l[i] := by
          rw [List.getElem?_append_right (by simp; omega), List.length_map, ht, Nat.sub_self, List.getElem?_drop, Nat.add_zero, hy]
        have hs : ((l.take i).map f ++ l.drop i).set i (f l[i]) = (l.take (i + 1)).map f ++ l.drop (i + 1) := by
          rw [List.set_append_right _ _ (by simp; omega), List.length_map, ht, Nat.sub_self, List.drop_eq_getElem_cons hlt, List.set_cons_zero, List.take_succ_eq_append_getElem hlt, List.map_append, List.append_assoc]
          rfl
        rw [hn _ (i : Int) l[i] hlen (by omega) (by omega) hy hy2 (idx_nat (by omega) hy2)]
        show iterP step n (st (((l.take i).map f ++ l.drop i).set i (f l[i])) ((i : Int) + 1)) = _
        rw [hs, show (i : Int) + 1 = ((i + 1 : Nat) : Int) by push_cast; rfl]
        exact ih (i + 1) (by omega) (by omega)
      · have : i = l.length := by omega
        subst this
        rw [ho _ hlen]
        simp [ob]
  have := key n 0 (by omega) (by omega)
  simpa using this
theorem gi (l : List α) (i : Nat) : l.get?Internal i = l[i]? := rfl

/-! ### Folds that know the place -/
section
variable {σ β : Type} {step : σ → Option (LRes × σ)} {l : List α} (st : Int → β → σ) (f : Nat → β → α → β) (J : Int → β → Prop) (fin : β → σ)
end
theorem allI_of {p : Nat → α → Bool} : ∀ {l : List α} {k : Nat}, (∀ (i : Nat) y, l[i]? = some y → p (k + i) y = true) → allI p l k = true
  | [], _, _ => rfl
  | z :: l, k, h => by
    unfold allI
    have h0 : p k z = true := h 0 z (by simp)
    rw [h0, Bool.true_and]
    exact allI_of fun i y hy => by
      have := h (i + 1) y (by simpa using hy)
      rw [show k + 1 + i = k + (i + 1) by omega]; exact this
end
end Rx
end Go.Proofs.YtonbgpliomhboaaGreatDoor
