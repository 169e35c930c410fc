/- What the evaluator's answers are made of, in plain terms: words, choices, indices; loops in general. No program in sight. -/
import Derived.Test.YthfgpnpoocepeaaGreatRxEnv
namespace Go.Proofs.YthfgpnpoocepeaaGreat
namespace Rx
open Go

theorem w64 {x : Int} (h1 : -9223372036854775808 ≤ x) (h2 : x ≤ 9223372036854775807) : IntKind.i64.wrap x = x := by
  rw [IntKind.wrap_i64]; omega
theorem wu64 {x : Int} (h1 : 0 ≤ x) (h2 : x ≤ 18446744073709551615) : IntKind.u64.wrap x = x := by
  rw [IntKind.wrap_u64]; omega
theorem w64_bd (x : Int) : -9223372036854775808 ≤ IntKind.i64.wrap x ∧ IntKind.i64.wrap x ≤ 9223372036854775807 := by
  rw [IntKind.wrap_i64]; omega
theorem br_t {α : Type} {c : Bool} {a b : α} (h : c = true) : br c a b = a := by rw [h]; rfl
theorem br_f {α : Type} {c : Bool} {a b : α} (h : c = false) : br c a b = b := by rw [h]; rfl
theorem ob_s {α β : Type} {a : α} {f : α → Option β} : ob (some a) f = f a := rfl
theorem br_if {α : Type} {c : Bool} {a b : α} : br c a b = if c = true then a else b := by cases c <;> rfl
theorem ob_ob {α β γ : Type} {x : Option α} {f : α → Option β} {g : β → Option γ} : ob (ob x f) g = ob x fun a => ob (f a) g := by cases x <;> rfl
theorem br_same {α : Type} (c : Bool) (a : α) : br c a a = a := by cases c <;> rfl

def tot {α : Type} (x : Option α) : Prop := ∃ y, x = some y
theorem tot_s {α : Type} {a : α} : tot (some a) := ⟨a, rfl⟩
theorem tot_br {α : Type} {c : Bool} {a b : Option α} (h1 : tot a) (h2 : tot b) : tot (br c a b) := by cases c <;> assumption
theorem tot_ob {α β : Type} {a : α} {f : α → Option β} (h : tot (f a)) : tot (ob (some a) f) := h

theorem idx_get {α : Type} {l : List α} {i : Int} (h0 : 0 ≤ i) (h1 : i < l.length) : ∃ y, idx l i = some y ∧ l[i.toNat]? = some y := by
  have h2 : i.toNat < l.length := by omega
  refine ⟨l[i.toNat], ?_, List.getElem?_eq_getElem h2⟩
  unfold idx
  rw [if_pos h0]
  exact List.getElem?_eq_getElem h2
theorem idx_set {α : Type} {l : List α} {i : Int} {y : α} (h0 : 0 ≤ i) (h1 : i < l.length) : idx (l.set i.toNat y) i = some y := by
  unfold idx
  rw [if_pos h0, List.getElem?_set_self (by omega)]
theorem get_set {α : Type} {l : List α} {i : Nat} {y : α} (h1 : i < l.length) : (l.set i y)[i]? = some y := List.getElem?_set_self h1
theorem idx_nat {α : Type} {l : List α} {i : Int} {y : α} (h0 : 0 ≤ i) (h : l[i.toNat]? = some y) : idx l i = some y := by
  unfold idx
  rw [if_pos h0]; exact h

theorem idx_bytes (s : ByteArray) (i : Int) : idx (bytesIn s) i = (sidx s i).map fun b => (b.toNat : Int) := by
  unfold idx sidx bytesIn
  split
  · rw [List.getElem?_map]
    congr 1
    show _ = s.data[i.toNat]?
    simp
  · rfl
section
variable {α : Type}
/-- A loop over states that stay within bounds ends. -/
theorem iter_tot {step : α → Option (LRes × α)} (inv : α → Prop) (m : α → Nat) (h : ∀ s, inv s → ∃ r s', step s = some (r, s') ∧ inv s' ∧ (r = .next → m s' < m s)) :
    ∀ (n : Nat) (s : α), inv s → m s < n → ∃ b s', iter step n s = some (b, s') ∧ inv s'
  | 0, _, _, hm => by omega
  | n + 1, s, hs, hm => by
    obtain ⟨r, s', h1, h2, h3⟩ := h s hs
    show ∃ b t, ob (step s) _ = _ ∧ _
    rw [h1]
    cases r with
    | next => exact iter_tot inv m h n s' h2 (by have := h3 rfl; omega)
    | out => exact ⟨true, s', rfl, h2⟩
    | ret => exact ⟨false, s', rfl, h2⟩
/-- The same with what holds when the loop is left, and when the function returns. -/
theorem iter_end {step : α → Option (LRes × α)} (inv out ret : α → Prop) (m : α → Nat) (h : ∀ s, inv s → ∃ r s', step s = some (r, s') ∧ (r = .next → inv s' ∧ m s' < m s) ∧ (r = .out → out s') ∧ (r = .ret → ret s')) :
    ∀ (n : Nat) (s : α), inv s → m s < n → ∃ b s', iter step n s = some (b, s') ∧ (b = true → out s') ∧ (b = false → ret s')
  | 0, _, _, hm => by omega
  | n + 1, s, hs, hm => by
    obtain ⟨r, s', h1, h2, h3, h4⟩ := h s hs
    show ∃ b t, ob (step s) _ = _ ∧ _
    rw [h1]
    cases r with
    | next => exact iter_end inv out ret m h n s' (h2 rfl).1 (by have := (h2 rfl).2; omega)
    | out => exact ⟨true, s', rfl, fun _ => h3 rfl, fun h => by cases h⟩
    | ret => exact ⟨false, s', rfl, fun h => (by cases h), fun _ => h4 rfl⟩
theorem iterP_end {step : α → Option (LRes × α)} (inv out : α → Prop) (m : α → Nat) (h : ∀ s, inv s → ∃ r s', step s = some (r, s') ∧ (r = .next → inv s' ∧ m s' < m s) ∧ (r = .out → out s') ∧ r ≠ .ret) :
    ∀ (n : Nat) (s : α), inv s → m s < n → ∃ s', iterP step n s = some s' ∧ out s'
  | 0, _, _, hm => by omega
  | n + 1, s, hs, hm => by
    obtain ⟨r, s', h1, h2, h3, h4⟩ := h s hs
    show ∃ t, ob (step s) _ = _ ∧ _
    rw [h1]
    cases r with
    | next => exact iterP_end inv out m h n s' (h2 rfl).1 (by have := (h2 rfl).2; omega)
    | out => exact ⟨s', rfl, h3 rfl⟩
    | ret => exact absurd rfl h4
/-- Two loops that do the same on the states that come about. -/
theorem iter_same {step step2 : α → Option (LRes × α)} (inv : α → Prop) (h : ∀ s, inv s → step s = step2 s) (h2 : ∀ s s', inv s → step s = some (.next, s') → inv s') :
    ∀ (n : Nat) (s : α), inv s → iter step n s = iter step2 n s
  | 0, _, _ => rfl
  | n + 1, s, hs => by
    show ob (step s) _ = ob (step2 s) _
    rw [← h s hs]
    cases e : step s with
    | none => rfl
    | some q =>
      obtain ⟨r, s'⟩ := q
      cases r with
      | next => exact iter_same inv h h2 n s' (h2 s s' hs e)
      | out => rfl
      | ret => rfl
theorem iterP_same {step step2 : α → Option (LRes × α)} (inv : α → Prop) (h : ∀ s, inv s → step s = step2 s) (h2 : ∀ s s', inv s → step s = some (.next, s') → inv s') :
    ∀ (n : Nat) (s : α), inv s → iterP step n s = iterP step2 n s
  | 0, _, _ => rfl
  | n + 1, s, hs => by
    show ob (step s) _ = ob (step2 s) _
    rw [← h s hs]
    cases e : step s with
    | none => rfl
    | some q =>
      obtain ⟨r, s'⟩ := q
      cases r with
      | next => exact iterP_same inv h h2 n s' (h2 s s' hs e)
      | out => rfl
      | ret => rfl
/-- More fuel does no harm. -/
theorem iter_more {step : α → Option (LRes × α)} : ∀ (n m : Nat) (s : α) (r : Bool × α), iter step n s = some r → n ≤ m → iter step m s = some r
  | 0, _, _, _, h, _ => none_some h
  | n + 1, 0, _, _, _, h => by omega
  | n + 1, m + 1, s, r, h, hm => by
    have h' : ob (step s) _ = some r := h
    show ob (step s) _ = some r
    cases e : step s with
    | none => rw [e] at h'; cases h'
    | some q =>
      rw [e] at h'
      obtain ⟨k, s'⟩ := q
      cases k with
      | next => exact iter_more n m s' r h' (by omega)
      | out => exact h'
      | ret => exact h'

/-- Two loops side by side. -/
theorem iter_sim {β : Type} {stepA : α → Option (LRes × α)} {stepB : β → Option (LRes × β)} (I : α → β → Prop) (O Q : α → β → Prop) (mu : α → Nat)
    (h : ∀ a b, I a b → ∃ r a' b', stepA a = some (r, a') ∧ stepB b = some (r, b') ∧ (r = .next → I a' b' ∧ mu a' < mu a) ∧ (r = .out → O a' b') ∧ (r = .ret → Q a' b')) :
    ∀ (n m : Nat) (a : α) (b : β), I a b → mu a < n → mu a < m → ∃ k a' b', iter stepA n a = some (k, a') ∧ iter stepB m b = some (k, b') ∧ (k = true → O a' b') ∧ (k = false → Q a' b')
  | 0, _, _, _, _, h, _ => by omega
  | _ + 1, 0, _, _, _, _, h => by omega
  | n + 1, m + 1, a, b, hI, hn, hm => by
    obtain ⟨r, a', b', h1, h2, h3, h4, h5⟩ := h a b hI
    show ∃ k a'' b'', ob (stepA a) _ = _ ∧ ob (stepB b) _ = _ ∧ _
    rw [h1, h2]
    cases r with
    | next => exact iter_sim I O Q mu h n m a' b' (h3 rfl).1 (by have := (h3 rfl).2; omega) (by have := (h3 rfl).2; omega)
    | out => exact ⟨true, a', b', rfl, rfl, fun _ => h4 rfl, fun h => by cases h⟩
    | ret => exact ⟨false, a', b', rfl, rfl, fun h => (by cases h), fun _ => h5 rfl⟩
theorem iterP_sim {β : Type} {stepA : α → Option (LRes × α)} {stepB : β → Option (LRes × β)} (I : α → β → Prop) (O : α → β → Prop) (mu : α → Nat)
    (h : ∀ a b, I a b → ∃ r a' b', stepA a = some (r, a') ∧ stepB b = some (r, b') ∧ (r = .next → I a' b' ∧ mu a' < mu a) ∧ (r = .out → O a' b') ∧ r ≠ .ret) :
    ∀ (n m : Nat) (a : α) (b : β), I a b → mu a < n → mu a < m → ∃ a' b', iterP stepA n a = some a' ∧ iterP stepB m b = some b' ∧ O a' b'
  | 0, _, _, _, _, h, _ => by omega
  | _ + 1, 0, _, _, _, _, h => by omega
  | n + 1, m + 1, a, b, hI, hn, hm => by
    obtain ⟨r, a', b', h1, h2, h3, h4, h5⟩ := h a b hI
    show ∃ a'' b'', ob (stepA a) _ = _ ∧ ob (stepB b) _ = _ ∧ _
    rw [h1, h2]
    cases r with
    | next => exact iterP_sim I O mu h n m a' b' (h3 rfl).1 (by have := (h3 rfl).2; omega) (by have := (h3 rfl).2; omega)
    | out => exact ⟨a', b', rfl, rfl, h4 rfl⟩
    | ret => exact absurd rfl h5

/-- Each element is taken over into a list of the same length. -/
theorem copy_loop {β : Type} {step : List α × List β × Int → Option (LRes × (List α × List β × Int))} {f : α → β} {l : List α} (hl : l.length ≤ 4294967296)
    (hn : ∀ (o : List β) (i : Int) (y : α) (z : β), o.length = l.length → 0 ≤ i → i < l.length → idx l i = some y → idx o i = some z → o[i.toNat]? = some z → step (l, o, i) = some (.next, l, o.set i.toNat (f y), i + 1))
    (ho : ∀ (o : List β) (i : Int), o.length = l.length → ¬ i < l.length → step (l, o, i) = some (.out, l, o, i)) {o : List β} (hol : o.length = l.length) :
    iterP step (l.length - (0 : Int).toNat + 1) (l, o, 0) = some (l, l.map f, (l.length : Int)) := by
  have key : ∀ (n : Nat) (o : List β) (i : Nat), o.length = l.length → i ≤ l.length → l.length - i < n →
      ∃ o2, iterP step n (l, o, (i : Int)) = some (l, o2, (l.length : Int)) ∧ o2.length = l.length ∧ (∀ (j : Nat), j < i → o2[j]? = o[j]?) ∧ ∀ (j : Nat), i ≤ j → o2[j]? = (l[j]?).map f := by
    intro n
    induction n with
    | zero => intro o i _ _ h; omega
    | succ n ih =>
      intro o i h1 hi h
      show ∃ o2, ob (step (l, o, (i : Int))) _ = _ ∧ _
      by_cases hlt : i < l.length
      · obtain ⟨y, hy, hy2⟩ := idx_get (l := l) (i := (i : Int)) (by omega) (by omega)
        obtain ⟨z, hz, hz2⟩ := idx_get (l := o) (i := (i : Int)) (by omega) (by omega)
        rw [hn o i y z h1 (by omega) (by omega) hy hz hz2]
        obtain ⟨o2, m1, m2, m3, m4⟩ := ih (o.set i (f y)) (i + 1) (by simpa using h1) (by omega) (by omega)
        refine ⟨o2, ?_, m2, fun j hj => ?_, fun j hj => ?_⟩
        · show iterP step n (l, o.set (i : Int).toNat (f y), (i : Int) + 1) = _
          rw [show (i : Int) + 1 = ((i + 1 : Nat) : Int) by omega]
          exact m1
        · rw [m3 j (by omega), List.getElem?_set_ne (by omega)]
        · by_cases hj' : j = i
          · subst hj'
            rw [m3 _ (by omega), List.getElem?_set_self (by omega), show l[j]? = some y by simpa using hy2]
            rfl
          · exact m4 j (by omega)
      · rw [ho o _ h1 (by omega)]
        have : i = l.length := by omega
        subst this
        refine ⟨o, rfl, h1, fun _ _ => rfl, fun j hj => ?_⟩
        rw [List.getElem?_eq_none (by omega), List.getElem?_eq_none (by omega)]; rfl
  obtain ⟨o2, m1, m2, _, m4⟩ := key (l.length - (0 : Int).toNat + 1) o 0 hol (by omega) (by simp)
  have : o2 = l.map f := by
    apply List.ext_getElem?
    intro j
    rw [m4 j (by omega), List.getElem?_map]
  rw [← this]
  exact m1

/-- A list is run through until one of its elements does not fit. -/
theorem all_loop {σ : Type} {step : σ → Option (LRes × σ)} {l : List α} (st : Int → σ) (p : α → Bool) (O Q : σ → Prop)
    (hn : ∀ (i : Int) (y : α), 0 ≤ i → i < l.length → idx l i = some y → p y = true → step (st i) = some (.next, st (i + 1)))
    (hb : ∀ (i : Int) (y : α), 0 ≤ i → i < l.length → idx l i = some y → p y = false → ∃ s, step (st i) = some (.ret, s) ∧ Q s)
    (ho : ∃ s, step (st l.length) = some (.out, s) ∧ O s) {n : Nat} (hf : l.length < n) :
    ∃ s, iter step n (st 0) = some (l.all p, s) ∧ (l.all p = true → O s) ∧ (l.all p = false → Q s) := by
  have key : ∀ (n : Nat) (i : Nat), i ≤ l.length → l.length - i < n → ∃ s, iter step n (st i) = some ((l.drop i).all p, s) ∧ ((l.drop i).all p = true → O s) ∧ ((l.drop i).all p = false → Q s) := by
    intro n
    induction n with
    | zero => intro i _ h; omega
    | succ n ih =>
      intro i hi h
      show ∃ s, ob (step (st i)) _ = _ ∧ _
      by_cases hlt : i < l.length
      · obtain ⟨y, hy, hy2⟩ := idx_get (l := l) (i := (i : Int)) (by omega) (by omega)
        have hd : l.drop i = y :: l.drop (i + 1) := by
          rw [List.drop_eq_getElem_cons hlt]
          congr 1
          have := List.getElem?_eq_getElem hlt
          rw [show l[(i : Int).toNat]? = l[i]? by simp, this] at hy2
          cases hy2; rfl
        rw [hd, List.all_cons]
        cases hp : p y with
        | true =>
          rw [hn i y (by omega) (by omega) hy hp, Bool.true_and]
          exact ih (i + 1) (by omega) (by omega)
        | false =>
          obtain ⟨s, h1, h2⟩ := hb i y (by omega) (by omega) hy hp
          rw [h1, Bool.false_and]
          exact ⟨s, rfl, fun h => (by cases h), fun _ => h2⟩
      · have : i = l.length := by omega
        subst this
        obtain ⟨s, h1, h2⟩ := ho
        rw [h1, List.drop_length]
        exact ⟨s, rfl, fun _ => h2, fun h => by cases h⟩
  exact key n 0 (by omega) (by omega)

/-- All elements fit, each at its place. -/
def allI (p : Nat → α → Bool) : List α → Nat → Bool
  | [], _ => true
  | y :: l, k => p k y && allI p l (k + 1)
theorem allI_congr {p q : Nat → α → Bool} : ∀ (l : List α) (k : Nat), (∀ (i : Nat) y, k ≤ i → l[i - k]? = some y → p i y = q i y) → allI p l k = allI q l k
  | [], _, _ => rfl
  | y :: l, k, h => by
    unfold allI
    rw [h k y (Nat.le_refl _) (by simp), allI_congr l (k + 1) fun i z hi hz => h i z (by omega) (by
      rw [show i - k = (i - (k + 1)) + 1 by omega]
      simpa using hz)]
theorem allI_true {p : Nat → α → Bool} : ∀ {l : List α} {k : Nat}, allI p l k = true → ∀ (i : Nat) y, l[i]? = some y → p (k + i) y = true
  | [], _, _, i, y, h => by simp at h
  | z :: l, k, hp, 0, y, h => by
    simp at h; subst h
    unfold allI at hp
    rw [Bool.and_eq_true] at hp
    exact hp.1
  | z :: l, k, hp, i + 1, y, h => by
    unfold allI at hp
    rw [Bool.and_eq_true] at hp
    have := allI_true hp.2 i y (by simpa using h)
    rw [show k + (i + 1) = k + 1 + i by omega]; exact this
/-- A list is run through until one of its elements does not fit at its place. -/
theorem all_loopI {σ : Type} {step : σ → Option (LRes × σ)} {l : List α} (st : Int → σ) (p : Nat → α → Bool) (O Q : σ → Prop)
    (hn : ∀ (i : Int) (y : α), 0 ≤ i → i < l.length → idx l i = some y → l[i.toNat]? = some y → p i.toNat y = true → step (st i) = some (.next, st (i + 1)))
    (hb : ∀ (i : Int) (y : α), 0 ≤ i → i < l.length → idx l i = some y → l[i.toNat]? = some y → p i.toNat y = false → ∃ s, step (st i) = some (.ret, s) ∧ Q s)
    (ho : ∃ s, step (st l.length) = some (.out, s) ∧ O s) {n : Nat} (hf : l.length < n) :
    ∃ s, iter step n (st 0) = some (allI p l 0, s) ∧ (allI p l 0 = true → O s) ∧ (allI p l 0 = false → Q s) := by
  have key : ∀ (n : Nat) (i : Nat), i ≤ l.length → l.length - i < n → ∃ s, iter step n (st i) = some (allI p (l.drop i) i, s) ∧ (allI p (l.drop i) i = true → O s) ∧ (allI p (l.drop i) i = false → Q s) := by
    intro n
    induction n with
    | zero => intro i _ h; omega
    | succ n ih =>
      intro i hi h
      show ∃ s, ob (step (st i)) _ = _ ∧ _
      by_cases hlt : i < l.length
      · obtain ⟨y, hy, hy2⟩ := idx_get (l := l) (i := (i : Int)) (by omega) (by omega)
        have hd : l.drop i = y :: l.drop (i + 1) := by
          rw [List.drop_eq_getElem_cons hlt]
          congr 1
          have := List.getElem?_eq_getElem hlt
          rw [show l[(i : Int).toNat]? = l[i]? by simp, this] at hy2
          cases hy2; rfl
        rw [hd]
        show ∃ s, _ ∧ ((p i y && allI p (l.drop (i + 1)) (i + 1)) = true → _) ∧ _
        cases hp : p i y with
        | true =>
          rw [hn i y (by omega) (by omega) hy hy2 hp]
          show ∃ s, _ = some (p i y && allI p (l.drop (i + 1)) (i + 1), s) ∧ _ ∧ ((p i y && allI p (l.drop (i + 1)) (i + 1)) = false → _)
          rw [hp, Bool.true_and]
          exact ih (i + 1) (by omega) (by omega)
        | false =>
          obtain ⟨s, h1, h2⟩ := hb i y (by omega) (by omega) hy hy2 hp
          rw [h1]
          show ∃ s, _ = some (p i y && allI p (l.drop (i + 1)) (i + 1), s) ∧ _ ∧ ((p i y && allI p (l.drop (i + 1)) (i + 1)) = false → _)
          rw [hp, Bool.false_and]
          exact ⟨s, rfl, fun h => (by cases h), fun _ => h2⟩
      · have : i = l.length := by omega
        subst this
        obtain ⟨s, h1, h2⟩ := ho
        rw [h1, List.drop_length]
        exact ⟨s, rfl, fun _ => h2, fun h => by cases h⟩
  exact key n 0 (by omega) (by omega)

/-- A list is folded. -/
theorem fold_loop {σ β : Type} {step : σ → Option (LRes × σ)} {l : List α} (st : Int → β → σ) (f : β → α → β) (J : Int → β → Prop) (fin : β → σ)
    (hn : ∀ (i : Int) (a : β) (y : α), 0 ≤ i → i < l.length → idx l i = some y → J i a → step (st i a) = some (.next, st (i + 1) (f a y)) ∧ J (i + 1) (f a y))
    (ho : ∀ a, J l.length a → step (st l.length a) = some (.out, fin a)) {n : Nat} (hf : l.length < n) {a0 : β} (h0 : J 0 a0) :
    iterP step n (st 0 a0) = some (fin (l.foldl f a0)) ∧ J l.length (l.foldl f a0) := by
  have key : ∀ (n : Nat) (i : Nat) (a : β), i ≤ l.length → l.length - i < n → J i a → iterP step n (st i a) = some (fin ((l.drop i).foldl f a)) ∧ J l.length ((l.drop i).foldl f a) := by
    intro n
    induction n with
    | zero => intro i _ _ h; omega
    | succ n ih =>
      intro i a hi h hJ
      show ob (step (st i a)) _ = _ ∧ _
      by_cases hlt : i < l.length
      · obtain ⟨y, hy, hy2⟩ := idx_get (l := l) (i := (i : Int)) (by omega) (by omega)
        have hd : l.drop i = y :: l.drop (i + 1) := by
          rw [List.drop_eq_getElem_cons hlt]
          congr 1
          have := List.getElem?_eq_getElem hlt
          rw [show l[(i : Int).toNat]? = l[i]? by simp, this] at hy2
          cases hy2; rfl
        obtain ⟨h1, h2⟩ := hn i a y (by omega) (by omega) hy hJ
        rw [hd, List.foldl_cons, h1]
        exact ih (i + 1) (f a y) (by omega) (by omega) h2
      · have : i = l.length := by omega
        subst this
        rw [ho a hJ, List.drop_length]
        exact ⟨rfl, hJ⟩
  exact key n 0 a0 (by omega) (by omega) h0

/-! ### Lists beside themselves; marks -/
/-- Two lists are run through side by side: equal elements. -/
theorem eq_loop {l : List α} {step : List α × List α × Bool × Int → Option (LRes × (List α × List α × Bool × Int))} (hl : l.length ≤ 4294967296)
    (hn : ∀ (i : Int) (b : Bool) (y : α), 0 ≤ i → i < l.length → idx l i = some y → step (l, l, b, i) = some (.next, l, l, b, i + 1)) (ho : ∀ (i : Int) (b : Bool), ¬ i < l.length → step (l, l, b, i) = some (.out, l, l, b, i)) (b : Bool) :
    ∃ i' : Int, iter step (l.length - (0 : Int).toNat + 1) (l, l, b, 0) = some (true, (l, l, b, i')) := by
  have key : ∀ (n : Nat) (i : Int), 0 ≤ i → l.length - i.toNat < n → ∃ i' : Int, iter step n (l, l, b, i) = some (true, (l, l, b, i')) := by
    intro n
    induction n with
    | zero => intro i _ h; omega
    | succ n ih =>
      intro i h0 h
      show ∃ i', ob (step (l, l, b, i)) _ = _
      by_cases hi : i < l.length
      · obtain ⟨y, hy, _⟩ := idx_get h0 hi
        rw [hn i b y h0 hi hy]
        exact ih (i + 1) (by omega) (by omega)
      · rw [ho i b hi]
        exact ⟨i, rfl⟩
  exact key _ 0 (by omega) (by simp)

/-- Each element gets its mark. -/
theorem mark_loop {step : List α × Int × Int → Option (LRes × (List α × Int × Int))} {mk : Int → α} {c : Int} (hc : 0 ≤ c ∧ c ≤ 1000) {l : List α} (hl : l.length ≤ 1048576) {k0 : Int} (hk0 : 0 ≤ k0 ∧ k0 ≤ 1000000000)
    (hn : ∀ (l' : List α) (k i : Int) (y : α), l'.length = l.length → 0 ≤ i → i < l.length → 0 ≤ k → k ≤ 10000000000 → idx l' i = some y → l'[i.toNat]? = some y → step (l', k, i) = some (.next, l'.set i.toNat (mk k), k + c, i + 1))
    (ho : ∀ (l' : List α) (k i : Int), l'.length = l.length → ¬ i < l.length → step (l', k, i) = some (.out, l', k, i)) :
    ∃ l', iterP step (l.length - (0 : Int).toNat + 1) (l, k0, 0) = some (l', k0 + c * l.length, (l.length : Int)) ∧ l'.length = l.length ∧ ∀ (j : Nat) y, l'[j]? = some y → y = mk (k0 + c * j) := by
  have key : ∀ (n : Nat) (l' : List α) (i : Nat), l'.length = l.length → i ≤ l.length → l.length - i < n →
      ∃ l2, iterP step n (l', k0 + c * i, (i : Int)) = some (l2, k0 + c * l.length, (l.length : Int)) ∧ l2.length = l.length ∧ (∀ (j : Nat), j < i → l2[j]? = l'[j]?) ∧ ∀ (j : Nat) y, i ≤ j → l2[j]? = some y → y = mk (k0 + c * j) := by
    intro n
    induction n with
    | zero => intro l' i _ _ h; omega
    | succ n ih =>
      intro l' i h1 hi h
      show ∃ l2, ob (step (l', k0 + c * i, (i : Int))) _ = _ ∧ _
      by_cases hlt : i < l.length
      · obtain ⟨y, hy, hy2⟩ := idx_get (l := l') (i := (i : Int)) (by omega) (by omega)
        have hci : 0 ≤ c * i := Int.mul_nonneg hc.1 (by omega)
        have hci2 : c * i ≤ 1000 * 1048576 := Int.mul_le_mul hc.2 (by omega) (by omega) (by omega)
        rw [hn l' (k0 + c * i) i y h1 (by omega) (by omega) (by omega) (by omega) hy hy2]
        obtain ⟨l2, m1, m2, m3, m4⟩ := ih (l'.set i (mk (k0 + c * i))) (i + 1) (by simpa using h1) (by omega) (by omega)
        refine ⟨l2, ?_, m2, fun j hj => ?_, fun j z hj hz => ?_⟩
        · show iterP step n (l'.set (i : Int).toNat (mk (k0 + c * i)), k0 + c * i + c, (i : Int) + 1) = _
          rw [show k0 + c * (i : Int) + c = k0 + c * ((i + 1 : Nat) : Int) by push_cast; rw [Int.mul_add]; omega, show (i : Int) + 1 = ((i + 1 : Nat) : Int) by push_cast; rfl]
          exact m1
        · rw [m3 j (by omega), List.getElem?_set_ne (by omega)]
        · by_cases hj' : j = i
          · subst hj'
            rw [m3 _ (by omega), List.getElem?_set_self (by omega)] at hz
            cases hz; rfl
          · exact m4 j z (by omega) hz
      · rw [ho l' _ i h1 (by omega)]
        have : i = l.length := by omega
        subst this
        refine ⟨l', rfl, h1, fun _ _ => rfl, fun j y hj hy => ?_⟩
        have := (List.getElem?_eq_some_iff.1 hy).1
        omega
  obtain ⟨l', m1, m2, _, m4⟩ := key (l.length - (0 : Int).toNat + 1) l 0 rfl (by omega) (by simp)
  refine ⟨l', ?_, m2, fun j y hy => m4 j y (by omega) hy⟩
  have e : k0 + c * ((0 : Nat) : Int) = k0 := by simp
  rw [e] at m1
  exact m1

/-- The marks are found. -/
theorem held_loop {step : List α × Int × Int × Int → Option (LRes × (List α × Int × Int × Int))} {mk : Int → α} {c : Int} (hc : 0 ≤ c ∧ c ≤ 1000) {l : List α} (hl : l.length ≤ 1048576) {k0 : Int} (hk0 : 0 ≤ k0 ∧ k0 ≤ 1000000000) (hm : ∀ (j : Nat) y, l[j]? = some y → y = mk (k0 + c * j))
    (hn : ∀ (k r i : Int), 0 ≤ i → i < l.length → 0 ≤ k → k ≤ 10000000000 → idx l i = some (mk k) → step (l, k, r, i) = some (.next, l, k + c, r, i + 1))
    (ho : ∀ (k r i : Int), ¬ i < l.length → step (l, k, r, i) = some (.out, l, k, r, i)) (r : Int) :
    iter step (l.length - (0 : Int).toNat + 1) (l, k0, r, 0) = some (true, (l, k0 + c * l.length, r, (l.length : Int))) := by
  have key : ∀ (n : Nat) (i : Nat), i ≤ l.length → l.length - i < n → iter step n (l, k0 + c * i, r, (i : Int)) = some (true, (l, k0 + c * l.length, r, (l.length : Int))) := by
    intro n
    induction n with
    | zero => intro i _ h; omega
    | succ n ih =>
      intro i hi h
      show ob (step (l, k0 + c * i, r, (i : Int))) _ = _
      by_cases hlt : i < l.length
      · obtain ⟨y, hy, hy2⟩ := idx_get (l := l) (i := (i : Int)) (by omega) (by omega)
        have := hm i y (by simpa using hy2)
        subst this
        have hci : 0 ≤ c * i := Int.mul_nonneg hc.1 (by omega)
        have hci2 : c * i ≤ 1000 * 1048576 := Int.mul_le_mul hc.2 (by omega) (by omega) (by omega)
        rw [hn (k0 + c * i) r i (by omega) (by omega) (by omega) (by omega) hy]
        show iter step n (l, k0 + c * i + c, r, (i : Int) + 1) = _
        rw [show k0 + c * (i : Int) + c = k0 + c * ((i + 1 : Nat) : Int) by push_cast; rw [Int.mul_add]; omega, show (i : Int) + 1 = ((i + 1 : Nat) : Int) by push_cast; rfl]
        exact ih (i + 1) (by omega) (by omega)
      · rw [ho _ r i (by omega)]
        have : i = l.length := by omega
        subst this
        rfl
  have := key (l.length - (0 : Int).toNat + 1) 0 (by omega) (by simp)
  have e : k0 + c * ((0 : Nat) : Int) = k0 := by simp
  rw [e] at this
  exact this

/-- Each element is changed where it lies. -/
theorem map_loop {σ : Type} {step : σ → Option (LRes × σ)} {l : List α} {f : α → α} (st : List α → Int → σ)
    (hn : ∀ (o : List α) (i : Int) (y : α), o.length = l.length → 0 ≤ i → i < l.length → l[i.toNat]? = some y → o[i.toNat]? = some y → idx o i = some y → step (st o i) = some (.next, st (o.set i.toNat (f y)) (i + 1)))
    (ho : ∀ o : List α, o.length = l.length → step (st o l.length) = some (.out, st o l.length)) {n : Nat} (hf : l.length < n) : iterP step n (st l 0) = some (st (l.map f) l.length) := by
  have key : ∀ (n : Nat) (i : Nat), i ≤ l.length → l.length - i < n → iterP step n (st ((l.take i).map f ++ l.drop i) i) = some (st (l.map f) l.length) := by
    intro n
    induction n with
    | zero => intro i _ h; omega
    | succ n ih =>
      intro i hi h
      have hlen : ((l.take i).map f ++ l.drop i).length = l.length := by simp; omega
      show ob (step (st ((l.take i).map f ++ l.drop i) i)) _ = _
      by_cases hlt : i < l.length
      · have hy : l[i]? = some l[i] := List.getElem?_eq_getElem hlt
        have ht : (l.take i).length = i := by rw [List.length_take]; omega
        have hy2 : ((l.take i).map f ++ l.drop i)[i]? = some l[i] := by
          rw [List.getElem?_append_right (by simp; omega), List.length_map, ht, Nat.sub_self, List.getElem?_drop, Nat.add_zero, hy]
        have hs : ((l.take i).map f ++ l.drop i).set i (f l[i]) = (l.take (i + 1)).map f ++ l.drop (i + 1) := by
          rw [List.set_append_right _ _ (by simp; omega), List.length_map, ht, Nat.sub_self, List.drop_eq_getElem_cons hlt, List.set_cons_zero, List.take_succ_eq_append_getElem hlt, List.map_append, List.append_assoc]
          rfl
        rw [hn _ (i : Int) l[i] hlen (by omega) (by omega) hy hy2 (idx_nat (by omega) hy2)]
        show iterP step n (st (((l.take i).map f ++ l.drop i).set i (f l[i])) ((i : Int) + 1)) = _
        rw [hs, show (i : Int) + 1 = ((i + 1 : Nat) : Int) by push_cast; rfl]
        exact ih (i + 1) (by omega) (by omega)
      · have : i = l.length := by omega
        subst this
        rw [ho _ hlen]
        simp [ob]
  have := key n 0 (by omega) (by omega)
  simpa using this
theorem foldl_append {β : Type} (g : α → β) : ∀ (l : List α) (a : List β), l.foldl (fun a y => a ++ [g y]) a = a ++ l.map g
  | [], a => by simp
  | y :: l, a => by
    rw [List.foldl_cons, foldl_append g l, List.map_cons, List.append_assoc]; rfl
theorem gi (l : List α) (i : Nat) : l.get?Internal i = l[i]? := rfl

/-! ### Folds that know the place -/
def foldI {β : Type} (f : Nat → β → α → β) : List α → Nat → β → β
  | [], _, a => a
  | y :: l, i, a => foldI f l (i + 1) (f i a y)
theorem foldI_map {β γ : Type} (f : Nat → β → γ → β) (g : α → γ) : ∀ (l : List α) (i : Nat) (a : β), foldI f (l.map g) i a = foldI (fun i a y => f i a (g y)) l i a
  | [], _, _ => rfl
  | y :: l, i, a => foldI_map f g l (i + 1) (f i a (g y))
theorem foldI_congr {β : Type} {f g : Nat → β → α → β} : ∀ (l : List α) (i : Nat) (a : β), (∀ j a y, y ∈ l → f j a y = g j a y) → foldI f l i a = foldI g l i a
  | [], _, _, _ => rfl
  | y :: l, i, a, h => by
    unfold foldI
    rw [h i a y (by simp), foldI_congr l (i + 1) _ fun j a z hz => h j a z (by simp [hz])]
theorem foldI_rel {β γ : Type} (R : β → γ → Prop) {f : Nat → β → α → β} {g : Nat → γ → α → γ} : ∀ (l : List α) (i : Nat) (a : β) (b : γ), R a b → (∀ j a b y, y ∈ l → R a b → R (f j a y) (g j b y)) → R (foldI f l i a) (foldI g l i b)
  | [], _, _, _, h, _ => h
  | y :: l, i, a, b, h, hs => foldI_rel R l (i + 1) _ _ (hs i a b y (by simp) h) fun j a b z hz => hs j a b z (by simp [hz])
section
variable {σ β : Type} {step : σ → Option (LRes × σ)} {l : List α} (st : Int → β → σ) (f : Nat → β → α → β) (J : Int → β → Prop) (fin : β → σ)
theorem foldI_loop
    (hn : ∀ (i : Int) (a : β) (y : α), 0 ≤ i → i < l.length → idx l i = some y → l[i.toNat]? = some y → J i a → step (st i a) = some (.next, st (i + 1) (f i.toNat a y)) ∧ J (i + 1) (f i.toNat a y))
    (ho : ∀ a, J l.length a → step (st l.length a) = some (.out, fin a)) {n : Nat} (hf : l.length < n) {a0 : β} (h0 : J 0 a0) :
    (iterP step n (st 0 a0) = some (fin (foldI f l 0 a0)) ∧ iter step n (st 0 a0) = some (true, fin (foldI f l 0 a0))) ∧ J l.length (foldI f l 0 a0) := by
  have key : ∀ (n : Nat) (i : Nat) (a : β), i ≤ l.length → l.length - i < n → J i a → (iterP step n (st i a) = some (fin (foldI f (l.drop i) i a)) ∧ iter step n (st i a) = some (true, fin (foldI f (l.drop i) i a))) ∧ J l.length (foldI f (l.drop i) i a) := by
    intro n
    induction n with
    | zero => intro i _ _ h; omega
    | succ n ih =>
      intro i a hi h hJ
      show (ob (step (st i a)) _ = _ ∧ ob (step (st i a)) _ = _) ∧ _
      by_cases hlt : i < l.length
      · obtain ⟨y, hy, hy2⟩ := idx_get (l := l) (i := (i : Int)) (by omega) (by omega)
        have hd : l.drop i = y :: l.drop (i + 1) := by
          rw [List.drop_eq_getElem_cons hlt]
          congr 1
          have := List.getElem?_eq_getElem hlt
          rw [show l[(i : Int).toNat]? = l[i]? by simp, this] at hy2
          cases hy2; rfl
        obtain ⟨h1, h2⟩ := hn i a y (by omega) (by omega) hy hy2 hJ
        rw [hd, h1]
        exact ih (i + 1) (f i a y) (by omega) (by omega) h2
      · have : i = l.length := by omega
        subst this
        rw [ho a hJ, List.drop_length]
        exact ⟨⟨rfl, rfl⟩, hJ⟩
  exact key n 0 a0 (by omega) (by omega) h0
end
theorem allI_of {p : Nat → α → Bool} : ∀ {l : List α} {k : Nat}, (∀ (i : Nat) y, l[i]? = some y → p (k + i) y = true) → allI p l k = true
  | [], _, _ => rfl
  | z :: l, k, h => by
    unfold allI
    have h0 : p k z = true := h 0 z (by simp)
    rw [h0, Bool.true_and]
    exact allI_of fun i y hy => by
      have := h (i + 1) y (by simpa using hy)
      rw [show k + 1 + i = k + (i + 1) by omega]; exact this
end
end Rx
end Go.Proofs.YthfgpnpoocepeaaGreat
