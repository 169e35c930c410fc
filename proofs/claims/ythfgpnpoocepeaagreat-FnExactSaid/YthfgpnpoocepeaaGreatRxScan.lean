/- Loops that mark what lies in memory, and loops that look whether the marks are there. Plain facts. No conditions. -/
import Derived.Test.YthfgpnpoocepeaaGreatRxPlain
namespace Go.Proofs.YthfgpnpoocepeaaGreat
namespace Rx
open Go
section
variable {α : Type}

/-- Each element is changed, with a number that goes on. -/
def scanL (f : Int → α → α) (g : Int → α → Int) : List α → Int → List α
  | [], _ => []
  | y :: l, k => f k y :: scanL f g l (g k y)
def scanK (g : Int → α → Int) : List α → Int → Int
  | [], k => k
  | y :: l, k => scanK g l (g k y)
theorem scanL_len (f : Int → α → α) (g : Int → α → Int) : ∀ (l : List α) (k : Int), (scanL f g l k).length = l.length
  | [], _ => rfl
  | y :: l, k => by
    unfold scanL
    rw [List.length_cons, List.length_cons, scanL_len f g l]
theorem scanK_bd {g : Int → α → Int} {c : Int} (hc : 0 ≤ c) : ∀ (l : List α) (k : Int), (∀ k y, y ∈ l → k ≤ g k y ∧ g k y ≤ k + c) → k ≤ scanK g l k ∧ scanK g l k ≤ k + c * l.length
  | [], k, _ => by simp [scanK]
  | y :: l, k, h => by
    have h1 := h k y (by simp)
    have h2 := scanK_bd hc l (g k y) fun k z hz => h k z (by simp [hz])
    unfold scanK
    have e : c * ((y :: l).length : Int) = c * (l.length : Int) + c := by
      rw [List.length_cons]; push_cast; rw [Int.mul_add]; omega
    rw [e]; omega
theorem set_mid {a : List α} {y z : α} {b : List α} : (a ++ y :: b).set a.length z = a ++ z :: b := by
  rw [List.set_append_right _ _ (Nat.le_refl _), Nat.sub_self]; rfl
theorem get_mid {a : List α} {y : α} {b : List α} : (a ++ y :: b)[a.length]? = some y := by
  rw [List.getElem?_append_right (Nat.le_refl _), Nat.sub_self]; rfl

theorem scan_loop {step : List α × Int × Int → Option (LRes × (List α × Int × Int))} {f : Int → α → α} {g : Int → α → Int} {c : Int} (hc : 0 ≤ c ∧ c ≤ 1048577) {l : List α} (hl : l.length ≤ 1048576) {k0 : Int} (hk0 : 0 ≤ k0)
    (hg : ∀ k y, y ∈ l → k ≤ g k y ∧ g k y ≤ k + c)
    (hn : ∀ (l' : List α) (k i : Int) (y : α), l'.length = l.length → 0 ≤ i → i < l.length → 0 ≤ k → k ≤ k0 + 1099512676352 → y ∈ l → idx l' i = some y → l'[i.toNat]? = some y → step (l', k, i) = some (.next, l'.set i.toNat (f k y), g k y, i + 1))
    (ho : ∀ (l' : List α) (k i : Int), l'.length = l.length → ¬ i < l.length → step (l', k, i) = some (.out, l', k, i)) {n : Nat} (hf : l.length < n) :
    iterP step n (l, k0, 0) = some (scanL f g l k0, scanK g l k0, (l.length : Int)) := by
  have key : ∀ (n : Nat) (b a : List α) (k : Int), a.length + b.length = l.length → (∀ y ∈ b, y ∈ l) → b.length < n → 0 ≤ k → k ≤ k0 + c * a.length →
      iterP step n (a ++ b, k, (a.length : Int)) = some (a ++ scanL f g b k, scanK g b k, (l.length : Int)) := by
    intro n
    induction n with
    | zero => intro b a k _ _ h; omega
    | succ n ih =>
      intro b a k hab hb h h0 hk
      have hci : c * (a.length : Int) ≤ 1048577 * 1048576 := Int.mul_le_mul hc.2 (by omega) (by omega) (by omega)
      show ob (step (a ++ b, k, (a.length : Int))) _ = _
      cases b with
      | nil =>
        rw [ho _ k _ (by simpa using hab) (by simp at hab; omega)]
        simp only [List.length_nil, Nat.add_zero] at hab
        rw [← hab]; rfl
      | cons y b =>
        have hy := hb y (by simp)
        have hlen : (a ++ y :: b).length = l.length := by rw [List.length_append]; exact hab
        rw [List.length_cons] at hab h
        have hy2 : (a ++ y :: b)[((a.length : Int)).toNat]? = some y := get_mid
        rw [hn (a ++ y :: b) k a.length y hlen (by omega) (by omega) h0 (by omega) hy (idx_nat (by omega) hy2) hy2]
        have e : (a ++ y :: b).set ((a.length : Int)).toNat (f k y) = (a ++ [f k y]) ++ b := by
          rw [List.append_assoc]; exact set_mid
        have h1 := hg k y hy
        show iterP step n ((a ++ y :: b).set ((a.length : Int)).toNat (f k y), g k y, (a.length : Int) + 1) = _
        have := ih b (a ++ [f k y]) (g k y) (by simp; omega) (fun z hz => hb z (by simp [hz])) (by omega) (by omega) (by
          rw [List.length_append]
          have : c * ((a.length + [f k y].length : Nat) : Int) = c * (a.length : Int) + c := by
            push_cast; rw [Int.mul_add]; simp
          omega)
        rw [e]
        rw [List.length_append] at this
        rw [show (a.length : Int) + 1 = ((a.length + [f k y].length : Nat) : Int) by push_cast; rfl, this, List.append_assoc]
        rfl
  have := key n l [] k0 (by simp) (fun y hy => hy) hf hk0 (by simp)
  exact this

theorem scan_held {step : List α × Int × Int × Int → Option (LRes × (List α × Int × Int × Int))} {f : Int → α → α} {g : Int → α → Int} {c : Int} (hc : 0 ≤ c ∧ c ≤ 1048577) {l : List α} (hl : l.length ≤ 1048576) {k0 : Int} (hk0 : 0 ≤ k0)
    (hg : ∀ k y, y ∈ l → k ≤ g k y ∧ g k y ≤ k + c)
    (hn : ∀ (k r i : Int) (y : α), 0 ≤ i → i < l.length → 0 ≤ k → k ≤ k0 + 1099512676352 → y ∈ l → idx (scanL f g l k0) i = some (f k y) → step (scanL f g l k0, k, r, i) = some (.next, scanL f g l k0, g k y, r, i + 1))
    (ho : ∀ (k r i : Int), ¬ i < l.length → step (scanL f g l k0, k, r, i) = some (.out, scanL f g l k0, k, r, i)) (r : Int) {n : Nat} (hf : l.length < n) :
    iter step n (scanL f g l k0, k0, r, 0) = some (true, (scanL f g l k0, scanK g l k0, r, (l.length : Int))) := by
  have key : ∀ (n : Nat) (b a : List α) (k : Int), a.length + b.length = l.length → (∀ y ∈ b, y ∈ l) → b.length < n → 0 ≤ k → k ≤ k0 + c * a.length → scanL f g l k0 = a ++ scanL f g b k →
      iter step n (scanL f g l k0, k, r, (a.length : Int)) = some (true, (scanL f g l k0, scanK g b k, r, (l.length : Int))) := by
    intro n
    induction n with
    | zero => intro b a k _ _ h; omega
    | succ n ih =>
      intro b a k hab hb h h0 hk he
      have hci : c * (a.length : Int) ≤ 1048577 * 1048576 := Int.mul_le_mul hc.2 (by omega) (by omega) (by omega)
      show ob (step (scanL f g l k0, k, r, (a.length : Int))) _ = _
      cases b with
      | nil =>
        rw [ho k r _ (by simp at hab; omega)]
        simp only [List.length_nil, Nat.add_zero] at hab
        rw [← hab]; rfl
      | cons y b =>
        have hy := hb y (by simp)
        rw [List.length_cons] at hab h
        have hy2 : (scanL f g l k0)[((a.length : Int)).toNat]? = some (f k y) := by
          rw [he]; exact get_mid
        rw [hn k r a.length y (by omega) (by omega) h0 (by omega) hy (idx_nat (by omega) hy2)]
        have h1 := hg k y hy
        show iter step n (scanL f g l k0, g k y, r, (a.length : Int) + 1) = _
        have := ih b (a ++ [f k y]) (g k y) (by simp; omega) (fun z hz => hb z (by simp [hz])) (by omega) (by omega) (by
          rw [List.length_append]
          have : c * ((a.length + [f k y].length : Nat) : Int) = c * (a.length : Int) + c := by
            push_cast; rw [Int.mul_add]; simp
          omega) (by rw [he, List.append_assoc]; rfl)
        rw [List.length_append] at this
        rw [show (a.length : Int) + 1 = ((a.length + [f k y].length : Nat) : Int) by push_cast; rfl, this]
        rfl
  have := key n l [] k0 (by simp) (fun y hy => hy) hf hk0 (by simp) rfl
  exact this
end

/-! ### Loops that return other variables -/
theorem iterA_sim {α β α' β' : Type} {stepA : α → Option (LS α β)} {stepB : α' → Option (LS α' β')} (I O : α → α' → Prop) (Q : β → β' → Prop) (mu : α → Nat)
    (h : ∀ a b, I a b → (∃ a' b', stepA a = some (.next a') ∧ stepB b = some (.next b') ∧ I a' b' ∧ mu a' < mu a) ∨ (∃ a' b', stepA a = some (.out a') ∧ stepB b = some (.out b') ∧ O a' b') ∨ ∃ r r', stepA a = some (.ret r) ∧ stepB b = some (.ret r') ∧ Q r r') :
    ∀ (n m : Nat) (a : α) (b : α'), I a b → mu a < n → mu a < m → (∃ a' b', iterA stepA n a = some (.inl a') ∧ iterA stepB m b = some (.inl b') ∧ O a' b') ∨ ∃ r r', iterA stepA n a = some (.inr r) ∧ iterA stepB m b = some (.inr r') ∧ Q r r'
  | 0, _, _, _, _, h, _ => by omega
  | _ + 1, 0, _, _, _, _, h => by omega
  | n + 1, m + 1, a, b, hI, hn, hm => by
    show (∃ a' b', ob (stepA a) _ = _ ∧ ob (stepB b) _ = _ ∧ _) ∨ ∃ r r', ob (stepA a) _ = _ ∧ ob (stepB b) _ = _ ∧ _
    rcases h a b hI with ⟨a', b', h1, h2, h3, h4⟩ | ⟨a', b', h1, h2, h3⟩ | ⟨r, r', h1, h2, h3⟩
    · rw [h1, h2]
      exact iterA_sim I O Q mu h n m a' b' h3 (by omega) (by omega)
    · rw [h1, h2]
      exact .inl ⟨a', b', rfl, rfl, h3⟩
    · rw [h1, h2]
      exact .inr ⟨r, r', rfl, rfl, h3⟩
theorem iterA_end {α β : Type} {step : α → Option (LS α β)} (I O : α → Prop) (Q : β → Prop) (mu : α → Nat)
    (h : ∀ a, I a → (∃ a', step a = some (.next a') ∧ I a' ∧ mu a' < mu a) ∨ (∃ a', step a = some (.out a') ∧ O a') ∨ ∃ r, step a = some (.ret r) ∧ Q r) :
    ∀ (n : Nat) (a : α), I a → mu a < n → (∃ a', iterA step n a = some (.inl a') ∧ O a') ∨ ∃ r, iterA step n a = some (.inr r) ∧ Q r
  | 0, _, _, h => by omega
  | n + 1, a, hI, hn => by
    show (∃ a', ob (step a) _ = _ ∧ _) ∨ ∃ r, ob (step a) _ = _ ∧ _
    rcases h a hI with ⟨a', h1, h3, h4⟩ | ⟨a', h1, h3⟩ | ⟨r, h1, h3⟩
    · rw [h1]
      exact iterA_end I O Q mu h n a' h3 (by omega)
    · rw [h1]
      exact .inl ⟨a', rfl, h3⟩
    · rw [h1]
      exact .inr ⟨r, rfl, h3⟩
end Rx
end Go.Proofs.YthfgpnpoocepeaaGreat
