/- The exact trains in plain terms: a loop with a cap, groups by products. No program in sight. -/
import Derived.Test.YthfgpnpoocepeaaRxProdLaw
namespace Go.Proofs.Ythfgpnpoocepeaa
namespace Rx
open Go

noncomputable section
/-! ### A loop that gives up at the 41st -/
theorem cap_loop {α β σ τ : Type} {step : σ → Option (LS σ τ)} {l : List α} (st : Int → List β → σ) (g : α → List β) (ρ : τ) (fin : List β → σ)
    (hn : ∀ (i : Int) (a : List β) (y : α), 0 ≤ i → i < l.length → idx l i = some y → y ∈ l → a.length ≤ 40 → step (st i a) = some (if (a ++ g y).length ≤ 40 then .next (st (i + 1) (a ++ g y)) else .ret ρ))
    (ho : ∀ a, a.length ≤ 40 → step (st l.length a) = some (.out (fin a))) {n : Nat} (hf : l.length < n) {a0 : List β} (h0 : a0.length ≤ 40) :
    iterA step n (st 0 a0) = some (if (a0 ++ l.flatMap g).length ≤ 40 then .inl (fin (a0 ++ l.flatMap g)) else .inr ρ) := by
  have key : ∀ (n : Nat) (i : Nat) (a : List β), i ≤ l.length → l.length - i < n → a.length ≤ 40 → iterA step n (st i a) = some (if (a ++ (l.drop i).flatMap g).length ≤ 40 then .inl (fin (a ++ (l.drop i).flatMap g)) else .inr ρ) := by
    intro n
    induction n with
    | zero => intro i _ _ h; omega
    | succ n ih =>
      intro i a hi h hJ
      show ob (step (st i a)) _ = _
      by_cases hlt : i < l.length
      · rw [List.drop_eq_getElem_cons hlt, List.flatMap_cons, ← List.append_assoc]
        have e := hn i a l[i] (by omega) (by omega) (get_idx hlt) (List.getElem_mem hlt) hJ
        rw [e]
        by_cases hc : (a ++ g l[i]).length ≤ 40
        · rw [if_pos hc]
          exact ih (i + 1) _ (by omega) (by omega) hc
        · rw [if_neg hc, if_neg (by simp only [List.length_append] at hc ⊢; omega)]
          rfl
      · have : i = l.length := by omega
        subst this
        rw [ho a hJ, List.drop_length, List.flatMap_nil, List.append_nil, if_pos hJ]
        rfl
  exact key n 0 a0 (by omega) (by omega) h0
theorem flatMap_one {α β : Type} (f : α → β) : ∀ l : List α, l.flatMap (fun b => [f b]) = l.map f
  | [] => rfl
  | x :: l => by rw [List.flatMap_cons, flatMap_one f l]; rfl

/-! ### Groups -/
theorem flatMap_split {α β : Type} (f g : α → List β) : ∀ l : List α, (l.flatMap fun p => f p ++ g p).Perm (l.flatMap f ++ l.flatMap g)
  | [] => by simp
  | x :: l => by
    rw [List.flatMap_cons, List.flatMap_cons, List.flatMap_cons, List.append_assoc, List.append_assoc]
    refine List.Perm.append_left _ ?_
    refine ((flatMap_split f g l).append_left _).trans ?_
    rw [← List.append_assoc, ← List.append_assoc]
    exact List.perm_append_comm.append_right _
theorem flatMap_at {β : Type} {q : Int} (h : List β) : ∀ {ps : List Int}, ps.Nodup → q ∈ ps → (ps.flatMap fun p => if q = p then h else []) = h
  | [], _, hm => by cases hm
  | p :: ps, hn, hm => by
    rw [List.flatMap_cons]
    have hn' := List.nodup_cons.1 hn
    by_cases e : q = p
    · subst e
      rw [if_pos rfl]
      have : (ps.flatMap fun p => if q = p then h else []) = [] := by
        rw [List.flatMap_eq_nil_iff]
        intro y hy
        rw [if_neg]
        rintro rfl
        exact hn'.1 hy
      rw [this, List.append_nil]
    · rw [if_neg e, List.nil_append]
      rcases List.mem_cons.1 hm with h1 | h1
      · exact absurd h1 e
      · exact flatMap_at h hn'.2 h1
/-- Group by group or one by one: the same elements. -/
theorem group_perm {α β : Type} (key : α → Int) (h : α → List β) {ps : List Int} (hn : ps.Nodup) : ∀ {W : List α}, (∀ a ∈ W, key a ∈ ps) → (ps.flatMap fun p => (W.filter fun a => key a == p).flatMap h).Perm (W.flatMap h)
  | [], _ => by simp
  | a :: W, hW => by
    have e : (fun p => ((a :: W).filter fun a => key a == p).flatMap h) = fun p => (if key a = p then h a else []) ++ (W.filter fun a => key a == p).flatMap h := by
      funext p
      rw [List.filter_cons]
      by_cases hp : key a = p
      · rw [if_pos (by simpa using hp), if_pos hp]; rfl
      · rw [if_neg (by simpa using hp), if_neg hp]; rfl
    rw [e, List.flatMap_cons]
    refine (flatMap_split _ _ ps).trans ?_
    rw [flatMap_at _ hn (hW a (by simp))]
    exact List.Perm.append_left _ (group_perm key h hn fun b hb => hW b (by simp [hb]))
theorem flatMap_congr' {α β : Type} {f g : α → List β} : ∀ {l : List α}, (∀ x ∈ l, f x = g x) → l.flatMap f = l.flatMap g
  | [], _ => rfl
  | x :: l, h => by rw [List.flatMap_cons, List.flatMap_cons, h x (by simp), flatMap_congr' fun y hy => h y (by simp [hy])]
theorem flatMap_perm {α β : Type} {f g : α → List β} : ∀ {l : List α}, (∀ x ∈ l, (f x).Perm (g x)) → (l.flatMap f).Perm (l.flatMap g)
  | [], _ => .refl _
  | x :: l, h => by
    rw [List.flatMap_cons, List.flatMap_cons]
    exact (h x (by simp)).append (flatMap_perm fun y hy => h y (by simp [hy]))

/-! ### In ascending order -/
theorem filter_take {l : List (Int × List Int)} (hs : ascP l) {v : Int} {k : Nat} (hk : k ≤ l.length) (h1 : ∀ y ∈ l.drop k, v < y.1) : l.filter (fun d => d.1 == v) = (l.take k).filter (fun d => d.1 == v) := by
  conv => lhs; rw [← List.take_append_drop k l]
  rw [List.filter_append]
  have : (l.drop k).filter (fun d => d.1 == v) = [] := by
    rw [List.filter_eq_nil_iff]
    intro y hy
    have := h1 y hy
    simp; omega
  rw [this, List.append_nil]
end
end Rx
end Go.Proofs.Ythfgpnpoocepeaa
