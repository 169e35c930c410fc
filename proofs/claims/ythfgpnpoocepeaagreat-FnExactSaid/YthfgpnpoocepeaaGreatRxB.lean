/- What it is for a value in a world to be some data; that it stays so where the cells looked at stay. No conditions. -/
import Derived.Test.YthfgpnpoocepeaaGreatRxA
import Derived.Test.YthfgpnpoocepeaaGreatRxLaid
import Derived.Laws.OwnMore
import Derived.Laws.CopyRow
import Derived.Laws.Tables
import Derived.Laws.Cells
import Derived.Deep.MidRow
import Derived.Lib.FrozenHead
namespace Go.Proofs.YthfgpnpoocepeaaGreat
open Go.RowKit
namespace Rx

def All2 {α β : Type} (R : α → β → Prop) : List α → List β → Prop
  | [], [] => True
  | x :: xs, y :: ys => R x y ∧ All2 R xs ys
  | _, _ => False

section
variable {α β : Type} {R R' : α → β → Prop}
theorem All2.len : ∀ {xs : List α} {ys : List β}, All2 R xs ys → xs.length = ys.length
  | [], [], _ => rfl
  | _ :: _, _ :: _, h => by simp [All2.len h.2]
  | [], _ :: _, h => h.elim
  | _ :: _, [], h => h.elim
theorem All2.mono (hR : ∀ x y, R x y → R' x y) : ∀ {xs : List α} {ys : List β}, All2 R xs ys → All2 R' xs ys
  | [], [], _ => trivial
  | _ :: _, _ :: _, h => ⟨hR _ _ h.1, h.2.mono hR⟩
  | [], _ :: _, h => h.elim
  | _ :: _, [], h => h.elim
theorem All2.append : ∀ {xs : List α} {ys : List β} {xs' : List α} {ys' : List β}, All2 R xs ys → All2 R xs' ys' → All2 R (xs ++ xs') (ys ++ ys')
  | [], [], _, _, _, h' => h'
  | _ :: _, _ :: _, _, _, h, h' => ⟨h.1, h.2.append h'⟩
  | [], _ :: _, _, _, h, _ => h.elim
  | _ :: _, [], _, _, h, _ => h.elim
theorem All2.take : ∀ {n : Nat} {xs : List α} {ys : List β}, All2 R xs ys → All2 R (xs.take n) (ys.take n)
  | 0, _, _, _ => trivial
  | _ + 1, [], [], _ => trivial
  | n + 1, _ :: _, _ :: _, h => ⟨h.1, All2.take (n := n) h.2⟩
  | _ + 1, [], _ :: _, h => h.elim
  | _ + 1, _ :: _, [], h => h.elim
theorem All2.drop : ∀ {n : Nat} {xs : List α} {ys : List β}, All2 R xs ys → All2 R (xs.drop n) (ys.drop n)
  | 0, _, _, h => h
  | _ + 1, [], [], _ => trivial
  | n + 1, _ :: _, _ :: _, h => All2.drop (n := n) h.2
  | _ + 1, [], _ :: _, h => h.elim
  | _ + 1, _ :: _, [], h => h.elim
theorem All2.get : ∀ {xs : List α} {ys : List β} {i : Nat} {x : α}, All2 R xs ys → xs[i]? = some x → ∃ y, ys[i]? = some y ∧ R x y
  | [], [], _, _, _, hx => by simp at hx
  | a :: xs, b :: ys, 0, x, h, hx => by simp at hx; subst hx; exact ⟨b, rfl, h.1⟩
  | a :: xs, b :: ys, i + 1, x, h, hx => by
    obtain ⟨y, hy, hr⟩ := All2.get h.2 (show xs[i]? = some x by simpa using hx)
    exact ⟨y, by simpa using hy, hr⟩
  | [], _ :: _, _, _, h, _ => h.elim
  | _ :: _, [], _, _, h, _ => h.elim
theorem All2.one {x : α} {y : β} (h : R x y) : All2 R [x] [y] := ⟨h, trivial⟩
theorem All2.one' {x : α} {ys : List β} (h : All2 R [x] ys) : ∃ y, ys = [y] ∧ R x y := by
  match ys, h with
  | [y], h => exact ⟨y, rfl, h.1⟩
  | [], h => exact h.elim
  | _ :: _ :: _, h => exact h.2.elim
theorem All2.cons' {x : α} {xs : List α} {ys : List β} (h : All2 R (x :: xs) ys) : ∃ y r, ys = y :: r ∧ R x y ∧ All2 R xs r := by
  match ys, h with
  | y :: r, h => exact ⟨y, r, rfl, h.1, h.2⟩
  | [], h => exact h.elim
theorem All2.nil' {ys : List β} (h : All2 R [] ys) : ys = [] := by
  match ys, h with
  | [], _ => rfl
  | _ :: _, h => exact h.elim
theorem All2.split {xs xs' : List α} {ys : List β} (h : All2 R (xs ++ xs') ys) : ∃ y1 y2, ys = y1 ++ y2 ∧ All2 R xs y1 ∧ All2 R xs' y2 := by
  refine ⟨ys.take xs.length, ys.drop xs.length, (List.take_append_drop _ _).symm, ?_, ?_⟩
  · have := h.take (n := xs.length); simpa using this
  · have := h.drop (n := xs.length); simpa using this
theorem All2.all_right {p : β → Prop} (hp : ∀ x y, R x y → p y) : ∀ {xs : List α} {ys : List β}, All2 R xs ys → ∀ y ∈ ys, p y
  | [], [], _, _, hy => by cases hy
  | _ :: _, _ :: _, h, y, hy => by
    cases hy with
    | head => exact hp _ _ h.1
    | tail _ hy => exact All2.all_right hp h.2 y hy
  | [], _ :: _, h, _, _ => h.elim
  | _ :: _, [], h, _, _ => h.elim
end

/-- Cells one element behind another. -/
def RepL {α : Type} (R : α → List Value → Prop) : List α → List Value → Prop
  | [], vs => vs = []
  | x :: xs, vs => ∃ v1 v2, vs = v1 ++ v2 ∧ R x v1 ∧ RepL R xs v2

section
variable {α : Type} {R R' : α → List Value → Prop} {n : Nat}
theorem RepL.mono (hR : ∀ x vs, R x vs → R' x vs) : ∀ {xs : List α} {vs : List Value}, RepL R xs vs → RepL R' xs vs
  | [], _, h => h
  | _ :: _, _, ⟨v1, v2, e, h1, h2⟩ => ⟨v1, v2, e, hR _ _ h1, RepL.mono hR h2⟩
theorem RepL.len (hR : ∀ x vs, R x vs → vs.length = n) : ∀ {xs : List α} {vs : List Value}, RepL R xs vs → vs.length = xs.length * n
  | [], _, h => by
    have : _ = [] := h
    simp [this]
  | x :: xs, _, ⟨v1, v2, e, h1, h2⟩ => by
    have := RepL.len hR h2
    rw [e, List.length_append, hR _ _ h1, this, List.length_cons, Nat.add_mul]
    omega
theorem RepL.append : ∀ {xs ys : List α} {vs us : List Value}, RepL R xs vs → RepL R ys us → RepL R (xs ++ ys) (vs ++ us)
  | [], _, _, _, h, h' => by
    have : _ = [] := h
    subst this; exact h'
  | x :: xs, _, _, _, ⟨v1, v2, e, h1, h2⟩, h' => ⟨v1, v2 ++ _, by rw [e, List.append_assoc], h1, RepL.append h2 h'⟩
theorem RepL.get (hR : ∀ x vs, R x vs → vs.length = n) : ∀ {xs : List α} {vs : List Value} {i : Nat} {x : α}, RepL R xs vs → xs[i]? = some x → R x ((vs.drop (i * n)).take n)
  | [], _, _, _, _, hx => by simp at hx
  | y :: xs, _, 0, x, ⟨v1, v2, e, h1, h2⟩, hx => by
    simp at hx; subst hx
    have hl := hR _ _ h1
    subst hl
    rw [e]
    simpa using h1
  | y :: xs, _, i + 1, x, ⟨v1, v2, e, h1, h2⟩, hx => by
    have hl := hR _ _ h1
    have := RepL.get hR h2 (show xs[i]? = some x by simpa using hx)
    rw [e, Nat.add_mul, Nat.one_mul, List.drop_append, List.drop_eq_nil_of_le (by omega), List.nil_append, hl, show i * n + n - n = i * n by omega]
    exact this
theorem RepL.set (hR : ∀ x vs, R x vs → vs.length = n) : ∀ {xs : List α} {vs us : List Value} {i : Nat} {y : α}, RepL R xs vs → i < xs.length → R y us → RepL R (xs.set i y) (vs.take (i * n) ++ us ++ vs.drop (i * n + n))
  | [], _, _, _, _, _, hi, _ => by simp at hi
  | x :: xs, _, us, 0, y, ⟨v1, v2, e, h1, h2⟩, _, hy => by
    have hl := hR _ _ h1
    refine ⟨us, v2, ?_, hy, h2⟩
    rw [e, ← hl]; simp
  | x :: xs, _, us, i + 1, y, ⟨v1, v2, e, h1, h2⟩, hi, hy => by
    have hl := hR _ _ h1
    have hL := RepL.len hR h2
    have ih := RepL.set hR h2 (show i < xs.length by simpa using hi) hy
    refine ⟨v1, v2.take (i * n) ++ us ++ v2.drop (i * n + n), ?_, h1, ih⟩
    rw [e, Nat.add_mul, Nat.one_mul, List.take_append, List.take_of_length_le (show v1.length ≤ i * n + n by omega), List.drop_append, List.drop_eq_nil_of_le (show v1.length ≤ i * n + n + n by omega), hl,
      show i * n + n - n = i * n by omega, show i * n + n + n - n = i * n + n by omega]
    simp
theorem RepL.take (hR : ∀ x vs, R x vs → vs.length = n) : ∀ {xs : List α} {vs : List Value} {k : Nat}, RepL R xs vs → RepL R (xs.take k) (vs.take (k * n))
  | xs, _, 0, _ => by simp [RepL]
  | [], _, k + 1, h => by
    have : _ = [] := h
    subst this; simp [RepL]
  | x :: xs, _, k + 1, ⟨v1, v2, e, h1, h2⟩ => by
    have hl := hR _ _ h1
    refine ⟨v1, v2.take (k * n), ?_, h1, RepL.take hR h2⟩
    rw [e, Nat.add_mul, Nat.one_mul, List.take_append, List.take_of_length_le (show v1.length ≤ k * n + n by omega), hl, show k * n + n - n = k * n by omega]
theorem RepL.drop (hR : ∀ x vs, R x vs → vs.length = n) : ∀ {xs : List α} {vs : List Value} {k : Nat}, RepL R xs vs → RepL R (xs.drop k) (vs.drop (k * n))
  | xs, _, 0, h => by simpa using h
  | [], _, k + 1, h => by
    have : _ = [] := h
    subst this; simp [RepL]
  | x :: xs, _, k + 1, ⟨v1, v2, e, h1, h2⟩ => by
    have hl := hR _ _ h1
    have := RepL.drop hR (k := k) h2
    rw [e, Nat.add_mul, Nat.one_mul, List.drop_append, List.drop_eq_nil_of_le (show v1.length ≤ k * n + n by omega), hl, show k * n + n - n = k * n by omega]
    simpa using this
theorem RepL.replicate {x : α} {v : List Value} (h : R x v) : ∀ (k : Nat), RepL R (List.replicate k x) (List.replicate k v).flatten
  | 0 => rfl
  | k + 1 => ⟨v, (List.replicate k v).flatten, by simp [List.replicate_succ], h, RepL.replicate h k⟩
end

/-- Cells that stay as they are. -/
abbrev Mem := Addr → Prop

/-- Data lie at a place. -/
def Lies (w : World) (M : Mem) (ad : Addr) (us : List Value) : Prop := ∀ (j : Nat) u, us[j]? = some u → w.cell? (ad.add j) = some u ∧ M (ad.add j)

def RepD (w : World) (M : Mem) : (T : Ty) → T.den → List Value → Prop
  | .int k, n, vs => vs = [.int k n]
  | .bool, b, vs => vs = [.bool b]
  | .str, s, vs => vs = [.string s]
  | .unit, _, vs => vs = []
  | .pair a b, x, vs => ∃ v1 v2, vs = v1 ++ v2 ∧ RepD w M a x.1 v1 ∧ RepD w M b x.2 v2
  | .slice e, xs, vs => ∃ A c us, vs = [.slice A xs.length c] ∧ xs.length ≤ c ∧ c ≤ maxLen ∧ RepL (RepD w M e) xs us ∧ (xs = [] ∨ ∃ ad, A = some ad ∧ Lies w M ad us)
  | .ref e, x, vs => ∃ ad us, vs = [.pointer (some ad)] ∧ RepD w M e x us ∧ Lies w M ad us
  | .clo f e, x, vs => ∃ caps, vs = [.func (.func f) #[] caps] ∧ ((e.isUnit = true ∧ caps = #[]) ∨ (e.isUnit = false ∧ ∃ ad us, caps = #[.pointer (some ad)] ∧ RepD w M e x us ∧ Lies w M ad us))

theorem RepD.len {w : World} {M : Mem} : ∀ {T : Ty} {x : T.den} {vs : List Value}, RepD w M T x vs → vs.length = T.size
  | .int _, _, _, h => by simp only [RepD] at h; simp [h, Ty.size]
  | .bool, _, _, h => by simp only [RepD] at h; simp [h, Ty.size]
  | .str, _, _, h => by simp only [RepD] at h; simp [h, Ty.size]
  | .unit, _, _, h => by simp only [RepD] at h; simp [h, Ty.size]
  | .pair a b, _, _, ⟨v1, v2, e, h1, h2⟩ => by rw [e, List.length_append, RepD.len h1, RepD.len h2, Ty.size]
  | .slice e, _, _, ⟨A, c, us, e', _⟩ => by rw [e']; rfl
  | .ref e, _, _, ⟨ad, us, e', _⟩ => by rw [e']; rfl
  | .clo f e, _, _, ⟨caps, e', _⟩ => by rw [e']; rfl

theorem Lies.keep {w w' : World} {M M' : Mem} {ad : Addr} {us : List Value} (h : Lies w M ad us) (hc : ∀ p, M p → w'.cell? p = w.cell? p) (hM : ∀ p, M p → M' p) : Lies w' M' ad us :=
  fun j u hu => ⟨(hc _ (h j u hu).2).trans (h j u hu).1, hM _ (h j u hu).2⟩
theorem RepD.keep {w w' : World} {M M' : Mem} (hc : ∀ p, M p → w'.cell? p = w.cell? p) (hM : ∀ p, M p → M' p) : ∀ {T : Ty} {x : T.den} {vs : List Value}, RepD w M T x vs → RepD w' M' T x vs
  | .int _, _, _, h => by simp only [RepD] at h ⊢; exact h
  | .bool, _, _, h => by simp only [RepD] at h ⊢; exact h
  | .str, _, _, h => by simp only [RepD] at h ⊢; exact h
  | .unit, _, _, h => by simp only [RepD] at h ⊢; exact h
  | .pair a b, _, _, ⟨v1, v2, e, h1, h2⟩ => ⟨v1, v2, e, RepD.keep hc hM h1, RepD.keep hc hM h2⟩
  | .slice e, _, _, ⟨A, c, us, e', h1, h2, h3, h4⟩ => ⟨A, c, us, e', h1, h2, h3.mono fun _ _ h => RepD.keep hc hM h, h4.imp id fun ⟨ad, ha, hl⟩ => ⟨ad, ha, hl.keep hc hM⟩⟩
  | .ref e, _, _, ⟨ad, us, e', h1, h2⟩ => ⟨ad, us, e', RepD.keep hc hM h1, h2.keep hc hM⟩
  | .clo f e, _, _, ⟨caps, e', h⟩ => ⟨caps, e', h.imp id fun ⟨hu, ad, us, hc', h1, h2⟩ => ⟨hu, ad, us, hc', RepD.keep hc hM h1, h2.keep hc hM⟩⟩

def own : Value → Option Nat
  | .pointer (some a) => some a.block
  | .slice (some a) _ _ => some a.block
  | _ => none
/-- A row by itself; gs: the block it lies in. -/
def RowAt (w : World) (M : Mem) (t : TypeId) (e : Ty) (xs : List e.den) (v : Value) (gs : List Nat) : Prop :=
  (xs = [] ∧ v = .slice none 0 0 ∧ gs = []) ∨ ∃ g cap vs, v = .slice (some ⟨g, 0, none⟩) xs.length cap ∧ gs = [g] ∧ w.heap[g]? = some (.cells vs t (0, 0)) ∧ xs.length ≤ cap ∧ cap ≤ maxLen ∧ vs.size = cap * e.size ∧ RepL (RepD w M e) xs (vs.toList.take (xs.length * e.size))
/-- Data and rows of their own; gs: the blocks of the rows, one behind another. -/
def RepO (w : World) (M : Mem) : (T : RTy) → T.den → List Value → List Nat → Prop
  | .d T, x, vs, gs => RepD w M T x vs ∧ gs = []
  | .row t e, xs, vs, gs => ∃ v, vs = [v] ∧ RowAt w M t e xs v gs
  | .pair a b, x, vs, gs => ∃ v1 v2 g1 g2, vs = v1 ++ v2 ∧ gs = g1 ++ g2 ∧ RepO w M a x.1 v1 g1 ∧ RepO w M b x.2 v2 g2
  | .box _ _, _, _, _ => False
  | .deep _ _, _, _, _ => False
  | .mp _ _ _, _, _, _ => False
def RepOL {α : Type} (R : α → List Value → List Nat → Prop) : List α → List Value → List Nat → Prop
  | [], vs, gs => vs = [] ∧ gs = []
  | x :: xs, vs, gs => ∃ v1 v2 g1 g2, vs = v1 ++ v2 ∧ gs = g1 ++ g2 ∧ R x v1 g1 ∧ RepOL R xs v2 g2

section
variable {α : Type} {R R' : α → List Value → List Nat → Prop} {n : Nat}
theorem RepOL.mono : ∀ {xs : List α} {vs : List Value} {gs : List Nat}, (∀ x vs gs', (∀ g ∈ gs', g ∈ gs) → R x vs gs' → R' x vs gs') → RepOL R xs vs gs → RepOL R' xs vs gs
  | [], _, _, _, h => h
  | _ :: _, _, _, hR, ⟨v1, v2, g1, g2, e1, e2, h1, h2⟩ => by
    subst e2
    exact ⟨v1, v2, g1, g2, e1, rfl, hR _ _ _ (fun g hg => List.mem_append.2 (.inl hg)) h1, RepOL.mono (fun x vs gs' hg h => hR x vs gs' (fun g hm => List.mem_append.2 (.inr (hg g hm))) h) h2⟩
theorem RepOL.len (hR : ∀ x vs gs, R x vs gs → vs.length = n) : ∀ {xs : List α} {vs : List Value} {gs : List Nat}, RepOL R xs vs gs → vs.length = xs.length * n
  | [], _, _, h => by simp [h.1]
  | x :: xs, _, _, ⟨v1, v2, g1, g2, e1, e2, h1, h2⟩ => by
    have := RepOL.len hR h2
    rw [e1, List.length_append, hR _ _ _ h1, this, List.length_cons, Nat.add_mul]
    omega
theorem RepOL.append : ∀ {xs ys : List α} {vs us : List Value} {gs hs : List Nat}, RepOL R xs vs gs → RepOL R ys us hs → RepOL R (xs ++ ys) (vs ++ us) (gs ++ hs)
  | [], _, _, _, _, _, h, h' => by
    obtain ⟨rfl, rfl⟩ := h
    exact h'
  | x :: xs, _, _, _, _, _, ⟨v1, v2, g1, g2, e1, e2, h1, h2⟩, h' => ⟨v1, v2 ++ _, g1, g2 ++ _, by rw [e1, List.append_assoc], by rw [e2, List.append_assoc], h1, RepOL.append h2 h'⟩
/-- A list of them is taken apart at an element. -/
theorem RepOL.split (hR : ∀ x vs gs, R x vs gs → vs.length = n) : ∀ {xs : List α} {vs : List Value} {gs : List Nat} {i : Nat} {x : α}, RepOL R xs vs gs → xs[i]? = some x →
    ∃ g1 g2 g3, gs = g1 ++ (g2 ++ g3) ∧ RepOL R (xs.take i) (vs.take (i * n)) g1 ∧ R x ((vs.drop (i * n)).take n) g2 ∧ RepOL R (xs.drop (i + 1)) (vs.drop (i * n + n)) g3
  | [], _, _, _, _, _, hx => by simp at hx
  | y :: xs, _, _, 0, x, ⟨v1, v2, g1, g2, e1, e2, h1, h2⟩, hx => by
    simp at hx; subst hx
    have hl := hR _ _ _ h1
    subst hl
    subst e1
    exact ⟨[], g1, g2, by simpa using e2, by simp [RepOL], by simpa using h1, by simpa using h2⟩
  | y :: xs, _, _, i + 1, x, ⟨v1, v2, g1, g2, e1, e2, h1, h2⟩, hx => by
    have hl := hR _ _ _ h1
    obtain ⟨k1, k2, k3, e3, a1, a2, a3⟩ := RepOL.split hR h2 (show xs[i]? = some x by simpa using hx)
    subst e1; subst e2; subst e3
    have c1 : (i + 1) * n = i * n + n := by rw [Nat.add_mul, Nat.one_mul]
    refine ⟨g1 ++ k1, k2, k3, by simp, ?_, ?_, ?_⟩
    · refine ⟨v1, v2.take (i * n), g1, k1, ?_, rfl, h1, a1⟩
      rw [c1, List.take_append, List.take_of_length_le (show v1.length ≤ i * n + n by omega), hl, show i * n + n - n = i * n by omega]
    · rw [c1, List.drop_append, List.drop_eq_nil_of_le (show v1.length ≤ i * n + n by omega), List.nil_append, hl, show i * n + n - n = i * n by omega]
      exact a2
    · rw [c1, List.drop_append, List.drop_eq_nil_of_le (show v1.length ≤ i * n + n + n by omega), List.nil_append, hl, show i * n + n + n - n = i * n + n by omega]
      simpa using a3
theorem RepOL.replicate {x : α} {v : List Value} (h : R x v []) : ∀ (k : Nat), RepOL R (List.replicate k x) (List.replicate k v).flatten []
  | 0 => ⟨rfl, rfl⟩
  | k + 1 => ⟨v, (List.replicate k v).flatten, [], [], by simp [List.replicate_succ], rfl, h, RepOL.replicate h k⟩
end
theorem RowAt.keep {w w' : World} {M M' : Mem} {t : TypeId} {e : Ty} {xs : List e.den} {v : Value} {gs : List Nat} (hc : ∀ p, M p → w'.cell? p = w.cell? p) (hM : ∀ p, M p → M' p) (hg : ∀ g ∈ gs, w'.heap[g]? = w.heap[g]?) (h : RowAt w M t e xs v gs) : RowAt w' M' t e xs v gs := by
  rcases h with h | ⟨g, cap, vs, e1, e2, h1, h2, h3, h4, h5⟩
  · exact .inl h
  · subst e2
    exact .inr ⟨g, cap, vs, e1, rfl, (hg g (by simp)).trans h1, h2, h3, h4, h5.mono fun _ _ h => RepD.keep hc hM h⟩
theorem RepO.keep {w w' : World} {M M' : Mem} (hc : ∀ p, M p → w'.cell? p = w.cell? p) (hM : ∀ p, M p → M' p) : ∀ {T : RTy} {x : T.den} {vs : List Value} {gs : List Nat}, (∀ g ∈ gs, w'.heap[g]? = w.heap[g]?) → RepO w M T x vs gs → RepO w' M' T x vs gs
  | .d T, _, _, _, _, ⟨h1, h2⟩ => ⟨RepD.keep hc hM h1, h2⟩
  | .row t e, _, _, _, hg, ⟨v, e1, h⟩ => ⟨v, e1, h.keep hc hM hg⟩
  | .pair a b, _, _, _, hg, ⟨v1, v2, g1, g2, e1, e2, h1, h2⟩ => by
    subst e2
    exact ⟨v1, v2, g1, g2, e1, rfl, RepO.keep hc hM (fun g h => hg g (List.mem_append.2 (.inl h))) h1, RepO.keep hc hM (fun g h => hg g (List.mem_append.2 (.inr h))) h2⟩
  | .box _ _, _, _, _, _, h => h.elim
  | .deep _ _, _, _, _, _, h => h.elim
  | .mp _ _ _, _, _, _, _, h => h.elim
theorem RepO.len {w : World} {M : Mem} : ∀ {T : RTy} {x : T.den} {vs : List Value} {gs : List Nat}, RepO w M T x vs gs → vs.length = T.data.size
  | .d T, _, _, _, ⟨h1, _⟩ => RepD.len h1
  | .row t e, _, _, _, ⟨v, e1, h⟩ => by rw [e1]; rfl
  | .pair a b, _, _, _, ⟨v1, v2, g1, g2, e1, e2, h1, h2⟩ => by
    rw [e1, List.length_append, RepO.len h1, RepO.len h2]; rfl
  | .box _ _, _, _, _, h => h.elim
  | .deep _ _, _, _, _, h => h.elim
  | .mp _ _ _, _, _, _, h => h.elim
theorem RowAt.lt {w : World} {M : Mem} {t : TypeId} {e : Ty} {xs : List e.den} {v : Value} {gs : List Nat} (h : RowAt w M t e xs v gs) : ∀ g ∈ gs, g < w.heap.size := by
  rcases h with ⟨_, _, rfl⟩ | ⟨g, cap, vs, e1, rfl, h1, _⟩
  · intro g hg; cases hg
  · intro g' hg'
    rw [List.mem_singleton] at hg'; subst hg'
    exact (Array.getElem?_eq_some_iff.1 h1).1
theorem RepO.lt {w : World} {M : Mem} : ∀ {T : RTy} {x : T.den} {vs : List Value} {gs : List Nat}, RepO w M T x vs gs → ∀ g ∈ gs, g < w.heap.size
  | .d T, _, _, _, ⟨_, h2⟩, g, hg => by subst h2; cases hg
  | .row t e, _, _, _, ⟨v, e1, h⟩, g, hg => h.lt g hg
  | .pair a b, _, _, _, ⟨v1, v2, g1, g2, e1, e2, h1, h2⟩, g, hg => by
    subst e2
    rcases List.mem_append.1 hg with hg | hg
    · exact RepO.lt h1 g hg
    · exact RepO.lt h2 g hg
  | .box _ _, _, _, _, h, _, _ => h.elim
  | .deep _ _, _, _, _, h, _, _ => h.elim
  | .mp _ _ _, _, _, _, h, _, _ => h.elim
theorem RepOL.lt {w : World} {M : Mem} {T : RTy} : ∀ {xs : List T.den} {vs : List Value} {gs : List Nat}, RepOL (RepO w M T) xs vs gs → ∀ g ∈ gs, g < w.heap.size
  | [], _, _, h, g, hg => by rw [h.2] at hg; cases hg
  | _ :: _, _, _, ⟨v1, v2, g1, g2, e1, e2, h1, h2⟩, g, hg => by
    subst e2
    rcases List.mem_append.1 hg with hg | hg
    · exact RepO.lt h1 g hg
    · exact RepOL.lt h2 g hg

/-- A builder that holds a text: its own block, and its buffer's. -/
def BldAt (w : World) (T e : TypeId) (b : Nat) (x : ByteArray) (gs : List Nat) : Prop :=
  ∃ p u, (p = .pointer none ∨ p = .pointer (some ⟨b, 0, none⟩)) ∧ w.heap[b]? = some (.cells #[p, u] T (0, 0)) ∧ w.ownsRowF 0 e 1 u x.size (Lib.strCells x) ∧ u.ownBlock ≠ some b ∧ (x.size = 0 → u = .slice none 0 0) ∧ gs = b :: u.ownBlock.toList
theorem BldAt.keep {w w' : World} {T e : TypeId} {b : Nat} {x : ByteArray} {gs : List Nat} (hg : ∀ g ∈ gs, w'.heap[g]? = w.heap[g]?) (h : BldAt w T e b x gs) : BldAt w' T e b x gs := by
  obtain ⟨p, u, h1, h2, h3, h4, h5, rfl⟩ := h
  refine ⟨p, u, h1, (hg b (by simp)).trans h2, ⟨h3.1, ?_⟩, h4, h5, rfl⟩
  rcases h3.2 with h | ⟨g, cap, cur, fz, rfl, hb, hgg, rest⟩
  · exact .inl h
  · exact .inr ⟨g, cap, cur, fz, rfl, hb, (hg g (by simp [Value.ownBlock])).trans hgg, rest⟩
theorem BldAt.lt {w : World} {T e : TypeId} {b : Nat} {x : ByteArray} {gs : List Nat} (h : BldAt w T e b x gs) : ∀ g ∈ gs, g < w.heap.size := by
  obtain ⟨p, u, h1, h2, h3, h4, _, rfl⟩ := h
  intro g hg
  rcases List.mem_cons.1 hg with rfl | hg
  · exact (Array.getElem?_eq_some_iff.1 h2).1
  · exact (h3.lt g (by simpa using hg)).2
theorem BldAt.nodup {w : World} {T e : TypeId} {b : Nat} {x : ByteArray} {gs : List Nat} (h : BldAt w T e b x gs) : gs.Nodup := by
  obtain ⟨p, u, h1, h2, h3, h4, _, rfl⟩ := h
  cases hu : u.ownBlock with
  | none => simp
  | some g =>
    rw [hu] at h4
    simp only [Option.toList, List.nodup_cons, List.mem_singleton, List.not_mem_nil, not_false_eq_true, List.nodup_nil, and_true]
    exact fun e => h4 (by rw [e])
/-- What a map holds at a key: data that stay (fr), or a row of its own. -/
def EntAt (w : World) (M : Mem) (t : TypeId) (e : Ty) : Bool → List e.den → Value → List Nat → Prop
  | true, xs, v, gs => RepD w M (.slice e) xs [v] ∧ gs = []
  | false, xs, v, gs => RowAt w M t e xs v gs
def RepM (w : World) (M : Mem) (t : TypeId) (e : Ty) (fr : Bool) : List (Int × List e.den) → List MapEntry → List Nat → Prop
  | [], es, gs => es = [] ∧ gs = []
  | p :: x, es, gs => ∃ en es' g1 g2, es = en :: es' ∧ gs = g1 ++ g2 ∧ en.key = .int .i64 p.1 ∧ EntAt w M t e fr p.2 en.val g1 ∧ RepM w M t e fr x es' g2
/-- The same, but for what it holds at a key. -/
def RepH (w : World) (M : Mem) (t : TypeId) (e : Ty) (k : Int) : List (Int × List e.den) → List MapEntry → List Nat → Prop
  | [], es, gs => es = [] ∧ gs = []
  | p :: x, es, gs => ∃ en es', es = en :: es' ∧ en.key = .int .i64 p.1 ∧ ((p.1 = k ∧ RepM w M t e false x es' gs) ∨ (p.1 ≠ k ∧ ∃ g1 g2, gs = g1 ++ g2 ∧ RowAt w M t e p.2 en.val g1 ∧ RepH w M t e k x es' g2))
theorem EntAt.keep {w w' : World} {M M' : Mem} {t : TypeId} {e : Ty} (hc : ∀ p, M p → w'.cell? p = w.cell? p) (hM : ∀ p, M p → M' p) : ∀ {fr : Bool} {xs : List e.den} {v : Value} {gs : List Nat}, (∀ g ∈ gs, w'.heap[g]? = w.heap[g]?) → EntAt w M t e fr xs v gs → EntAt w' M' t e fr xs v gs
  | true, _, _, _, _, h => ⟨RepD.keep hc hM h.1, h.2⟩
  | false, _, _, _, hg, h => RowAt.keep hc hM hg h
theorem RepM.keep {w w' : World} {M M' : Mem} {t : TypeId} {e : Ty} {fr : Bool} (hc : ∀ p, M p → w'.cell? p = w.cell? p) (hM : ∀ p, M p → M' p) : ∀ {x : List (Int × List e.den)} {es : List MapEntry} {gs : List Nat}, (∀ g ∈ gs, w'.heap[g]? = w.heap[g]?) → RepM w M t e fr x es gs → RepM w' M' t e fr x es gs
  | [], _, _, _, h => h
  | _ :: _, _, _, hg, ⟨en, es', g1, g2, h1, h2, h3, h4, h5⟩ => by
    subst h2
    exact ⟨en, es', g1, g2, h1, rfl, h3, h4.keep hc hM fun g hm => hg g (List.mem_append.2 (.inl hm)), RepM.keep hc hM (fun g hm => hg g (List.mem_append.2 (.inr hm))) h5⟩
theorem RepH.keep {w w' : World} {M M' : Mem} {t : TypeId} {e : Ty} {k : Int} (hc : ∀ p, M p → w'.cell? p = w.cell? p) (hM : ∀ p, M p → M' p) : ∀ {x : List (Int × List e.den)} {es : List MapEntry} {gs : List Nat}, (∀ g ∈ gs, w'.heap[g]? = w.heap[g]?) → RepH w M t e k x es gs → RepH w' M' t e k x es gs
  | [], _, _, _, h => h
  | _ :: _, _, _, hg, ⟨en, es', h1, h3, h⟩ => by
    refine ⟨en, es', h1, h3, ?_⟩
    rcases h with ⟨e1, h⟩ | ⟨e1, g1, g2, h2, h4, h5⟩
    · exact .inl ⟨e1, h.keep hc hM hg⟩
    · subst h2
      exact .inr ⟨e1, g1, g2, rfl, h4.keep hc hM fun g hm => hg g (List.mem_append.2 (.inl hm)), RepH.keep hc hM (fun g hm => hg g (List.mem_append.2 (.inr hm))) h5⟩
theorem EntAt.lt {w : World} {M : Mem} {t : TypeId} {e : Ty} : ∀ {fr : Bool} {xs : List e.den} {v : Value} {gs : List Nat}, EntAt w M t e fr xs v gs → ∀ g ∈ gs, g < w.heap.size
  | true, _, _, _, h, g, hg => by rw [h.2] at hg; cases hg
  | false, _, _, _, h, g, hg => RowAt.lt h g hg
theorem RepM.lt {w : World} {M : Mem} {t : TypeId} {e : Ty} {fr : Bool} : ∀ {x : List (Int × List e.den)} {es : List MapEntry} {gs : List Nat}, RepM w M t e fr x es gs → ∀ g ∈ gs, g < w.heap.size
  | [], _, _, h, g, hg => by rw [h.2] at hg; cases hg
  | _ :: _, _, _, ⟨en, es', g1, g2, h1, h2, h3, h4, h5⟩, g, hg => by
    subst h2
    rcases List.mem_append.1 hg with hg | hg
    · exact h4.lt g hg
    · exact RepM.lt h5 g hg
theorem RepH.lt {w : World} {M : Mem} {t : TypeId} {e : Ty} {k : Int} : ∀ {x : List (Int × List e.den)} {es : List MapEntry} {gs : List Nat}, RepH w M t e k x es gs → ∀ g ∈ gs, g < w.heap.size
  | [], _, _, h, g, hg => by rw [h.2] at hg; cases hg
  | _ :: _, _, _, ⟨en, es', h1, h3, h⟩, g, hg => by
    rcases h with ⟨e1, h⟩ | ⟨e1, g1, g2, h2, h4, h5⟩
    · exact h.lt g hg
    · subst h2
      rcases List.mem_append.1 hg with hg | hg
      · exact h4.lt g hg
      · exact RepH.lt h5 g hg

section
variable (w : World) (M : Mem) (hdr : Nat → Option Value)
def RepC : Cell → Value → Prop
  | .int k n, v => v = .int k n
  | .bool b, v => v = .bool b
  | .str s, v => v = .string s
  | .sl e xs, v => RepD w M (.slice e) xs [v]
  | .nils, v => v = .slice none 0 0
  | .row b, v => hdr b = some v ∧ ∃ A n c, v = .slice A n c
  | .ptr b off, v => ∃ g, hdr b = some (.pointer (some ⟨g, 0, none⟩)) ∧ v = .pointer (some ⟨g, off, none⟩)
  | .eptr b i sz off, v => ∃ g n c, hdr b = some (.slice (some ⟨g, 0, none⟩) n c) ∧ v = .pointer (some ⟨g, i * sz + off, none⟩)
  | .qptr b i sz, v => ∃ g o n c, hdr b = some (.slice (some ⟨g, o, none⟩) n c) ∧ v = .pointer (some ⟨g, o + i * sz, none⟩)
  | .rptr T x off, v => ∃ ad us, v = .pointer (some (ad.add off)) ∧ RepD w M T x us ∧ Lies w M ad us
  | .clo f T x, v => RepD w M (.clo f T) x [v]
  | .sln b e xs, v => RepD w M (.slice e) xs [v] ∧ ∃ A n c, v = .slice A n c ∧ b = A.isNone
  | .oclo f b, v => ∃ g, hdr b = some (.pointer (some ⟨g, 0, none⟩)) ∧ v = .func (.func f) #[] #[.pointer (some ⟨g, 0, none⟩)]
  | .nilm, v => v = .map none
  | .mp b, v => hdr b = some v ∧ ∃ g, v = .map g
  | .lsl n, v => ∃ A c, v = .slice A n c
def RepV1 : V1 → Value → Prop
  | .one c, v => RepC w M hdr c v
  | .agg cs, v => ∃ vs : List Value, v = .agg vs.toArray ∧ All2 (RepC w M hdr) cs vs
def RepAV : AV → Value → Prop
  | .undef, _ => True
  | .v x, v => RepV1 w M hdr x v
  | .tup xs, v => ∃ vs : List Value, v = .tuple vs.toArray ∧ All2 (RepV1 w M hdr) xs vs
/-- The elements of a deep row, one of which may be laid open; gs: the blocks of those that are not. -/
def RepDeep (T : RTy) (xs : List T.den) (op : Option (Nat × List Cell)) (us : List Value) (gs : List Nat) : Prop :=
  match op with
  | none => RepOL (RepO w M T) xs us gs
  | some (n, cs) => n < xs.length ∧ us.length = xs.length * T.data.size ∧ ∃ g1 g2, gs = g1 ++ g2 ∧ RepOL (RepO w M T) (xs.take n) (us.take (n * T.data.size)) g1 ∧ All2 (RepC w M hdr) cs ((us.drop (n * T.data.size)).take T.data.size) ∧ RepOL (RepO w M T) (xs.drop (n + 1)) (us.drop (n * T.data.size + T.data.size)) g2
/-- What a block of the call's own holds; v is its pointer, or the slice that lies in it; gs: the world's blocks that it lies in. -/
def RepObj (w : World) (M : Mem) : (o : OK) → o.den → Value → List Nat → Prop
  | .que t e, xs, v, gs => ∃ (ys : List e.den), ys = xs ∧ ((ys = [] ∧ v = .slice none 0 0 ∧ gs = []) ∨ ∃ g o cap vs, v = .slice (some ⟨g, o, none⟩) ys.length cap ∧ gs = [g] ∧ w.heap[g]? = some (.cells vs t (0, 0)) ∧ ys.length ≤ cap ∧ cap ≤ maxLen ∧ o + cap * e.size ≤ vs.size ∧
      RepL (RepD w M e) ys ((vs.toList.drop o).take (ys.length * e.size)))
  | .bld t e, x, v, gs => ∃ b, v = .pointer (some ⟨b, 0, none⟩) ∧ BldAt w t e b x gs
  | .mp fr t e, x, v, gs => (fr = true ∧ OK.rows x = [] ∧ v = .map none ∧ gs = []) ∨ ∃ g es cl gi, v = .map (some g) ∧ gs = g :: gi ∧ gs.Nodup ∧ w.heap[g]? = some (.map es cl) ∧ RepM w M t e fr (OK.rows x) es.toList gi
  | .mph t e, x, v, gs => ∃ g es cl gi, v = .map (some g) ∧ gs = g :: gi ∧ gs.Nodup ∧ w.heap[g]? = some (.map es cl) ∧ RepH w M t e (OK.hole x).2 (OK.hole x).1 es.toList gi
  | .nrow t e, x, v, gs => (OK.opt x = none ∧ v = .slice none 0 0 ∧ gs = []) ∨ ∃ xs g cap vs, OK.opt x = some xs ∧ v = .slice (some ⟨g, 0, none⟩) xs.length cap ∧ gs = [g] ∧ w.heap[g]? = some (.cells vs t (0, 0)) ∧ xs.length ≤ cap ∧ cap ≤ maxLen ∧ vs.size = cap * e.size ∧ RepL (RepD w M e) xs (vs.toList.take (xs.length * e.size))
def RepBlk (base : Nat → Nat → Prop) : Blk → Value → List Nat → Prop
  | .obj o x fz, v, gs => RepObj w M o x v gs ∧ (∀ g ∈ gs, base fz g) ∧ ∀ p, M p → p.block ∈ gs → fz = 1
  | .cells t cs fz, v, gs => ∃ g vs, v = .pointer (some ⟨g, 0, none⟩) ∧ gs = [g] ∧ base fz g ∧ w.heap[g]? = some (.cells vs t (0, 0)) ∧ All2 (RepC w M hdr) cs vs.toList ∧ ∀ p, M p → p.block = g → fz = 1 ∧ p.off < cs.length
  | .row t e xs fz, v, gs => (xs = [] ∧ v = .slice none 0 0 ∧ gs = []) ∨ ∃ g cap vs, v = .slice (some ⟨g, 0, none⟩) xs.length cap ∧ gs = [g] ∧ base fz g ∧ w.heap[g]? = some (.cells vs t (0, 0)) ∧ xs.length ≤ cap ∧ cap ≤ maxLen ∧ vs.size = cap * e.size ∧
      RepL (RepD w M e) xs (vs.toList.take (xs.length * e.size)) ∧ ∀ p, M p → p.block = g → fz = 1 ∧ p.off < xs.length * e.size
  | .deep t T xs op fz, v, gs => (xs = [] ∧ op = none ∧ v = .slice none 0 0 ∧ gs = []) ∨ ∃ g cap vs gi, v = .slice (some ⟨g, 0, none⟩) xs.length cap ∧ gs = g :: gi ∧ gs.Nodup ∧ (∀ g ∈ gs, base fz g) ∧ w.heap[g]? = some (.cells vs t (0, 0)) ∧ xs.length ≤ cap ∧ cap ≤ maxLen ∧ vs.size = cap * T.data.size ∧
      RepDeep w M hdr T xs op (vs.toList.take (xs.length * T.data.size)) gi ∧ ∀ p, M p → p.block ∈ gs → fz = 1
end

theorem RepC.one {w : World} {M : Mem} {hdr : Nat → Option Value} {c : Cell} {v : Value} (h : RepC w M hdr c v) : v.oneCell' = true := by
  cases c <;> simp only [RepC] at h
  case int => subst h; rfl
  case bool => subst h; rfl
  case str => subst h; rfl
  case sl => obtain ⟨A, c, us, e, _⟩ := h; simp at e; subst e; rfl
  case nils => subst h; rfl
  case row => obtain ⟨_, A, n, c, rfl⟩ := h; rfl
  case ptr => obtain ⟨g, _, rfl⟩ := h; rfl
  case eptr => obtain ⟨g, n, c, _, rfl⟩ := h; rfl
  case qptr => obtain ⟨g, o, n, c, _, rfl⟩ := h; rfl
  case rptr => obtain ⟨ad, us, rfl, _⟩ := h; rfl
  case clo => obtain ⟨caps, e, _⟩ := h; simp at e; subst e; rfl
  case oclo => obtain ⟨g, _, rfl⟩ := h; rfl
  case sln => obtain ⟨_, A, n, c, rfl, _⟩ := h; rfl
  case nilm => subst h; rfl
  case mp => obtain ⟨_, g, rfl⟩ := h; rfl
  case lsl => obtain ⟨A, c, rfl⟩ := h; rfl

section
variable {w w' : World} {M M' : Mem} {hdr hdr' : Nat → Option Value}
theorem RepC.keep (hc : ∀ p, M p → w'.cell? p = w.cell? p) (hM : ∀ p, M p → M' p) (hh : ∀ b v, hdr b = some v → hdr' b = some v) {c : Cell} {v : Value} (h : RepC w M hdr c v) : RepC w' M' hdr' c v := by
  cases c <;> simp only [RepC] at h ⊢
  case sl => exact RepD.keep hc hM h
  case row => exact ⟨hh _ _ h.1, h.2⟩
  case ptr => obtain ⟨g, h1, h2⟩ := h; exact ⟨g, hh _ _ h1, h2⟩
  case eptr => obtain ⟨g, n, c, h1, h2⟩ := h; exact ⟨g, n, c, hh _ _ h1, h2⟩
  case qptr => obtain ⟨g, o, n, c, h1, h2⟩ := h; exact ⟨g, o, n, c, hh _ _ h1, h2⟩
  case rptr => obtain ⟨ad, us, h1, h2, h3⟩ := h; exact ⟨ad, us, h1, RepD.keep hc hM h2, h3.keep hc hM⟩
  case clo => exact RepD.keep hc hM h
  case oclo => obtain ⟨g, h1, h2⟩ := h; exact ⟨g, hh _ _ h1, h2⟩
  case sln => exact ⟨RepD.keep hc hM h.1, h.2⟩
  case mp => exact ⟨hh _ _ h.1, h.2⟩
  all_goals exact h
theorem RepV1.keep (hc : ∀ p, M p → w'.cell? p = w.cell? p) (hM : ∀ p, M p → M' p) (hh : ∀ b v, hdr b = some v → hdr' b = some v) {x : V1} {v : Value} (h : RepV1 w M hdr x v) : RepV1 w' M' hdr' x v := by
  cases x with
  | one c => exact RepC.keep hc hM hh h
  | agg cs => obtain ⟨vs, e, h⟩ := h; exact ⟨vs, e, h.mono fun _ _ h => h.keep hc hM hh⟩
theorem RepAV.keep (hc : ∀ p, M p → w'.cell? p = w.cell? p) (hM : ∀ p, M p → M' p) (hh : ∀ b v, hdr b = some v → hdr' b = some v) {x : AV} {v : Value} (h : RepAV w M hdr x v) : RepAV w' M' hdr' x v := by
  cases x with
  | undef => trivial
  | v x => exact RepV1.keep hc hM hh h
  | tup xs => obtain ⟨vs, e, h⟩ := h; exact ⟨vs, e, h.mono fun _ _ h => h.keep hc hM hh⟩

theorem RepDeep.keep (hc : ∀ p, M p → w'.cell? p = w.cell? p) (hM : ∀ p, M p → M' p) (hh : ∀ b v, hdr b = some v → hdr' b = some v) {T : RTy} {xs : List T.den} {op : Option (Nat × List Cell)} {us : List Value} {gs : List Nat} (hg : ∀ g ∈ gs, w'.heap[g]? = w.heap[g]?) (h : RepDeep w M hdr T xs op us gs) : RepDeep w' M' hdr' T xs op us gs := by
  match op, h with
  | none, h => exact RepOL.mono (fun x vs gs' hg' h => RepO.keep hc hM (fun g hm => hg g (hg' g hm)) h) h
  | some (n, cs), ⟨h1, h2, g1, g2, e, h3, h4, h5⟩ =>
    subst e
    exact ⟨h1, h2, g1, g2, rfl, RepOL.mono (fun x vs gs' hg' h => RepO.keep hc hM (fun g hm => hg g (List.mem_append.2 (.inl (hg' g hm)))) h) h3, h4.mono fun _ _ h => h.keep hc hM hh,
      RepOL.mono (fun x vs gs' hg' h => RepO.keep hc hM (fun g hm => hg g (List.mem_append.2 (.inr (hg' g hm)))) h) h5⟩
theorem RepDeep.lt {T : RTy} {xs : List T.den} {op : Option (Nat × List Cell)} {us : List Value} {gs : List Nat} (h : RepDeep w M hdr T xs op us gs) : ∀ g ∈ gs, g < w.heap.size := by
  match op, h with
  | none, h => exact RepOL.lt h
  | some (n, cs), ⟨h1, h2, g1, g2, e, h3, h4, h5⟩ =>
    subst e
    intro g hg
    rcases List.mem_append.1 hg with hg | hg
    · exact RepOL.lt h3 g hg
    · exact RepOL.lt h5 g hg
theorem RepObj.keep (hc : ∀ p, M p → w'.cell? p = w.cell? p) (hM : ∀ p, M p → M' p) {o : OK} {x : o.den} {v : Value} {gs : List Nat} (hg : ∀ g ∈ gs, w'.heap[g]? = w.heap[g]?) (h : RepObj w M o x v gs) : RepObj w' M' o x v gs := by
  cases o with
  | que t e =>
    obtain ⟨ys, hy, h⟩ := h
    refine ⟨ys, hy, ?_⟩
    rcases h with h | ⟨g, o, cap, vs, rfl, rfl, h1, h2, h3, h4, h5⟩
    · exact .inl h
    · exact .inr ⟨g, o, cap, vs, rfl, rfl, (hg g (by simp)).trans h1, h2, h3, h4, h5.mono fun _ _ h => RepD.keep hc hM h⟩
  | bld t e =>
    obtain ⟨b, rfl, h⟩ := h
    exact ⟨b, rfl, h.keep hg⟩
  | mp fr t e =>
    rcases h with h | ⟨g, es, cl, gi, h1, rfl, h3, h4, h5⟩
    · exact .inl h
    · exact .inr ⟨g, es, cl, gi, h1, rfl, h3, (hg g (by simp)).trans h4, h5.keep hc hM fun g' hm => hg g' (by simp [hm])⟩
  | mph t e =>
    obtain ⟨g, es, cl, gi, h1, rfl, h3, h4, h5⟩ := h
    exact ⟨g, es, cl, gi, h1, rfl, h3, (hg g (by simp)).trans h4, h5.keep hc hM fun g' hm => hg g' (by simp [hm])⟩
  | nrow t e =>
    rcases h with h | ⟨xs, g, cap, vs, h0, h1, rfl, h2, h3, h4, h5, h6⟩
    · exact .inl h
    · exact .inr ⟨xs, g, cap, vs, h0, h1, rfl, (hg g (by simp)).trans h2, h3, h4, h5, h6.mono fun _ _ h => RepD.keep hc hM h⟩
theorem RepObj.lt {o : OK} {x : o.den} {v : Value} {gs : List Nat} (h : RepObj w M o x v gs) : ∀ g ∈ gs, g < w.heap.size := by
  cases o with
  | que t e =>
    obtain ⟨ys, hy, h⟩ := h
    rcases h with ⟨_, _, rfl⟩ | ⟨g, o, cap, vs, rfl, rfl, h1, h2, h3, h4, h5⟩
    · intro g hg; cases hg
    · intro g' hg
      rw [List.mem_singleton] at hg; subst hg
      exact (Array.getElem?_eq_some_iff.1 h1).1
  | bld t e =>
    obtain ⟨b, rfl, h⟩ := h
    exact h.lt
  | mp fr t e =>
    rcases h with ⟨_, _, _, rfl⟩ | ⟨g, es, cl, gi, h1, rfl, h3, h4, h5⟩
    · intro g' hg; cases hg
    · intro g' hg
      rcases List.mem_cons.1 hg with rfl | hg
      · exact (Array.getElem?_eq_some_iff.1 h4).1
      · exact h5.lt g' hg
  | mph t e =>
    obtain ⟨g, es, cl, gi, h1, rfl, h3, h4, h5⟩ := h
    intro g' hg
    rcases List.mem_cons.1 hg with rfl | hg
    · exact (Array.getElem?_eq_some_iff.1 h4).1
    · exact h5.lt g' hg
  | nrow t e =>
    rcases h with ⟨_, _, rfl⟩ | ⟨xs, g, cap, vs, h0, h1, rfl, h2, _⟩
    · intro g hg; cases hg
    · intro g' hg
      rw [List.mem_singleton] at hg; subst hg
      exact (Array.getElem?_eq_some_iff.1 h2).1
theorem RepObj.nodup {o : OK} {x : o.den} {v : Value} {gs : List Nat} (h : RepObj w M o x v gs) : gs.Nodup := by
  cases o with
  | que t e =>
    obtain ⟨ys, hy, h⟩ := h
    rcases h with ⟨_, _, rfl⟩ | ⟨g, o, cap, vs, rfl, rfl, h1, h2, h3, h4, h5⟩ <;> simp
  | bld t e =>
    obtain ⟨b, rfl, h⟩ := h
    exact h.nodup
  | mp fr t e =>
    rcases h with ⟨_, _, _, rfl⟩ | ⟨g, es, cl, gi, h1, h2, h3, h4, h5⟩
    · simp
    · exact h3
  | mph t e => obtain ⟨g, es, cl, gi, h1, h2, h3, h4, h5⟩ := h; exact h3
  | nrow t e => rcases h with ⟨_, _, rfl⟩ | ⟨xs, g, cap, vs, h0, h1, rfl, h2, _⟩ <;> simp
theorem RepD.cells : ∀ {T : Ty} {x : T.den} {vs : List Value}, RepD w M T x vs → All2 (RepC w M hdr) (cellsOf T x) vs
  | .int _, _, _, h => by simp only [RepD] at h; subst h; exact .one rfl
  | .bool, _, _, h => by simp only [RepD] at h; subst h; exact .one rfl
  | .str, _, _, h => by simp only [RepD] at h; subst h; exact .one rfl
  | .unit, _, _, h => by simp only [RepD] at h; subst h; trivial
  | .pair a b, _, _, ⟨v1, v2, e, h1, h2⟩ => by subst e; exact All2.append (RepD.cells h1) (RepD.cells h2)
  | .slice e, x, vs, h => by
    have h' := h
    obtain ⟨A, c, us, e', _⟩ := h'
    subst e'
    exact .one h
  | .ref e, x, vs, ⟨ad, us, e', h1, h2⟩ => by
    subst e'
    exact .one ⟨ad, us, rfl, h1, h2⟩
  | .clo f e, x, vs, h => by
    have h' := h
    obtain ⟨caps, e', _⟩ := h'
    subst e'
    exact .one h
theorem RepD.ofCells : ∀ {T : Ty} {x : T.den} {vs : List Value}, All2 (RepC w M hdr) (cellsOf T x) vs → RepD w M T x vs
  | .int _, _, _, h => by obtain ⟨y, rfl, h2⟩ := h.one'; simp only [RepC] at h2; simp [RepD, h2]
  | .bool, _, _, h => by obtain ⟨y, rfl, h2⟩ := h.one'; simp only [RepC] at h2; simp [RepD, h2]
  | .str, _, _, h => by obtain ⟨y, rfl, h2⟩ := h.one'; simp only [RepC] at h2; simp [RepD, h2]
  | .unit, _, _, h => by have := h.nil'; simp [RepD, this]
  | .pair a b, _, _, h => by
    obtain ⟨y1, y2, e, h1, h2⟩ := All2.split (xs := cellsOf a _) h
    exact ⟨y1, y2, e, RepD.ofCells h1, RepD.ofCells h2⟩
  | .slice e, x, vs, h => by
    obtain ⟨y, rfl, h2⟩ := h.one'
    exact h2
  | .ref e, x, vs, h => by
    obtain ⟨y, rfl, ad, us, h1, h2, h3⟩ := h.one'
    exact ⟨ad, us, by rw [h1]; rfl, h2, h3⟩
  | .clo f e, x, vs, h => by
    obtain ⟨y, rfl, h2⟩ := h.one'
    exact h2
theorem RepD.v1 {T : Ty} {x : T.den} {vs : List Value} (h : RepD w M T x vs) : ∃ v, RepV1 w M hdr (v1Of T x) v ∧ v.cells.toList = vs := by
  have hc := h.cells (hdr := hdr)
  cases T with
  | pair a b => exact ⟨.agg vs.toArray, ⟨vs, rfl, hc⟩, by simp [Value.cells]⟩
  | unit => exact ⟨.agg vs.toArray, ⟨vs, rfl, hc⟩, by simp [Value.cells]⟩
  | int k => obtain ⟨y, rfl, h2⟩ := hc.one'; exact ⟨y, h2, by simp only [RepC] at h2; subst h2; rfl⟩
  | bool => obtain ⟨y, rfl, h2⟩ := hc.one'; exact ⟨y, h2, by simp only [RepC] at h2; subst h2; rfl⟩
  | str => obtain ⟨y, rfl, h2⟩ := hc.one'; exact ⟨y, h2, by simp only [RepC] at h2; subst h2; rfl⟩
  | slice e => obtain ⟨y, rfl, h2⟩ := hc.one'; exact ⟨y, h2, by obtain ⟨A, c, us, e', _⟩ := h2; simp at e'; subst e'; rfl⟩
  | ref e => obtain ⟨y, rfl, h2⟩ := hc.one'; exact ⟨y, h2, by obtain ⟨ad, us, e', _⟩ := h2; subst e'; rfl⟩
  | clo f e => obtain ⟨y, rfl, h2⟩ := hc.one'; exact ⟨y, h2, by obtain ⟨caps, e', _⟩ := h2; simp at e'; subst e'; rfl⟩
/-- A value of one cell, or of several. -/
theorem RepV1.cells {x : V1} {v : Value} (h : RepV1 w M hdr x v) : All2 (RepC w M hdr) x.cells v.cells.toList := by
  cases x with
  | one c =>
    have h1 := RepC.one h
    have hv : v.cells = #[v] := by cases v <;> first | rfl | (simp [Value.oneCell'] at h1)
    rw [hv]
    exact .one h
  | agg cs => obtain ⟨vs, rfl, h⟩ := h; simpa [Value.cells, V1.cells] using h
end
end Rx
end Go.Proofs.YthfgpnpoocepeaaGreat
