/- Every operation of the evaluator hands on what it would yield by itself. No conditions. -/
import Derived.Test.YthfgpnpoocepeaaGreatRxB
namespace Go.Proofs.YthfgpnpoocepeaaGreat
namespace Rx

section
variable {R : Type} {k : Eff → Option R}
theorem ob_bind {α β γ : Type} (x : Option α) (f : α → Option β) (g : β → Option γ) : (ob x f).bind g = ob x fun a => (f a).bind g := by cases x <;> rfl
theorem br_bind {α β : Type} (c : Bool) (a b : Option α) (g : α → Option β) : (br c a b).bind g = br c (a.bind g) (b.bind g) := by cases c <;> rfl
theorem chk_bind {α β : Type} (c : Bool) (a : Option α) (g : α → Option β) : (chk c a).bind g = chk c (a.bind g) := by cases c <;> rfl
theorem ret1_bind (c : Cell) : ret1 c k = (ret1 c some).bind k := rfl
theorem binK_bind (E : Env) (op : BinOp) (t : TypeId) (x y : AV) : binK E op t x y k = (binK E op t x y some).bind k := by
  unfold binK
  repeat' split
  all_goals first
    | rfl
    | (simp only [br_bind]; rfl)
theorem openK_bind {β γ : Type} (H : Heap) (b : Nat) (t : TypeId) (T : RTy) (xs : List T.den) (op : Option (Nat × List Cell)) (fz n id : Nat) (f : List Cell → List (Nat × Option Blk) → List Nat → Option β) (g : β → Option γ) : (openK H b t T xs op fz n id f).bind g = openK H b t T xs op fz n id fun a b c => (f a b c).bind g := by
  unfold openK
  split
  · simp only [ob_bind, chk_bind]
  · simp only [br_bind, Option.bind_none]
theorem loadK_bind (H : Heap) (i : TI) (c : Cell) (id : Nat) : loadK H i c id k = (loadK H i c id some).bind k := by
  unfold loadK
  repeat' split
  all_goals first
    | rfl
    | (simp only [ob_bind]; congr 1; funext x; split <;> rfl)
    | (simp only [openK_bind]; congr 1; funext a b c; split <;> rfl)
theorem storeK_bind (H : Heap) (i : TI) (c : Cell) (x : V1) (id : Nat) : storeK H i c x id k = (storeK H i c x id some).bind k := by
  unfold storeK
  dsimp only
  repeat' split
  all_goals first
    | rfl
    | (simp only [ob_bind, Option.bind_assoc, Option.bind_some])
    | (simp only [openK_bind, Option.bind_some])
theorem callK_bind (S : St) (c : Con) (args : List AV) (id : Nat) : callK S c args id k = (callK S c args id some).bind k := by
  unfold callK
  simp only [ob_bind, chk_bind, Option.bind_assoc, Option.bind_some]
theorem mcallK_bind (S : St) (c : MCon) (args : List AV) (id : Nat) : mcallK S c args id k = (mcallK S c args id some).bind k := by
  unfold mcallK
  simp only [ob_bind, chk_bind, Option.bind_assoc, Option.bind_some]
theorem ncallK_bind (H : Heap) (c : NCon) (args : List AV) (id : Nat) : ncallK H c args id k = (ncallK H c args id some).bind k := by
  unfold ncallK
  repeat' split
  all_goals first
    | rfl
    | (simp only [ob_bind, chk_bind, Option.bind_assoc, Option.bind_some])
theorem lenK_bind (H : Heap) (x : AV) : lenK H x k = (lenK H x some).bind k := by
  unfold lenK
  repeat' split
  all_goals rfl
theorem bytesK_bind (E : Env) (H : Heap) (i' i : TI) (x : AV) : bytesK E H i' i x k = (bytesK E H i' i x some).bind k := by
  unfold bytesK
  repeat' split
  all_goals rfl
theorem appendR_bind (H : Heap) (et : TypeId) (e : Ty) (s x : AV) (id : Nat) : appendR H et e s x id k = (appendR H et e s x id some).bind k := by
  unfold appendR
  repeat' split
  all_goals first
    | rfl
    | (simp only [chk_bind, br_bind]; rfl)
theorem appendD_bind (H : Heap) (et : TypeId) (e : Ty) (s : AV) (bx : Nat) (t : TypeId) (T : RTy) (ys : List T.den) (id : Nat) : appendD H et e s bx t T ys id k = (appendD H et e s bx t T ys id some).bind k := by
  unfold appendD
  repeat' split
  all_goals first
    | rfl
    | (simp only [chk_bind, br_bind]; rfl)
theorem appendK_bind (H : Heap) (et : TypeId) (e : Ty) (s x : AV) (id : Nat) : appendK H et e s x id k = (appendK H et e s x id some).bind k := by
  unfold appendK
  repeat' split
  all_goals first
    | (rw [chk_bind, ← appendD_bind])
    | exact appendR_bind _ _ _ _ _ _

theorem bldW_bind (H : Heap) (t e : TypeId) (args : List AV) : bldW H t e args k = (bldW H t e args some).bind k := by
  unfold bldW
  repeat' split
  all_goals first
    | rfl
    | (simp only [br_bind]; rfl)
theorem bldS_bind (H : Heap) (t e : TypeId) (args : List AV) : bldS H t e args k = (bldS H t e args some).bind k := by
  unfold bldS
  repeat' split
  all_goals rfl
theorem nilK_bind (E : Env) (op : BinOp) (t : TypeId) (c : Bool) (b : Nat) : nilK E op t c b k = (nilK E op t c b some).bind k := by
  unfold nilK
  repeat' split
  all_goals rfl
theorem lookK_bind (H : Heap) (rt : TypeId) (b : Nat) (n : Int) (id : Nat) (pk : Bool) : lookK H rt b n id pk k = (lookK H rt b n id pk some).bind k := by
  unfold lookK
  repeat' split
  all_goals first
    | rfl
    | (simp only [chk_bind]; rfl)
theorem updK_bind (H : Heap) (rt : TypeId) (b : Nat) (n : Int) (v : AV) : updK H rt b n v k = (updK H rt b n v some).bind k := by
  unfold updK
  repeat' split
  all_goals first
    | rfl
    | (simp only [br_bind]; rfl)
theorem opK_bind (E : Env) (o : Op) (id : Nat) (S : St) : opK E o id S k = (opK E o id S some).bind k := by
  cases o <;> unfold opK <;> try rfl
  case binOp =>
    dsimp only
    split
    · exact nilK_bind _ _ _ _ _
    · exact binK_bind _ _ _ _ _
  all_goals
    (try dsimp only)
    repeat' split
    all_goals first
      | rfl
      | exact loadK_bind _ _ _ _
      | exact storeK_bind _ _ _ _ _
      | exact callK_bind _ _ _ _
      | exact mcallK_bind _ _ _ _
      | exact bldW_bind _ _ _ _
      | exact ncallK_bind _ _ _ _
      | exact bldS_bind _ _ _ _
      | exact lenK_bind _ _
      | exact lookK_bind _ _ _ _ _ _
      | exact updK_bind _ _ _ _ _
      | exact bytesK_bind _ _ _ _ _
      | exact appendK_bind _ _ _ _ _ _
      | (simp only [chk_bind, br_bind, ob_bind]; rfl)
      | exact binK_bind _ _ _ _ _
      | contradiction
      | (trace_state; fail)

theorem opK_some {E : Env} {o : Op} {id : Nat} {S : St} {r : R} (h : opK E o id S k = some r) : ∃ e, opK E o id S some = some e ∧ k e = some r := by
  rw [opK_bind] at h
  exact Option.bind_eq_some_iff.1 h
end

theorem force_eq {α β : Type} : ∀ (l : List α) (k : List α → β), force l k = k l
  | [], _ => rfl
  | x :: xs, k => by rw [force, force_eq xs]
theorem appK_eq {α : Type} (S : St) (dst : Option Tmp) (e : Eff) (k : St → α) : appK S dst e k = k (S.app dst e) := by
  unfold appK
  rw [force_eq, force_eq]
  rfl
theorem ob_some {α β : Type} {x : Option α} {f : α → Option β} {b : β} (h : ob x f = some b) : ∃ a, x = some a ∧ f a = some b := by
  cases x with
  | none => cases h
  | some a => exact ⟨a, rfl, h⟩
theorem br_some {α : Type} {c : Bool} {a b : Option α} {r : α} (h : br c a b = some r) : (c = true ∧ a = some r) ∨ (c = false ∧ b = some r) := by
  cases c
  · exact .inr ⟨rfl, h⟩
  · exact .inl ⟨rfl, h⟩
theorem chk_some {α : Type} {c : Bool} {a : Option α} {r : α} (h : chk c a = some r) : c = true ∧ a = some r := by
  cases c
  · cases h
  · exact ⟨rfl, h⟩
end Rx
end Go.Proofs.YthfgpnpoocepeaaGreat
