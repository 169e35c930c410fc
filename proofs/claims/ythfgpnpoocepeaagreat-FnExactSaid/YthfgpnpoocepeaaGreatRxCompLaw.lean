/- Trains are compared: the implementation's answer is the spec's. No program in sight. -/
import Derived.Test.YthfgpnpoocepeaaGreatRxTrainLaw
import Derived.Test.YthfgpnpoocepeaaGreatRxComp
namespace Go.Proofs.YthfgpnpoocepeaaGreat
namespace Rx
open Go

/-! ### What a comparison is -/
def cmpF (a b : Int) : Int := if a < b then -1 else if b < a then 1 else 0
def cmpP (y z : Int × Int) : Int := if cmpF y.1 z.1 ≠ 0 then cmpF y.1 z.1 else cmpF y.2 z.2
def cmpL : List (Int × Int) → List (Int × Int) → Int
  | y :: a, z :: b => if cmpP y z ≠ 0 then cmpP y z else cmpL a b
  | _ :: _, [] => 1
  | [], _ :: _ => -1
  | [], [] => 0
/-- The first difference. -/
def lex2 : List Int → List Int → Option Int
  | a :: x, b :: y => if a < b then some (-1) else if b < a then some 1 else lex2 x y
  | _, _ => none
def flat (l : List (Int × Int)) : List Int := l.flatMap fun y => [y.1, y.2]
def lexF (x y : List Int) : Int := match lex2 x y with
  | some c => c
  | none => cmpF x.length y.length
theorem cmpF_three (a b : Int) : cmpF a b = -1 ∨ cmpF a b = 0 ∨ cmpF a b = 1 := by
  unfold cmpF
  split
  · exact .inl rfl
  · split
    · exact .inr (.inr rfl)
    · exact .inr (.inl rfl)
theorem lex2_cons (a b : Int) (x y : List Int) : lex2 (a :: x) (b :: y) = if a < b then some (-1) else if b < a then some 1 else lex2 x y := rfl
theorem lexF_cons (a b : Int) (x y : List Int) : lexF (a :: x) (b :: y) = if cmpF a b ≠ 0 then cmpF a b else lexF x y := by
  unfold lexF cmpF
  rw [lex2_cons]
  by_cases h1 : a < b
  · simp [h1]
  · by_cases h2 : b < a
    · simp [h1, h2]
    · simp only [h1, h2, if_false, ne_eq, not_true_eq_false]
      cases lex2 x y with
      | some c => rfl
      | none =>
        simp only [List.length_cons]
        by_cases h3 : x.length < y.length
        · have : ((x.length : Nat) : Int) < y.length := by omega
          have : ((x.length + 1 : Nat) : Int) < ((y.length + 1 : Nat) : Int) := by omega
          simp [*]
        · by_cases h4 : y.length < x.length
          · have e1 : ¬ ((x.length : Nat) : Int) < y.length := by omega
            have e2 : ((y.length : Nat) : Int) < x.length := by omega
            have e3 : ¬ ((x.length + 1 : Nat) : Int) < ((y.length + 1 : Nat) : Int) := by omega
            have e4 : ((y.length + 1 : Nat) : Int) < ((x.length + 1 : Nat) : Int) := by omega
            rw [if_neg e3, if_pos e4, if_neg e1, if_pos e2]
          · have e1 : ¬ ((x.length : Nat) : Int) < y.length := by omega
            have e2 : ¬ ((y.length : Nat) : Int) < x.length := by omega
            have e3 : ¬ ((x.length + 1 : Nat) : Int) < ((y.length + 1 : Nat) : Int) := by omega
            have e4 : ¬ ((y.length + 1 : Nat) : Int) < ((x.length + 1 : Nat) : Int) := by omega
            rw [if_neg e3, if_neg e4, if_neg e1, if_neg e2]
theorem cmpL_flat : ∀ (a b : List (Int × Int)), cmpL a b = lexF (flat a) (flat b)
  | [], [] => rfl
  | [], z :: b => by
    show -1 = cmpF _ _
    unfold cmpF
    rw [if_pos]
    simp [flat]; omega
  | y :: a, [] => by
    show 1 = cmpF _ _
    unfold cmpF
    rw [if_neg, if_pos]
    · simp [flat]; omega
    · simp [flat]; omega
  | y :: a, z :: b => by
    have e1 : flat (y :: a) = y.1 :: y.2 :: flat a := rfl
    have e2 : flat (z :: b) = z.1 :: z.2 :: flat b := rfl
    rw [e1, e2, lexF_cons, lexF_cons, ← cmpL_flat a b]
    show (if cmpP y z ≠ 0 then cmpP y z else cmpL a b) = _
    unfold cmpP
    by_cases h : cmpF y.1 z.1 = 0
    · simp only [h, ne_eq, not_true_eq_false, if_false]
    · simp only [h, ne_eq, not_false_eq_true, if_true]

/-! ### The implementation's side -/
theorem cmpI_eq (a b : Int) : cmpI (a, b) = some (cmpF a b) := by
  have hn : ∀ x, nanI x = some false := fun x => by unfold nanI; rw [bne_self_eq_false]
  unfold cmpI cmpF
  simp only [hn, ob_s, br]
  by_cases h1 : a < b
  · simp only [h1, decide_true, if_true]
  · by_cases h2 : b < a
    · simp only [h1, h2, decide_true, decide_false, if_true, if_false]
    · simp only [h1, h2, decide_false, if_false]
theorem cmpPairI_eq (y z : Int × Int) : cmpPairI (y, z) = some (cmpP y z) := by
  unfold cmpPairI
  simp only [cmpI_eq, ob_s]
  unfold cmpP
  rcases cmpF_three y.1 z.1 with h | h | h <;> rcases cmpF_three y.2 z.2 with h' | h' | h' <;> rw [h, h'] <;> rfl
theorem cmpFunc_eq {a b : List (Int × Int)} (ha : a.length ≤ 4294967296) : cmpFunc (a, b, ()) = some (cmpL a b) := by
  have key : ∀ (n : Nat) (i : Nat), i ≤ a.length → a.length - i < n → ∃ k s, iter cmpFuncL_step n (a, b, (), 0, a, (a.length : Int), (i : Int)) = some (k, s) ∧
      (k = true → s.1 = a ∧ s.2.1 = b ∧ cmpL (a.drop i) (b.drop i) = if a.length < b.length then -1 else 0) ∧ (k = false → s.2.2.2.1 = cmpL (a.drop i) (b.drop i)) := by
    intro n
    induction n with
    | zero => intro i _ h; omega
    | succ n ih =>
      intro i hi h
      show ∃ k s, ob (cmpFuncL_step _) _ = _ ∧ _
      have dropc : ∀ {l : List (Int × Int)} {i : Nat}, i < l.length → ∃ y, idx l (i : Int) = some y ∧ l.drop i = y :: l.drop (i + 1) := by
        intro l i hlt
        obtain ⟨y, hy, hy2⟩ := idx_get (l := l) (i := (i : Int)) (by omega) (by omega)
        refine ⟨y, hy, ?_⟩
        rw [List.drop_eq_getElem_cons hlt]
        congr 1
        have := List.getElem?_eq_getElem hlt
        rw [show l[(i : Int).toNat]? = l[i]? by simp, this] at hy2
        cases hy2; rfl
      by_cases hlt : i < a.length
      · obtain ⟨y, hy, hd⟩ := dropc hlt
        unfold cmpFuncL_step
        dsimp only
        rw [br_t (by simp; omega), hy, hd]
        by_cases hb : i < b.length
        · obtain ⟨z, hz, hd'⟩ := dropc hb
          rw [hd']
          show ∃ k s, ob (br (decide ((b.length : Int) ≤ (i : Int))) _ (ob (idx b (i : Int)) fun y_1 => ob (cmpPairI (y, y_1)) _)) _ = _ ∧ _
          rw [br_f (by simp; omega), hz]
          show ∃ k s, ob (ob (cmpPairI (y, z)) _) _ = _ ∧ _
          rw [cmpPairI_eq]
          show ∃ k s, ob (br (cmpP y z != 0) _ (some (LRes.next, a, b, (), (0 : Int), a, (a.length : Int), IntKind.i64.wrap ((i : Int) + 1)))) _ = _ ∧ _
          rw [w64 (by omega) (by omega), show (i : Int) + 1 = ((i + 1 : Nat) : Int) by omega]
          show ∃ k s, _ ∧ (_ → _ ∧ _ ∧ (if cmpP y z ≠ 0 then cmpP y z else cmpL (a.drop (i + 1)) (b.drop (i + 1))) = _) ∧ (_ → _ = (if cmpP y z ≠ 0 then cmpP y z else cmpL (a.drop (i + 1)) (b.drop (i + 1))))
          by_cases hc : cmpP y z = 0
          · rw [br_f (by simpa using hc), if_neg (by simpa using hc)]
            exact ih (i + 1) (by omega) (by omega)
          · rw [br_t (by simpa using hc), if_pos hc]
            exact ⟨false, _, rfl, fun h => (by cases h), fun _ => rfl⟩
        · rw [List.drop_eq_nil_of_le (show b.length ≤ i by omega)]
          show ∃ k s, ob (br (decide ((b.length : Int) ≤ (i : Int))) _ _) _ = _ ∧ _
          rw [br_t (by simp; omega)]
          exact ⟨false, _, rfl, fun h => (by cases h), fun _ => rfl⟩
      · have hil : i = a.length := by omega
        subst hil
        unfold cmpFuncL_step
        dsimp only
        rw [br_f (by simp), List.drop_length]
        refine ⟨true, _, rfl, fun _ => ⟨rfl, rfl, ?_⟩, fun h => by cases h⟩
        by_cases hb : a.length < b.length
        · obtain ⟨z, hz, hd'⟩ := dropc hb
          rw [hd', if_pos hb]; rfl
        · rw [List.drop_eq_nil_of_le (by omega), if_neg hb]; rfl
  obtain ⟨k, s, h1, h2, h3⟩ := key (((a.length : Int) - 0).toNat + 1) 0 (by omega) (by omega)
  have h1' : cmpFuncL (a, b, (), 0, a, (a.length : Int), 0) = some (k, s) := h1
  unfold cmpFunc
  dsimp only
  have h1'' : cmpFuncL (a, b, PUnit.unit, 0, a, (a.length : Int), 0) = some (k, s) := h1
  rw [h1'']
  cases k with
  | true =>
    obtain ⟨e1, e2, e3⟩ := h2 rfl
    rw [List.drop_zero, List.drop_zero] at e3
    show br (decide ((s.1.length : Int) < (s.2.1.length : Int))) (some (-1)) (some 0) = _
    rw [e1, e2, e3]
    by_cases hb : a.length < b.length
    · rw [br_t (by simpa using hb), if_pos hb]
    · rw [br_f (by simpa using hb), if_neg hb]
  | false =>
    have e := h3 rfl
    rw [List.drop_zero, List.drop_zero] at e
    show some s.2.2.2.1 = _
    rw [e]
def sumF (l : List (Int × Int)) : Int := l.foldl (fun s y => IntKind.i64.wrap (s + IntKind.i64.wrap (y.1 + y.2))) 0
theorem teethOfI_eq {l : List (Int × Int)} (hl : l.length ≤ 4294967296) : teethOfI l = some (sumF l) := by
  have h := (fold_loop (step := teethIL_step) (l := l) (fun i a => (0, a, l, (l.length : Int), i)) (fun s y => IntKind.i64.wrap (s + IntKind.i64.wrap (y.1 + y.2))) (fun _ _ => True) (fun a => (0, a, l, (l.length : Int), (l.length : Int)))
    (fun i a y h0 h1 hy _ => by
      unfold teethIL_step
      dsimp only
      rw [br_t (by simpa using h1), hy]
      refine ⟨?_, trivial⟩
      show some (LRes.next, (0 : Int), IntKind.i64.wrap (a + IntKind.i64.wrap (y.1 + y.2)), l, (l.length : Int), IntKind.i64.wrap (i + 1)) = _
      rw [w64 (x := i + 1) (by omega) (by omega)])
    (fun a _ => by unfold teethIL_step; dsimp only; rw [br_f (by simp)]) (n := ((l.length : Int) - 0).toNat + 1) (by omega) (a0 := 0) trivial).1
  have h' : teethIL (0, 0, l, (l.length : Int), 0) = some (0, sumF l, l, (l.length : Int), (l.length : Int)) := h
  unfold teethOfI
  rw [h']
  rfl
theorem sumS_eq {l : List (Int × Int)} (hl : l.length ≤ 4294967296) : sumS l = some (sumF l) := by
  have h := (fold_loop (step := sumSL_step) (l := l) (fun i a => (l, a, i)) (fun s y => IntKind.i64.wrap (s + IntKind.i64.wrap (y.1 + y.2))) (fun _ _ => True) (fun a => (l, a, (l.length : Int)))
    (fun i a y h0 h1 hy _ => by
      unfold sumSL_step
      dsimp only
      rw [br_t (by simpa using h1), hy]
      refine ⟨?_, trivial⟩
      show some (LRes.next, l, IntKind.i64.wrap (a + IntKind.i64.wrap (y.1 + y.2)), IntKind.i64.wrap (i + 1)) = _
      rw [w64 (x := i + 1) (by omega) (by omega)])
    (fun a _ => by unfold sumSL_step; dsimp only; rw [br_f (by simp)]) (n := l.length - (0 : Int).toNat + 1) (by simp) (a0 := 0) trivial).1
  have h' : sumSL (l, 0, 0) = some (l, sumF l, (l.length : Int)) := h
  unfold sumS
  rw [h']
  rfl
theorem cmpTrI_eq {a b : List (Int × Int)} (ha : a.length ≤ 4294967296) (hb : b.length ≤ 4294967296) : cmpTrI (a, b) = some (lexF (sumF a :: flat a) (sumF b :: flat b)) := by
  unfold cmpTrI
  simp only [teethOfI_eq ha, teethOfI_eq hb, ob_s, cmpI_eq]
  rw [lexF_cons]
  by_cases h : cmpF (sumF a) (sumF b) = 0
  · rw [br_f (by simpa using h), if_neg (by simpa using h)]
    show ob (cmpFunc (a, b, ())) _ = _
    rw [cmpFunc_eq ha, cmpL_flat]
    rfl
  · rw [br_t (by simpa using h), if_pos h]

/-! ### The spec's side -/
theorem foldl_flat : ∀ (l : List (Int × Int)) (o : List Int), l.foldl (fun o y => o ++ [y.1, y.2]) o = o ++ flat l
  | [], o => by simp [flat]
  | y :: l, o => by
    rw [List.foldl_cons, foldl_flat l]
    simp [flat]
theorem cmpSL0_eq {a : List (Int × Int)} (ha : a.length ≤ 1048576) (b : List (Int × Int)) (x y : Int) : cmpSL0 (a, b, 0, [x], [y], 0) = some (a, b, 0, x :: flat a, [y], (a.length : Int)) := by
  have h := (fold_loop (step := cmpSL0_step) (l := a) (fun i o => (a, b, 0, o, [y], i)) (fun o y => o ++ [y.1, y.2]) (fun i o => (o.length : Int) = 1 + 2 * i) (fun o => (a, b, 0, o, [y], (a.length : Int)))
    (fun i o z h0 h1 hz hJ => by
      unfold cmpSL0_step
      dsimp only
      rw [br_t (by simpa using h1), hz]
      refine ⟨?_, by simp; omega⟩
      show br (decide (o.length + [z.1, z.2].length ≤ 4294967296)) (some (LRes.next, a, b, (0 : Int), o ++ [z.1, z.2], [y], IntKind.i64.wrap (i + 1))) none = _
      rw [br_t (by simp; omega), w64 (by omega) (by omega)])
    (fun o _ => by unfold cmpSL0_step; dsimp only; rw [br_f (by simp)]) (n := a.length - (0 : Int).toNat + 1) (by simp) (a0 := [x]) (by simp)).1
  rw [foldl_flat] at h
  exact h
theorem cmpSL1_eq {b : List (Int × Int)} (hb : b.length ≤ 1048576) (x : List Int) (y : Int) : cmpSL1 (b, 0, x, [y], 0) = some (b, 0, x, y :: flat b, (b.length : Int)) := by
  have h := (fold_loop (step := cmpSL1_step) (l := b) (fun i o => (b, 0, x, o, i)) (fun o y => o ++ [y.1, y.2]) (fun i o => (o.length : Int) = 1 + 2 * i) (fun o => (b, 0, x, o, (b.length : Int)))
    (fun i o z h0 h1 hz hJ => by
      unfold cmpSL1_step
      dsimp only
      rw [br_t (by simpa using h1), hz]
      refine ⟨?_, by simp; omega⟩
      show br (decide (o.length + [z.1, z.2].length ≤ 4294967296)) (some (LRes.next, b, (0 : Int), x, o ++ [z.1, z.2], IntKind.i64.wrap (i + 1))) none = _
      rw [br_t (by simp; omega), w64 (by omega) (by omega)])
    (fun o _ => by unfold cmpSL1_step; dsimp only; rw [br_f (by simp)]) (n := b.length - (0 : Int).toNat + 1) (by simp) (a0 := [y]) (by simp)).1
  rw [foldl_flat] at h
  exact h
theorem gi2 {α : Type} (l : List α) (i : Nat) : l.get?Internal i = l[i]? := rfl
theorem cmpSL2_eq {x y : List Int} (hx : x.length ≤ 4294967296) : ∃ s, cmpSL2 (0, x, y, 0) = some ((lex2 x y).isNone, s) ∧ (lex2 x y = none → s.2.1 = x ∧ s.2.2.1 = y) ∧ (∀ c, lex2 x y = some c → s.1 = c) := by
  have key : ∀ (n : Nat) (i : Nat), i ≤ x.length → x.length - i < n → ∃ s, iter cmpSL2_step n (0, x, y, (i : Int)) = some ((lex2 (x.drop i) (y.drop i)).isNone, s) ∧ (lex2 (x.drop i) (y.drop i) = none → s.2.1 = x ∧ s.2.2.1 = y) ∧ (∀ c, lex2 (x.drop i) (y.drop i) = some c → s.1 = c) := by
    intro n
    induction n with
    | zero => intro i _ h; omega
    | succ n ih =>
      intro i hi h
      show ∃ s, ob (cmpSL2_step _) _ = _ ∧ _
      have dropc : ∀ {l : List Int} {i : Nat}, i < l.length → ∃ y, idx l (i : Int) = some y ∧ l[(i : Int).toNat]? = some y ∧ l.drop i = y :: l.drop (i + 1) := by
        intro l i hlt
        obtain ⟨y, hy, hy2⟩ := idx_get (l := l) (i := (i : Int)) (by omega) (by omega)
        refine ⟨y, hy, hy2, ?_⟩
        rw [List.drop_eq_getElem_cons hlt]
        congr 1
        have := List.getElem?_eq_getElem hlt
        rw [show l[(i : Int).toNat]? = l[i]? by simp, this] at hy2
        cases hy2; rfl
      unfold cmpSL2_step
      dsimp only
      simp only [gi2]
      by_cases hlt : i < x.length
      · obtain ⟨p, hp, hp2, hdx⟩ := dropc hlt
        rw [br_t (by simp; omega)]
        by_cases hlt' : i < y.length
        · obtain ⟨q, hq, hq2, hdy⟩ := dropc hlt'
          rw [br_t (by simp; omega), hp, hq, hp2, hq2, hdx, hdy]
          simp only [ob_s, w64 (x := (i : Int) + 1) (by omega) (by omega)]
          simp only [lex2_cons]
          by_cases h1 : p < q
          · rw [br_t (by simpa using h1), if_pos h1]
            exact ⟨_, rfl, fun h => (by cases h), fun c h => by cases h; rfl⟩
          · rw [br_f (by simpa using h1), if_neg h1]
            by_cases h2 : q < p
            · rw [br_t (by simpa using h2), if_pos h2]
              exact ⟨_, rfl, fun h => (by cases h), fun c h => by cases h; rfl⟩
            · rw [br_f (by simpa using h2), if_neg h2, show (i : Int) + 1 = ((i + 1 : Nat) : Int) by omega]
              exact ih (i + 1) (by omega) (by omega)
        · rw [br_f (by simp; omega), List.drop_eq_nil_of_le (show y.length ≤ i by omega)]
          have : lex2 (x.drop i) [] = none := by cases x.drop i <;> rfl
          rw [this]
          exact ⟨_, rfl, fun _ => ⟨rfl, rfl⟩, fun c h => by cases h⟩
      · rw [br_f (by simp; omega), List.drop_eq_nil_of_le (show x.length ≤ i by omega)]
        have : lex2 [] (y.drop i) = none := rfl
        rw [this]
        exact ⟨_, rfl, fun _ => ⟨rfl, rfl⟩, fun c h => by cases h⟩
  exact key (x.length - (0 : Int).toNat + 1) 0 (by omega) (by simp)
theorem flat_len (l : List (Int × Int)) : (flat l).length = 2 * l.length := by
  induction l with
  | nil => rfl
  | cons y l ih =>
    show (y.1 :: y.2 :: flat l).length = _
    simp [ih]; omega
theorem cmpTrS_eq {a b : List (Int × Int)} (ha : a.length ≤ 1048576) (hb : b.length ≤ 1048576) : cmpTrS (a, b) = some (lexF (sumF a :: flat a) (sumF b :: flat b)) := by
  have fa := flat_len a
  have fb := flat_len b
  obtain ⟨s, h1, h2, h3⟩ := cmpSL2_eq (x := sumF a :: flat a) (y := sumF b :: flat b) (by simp; omega)
  unfold cmpTrS
  simp only [sumS_eq (l := a) (by omega), sumS_eq (l := b) (by omega), ob_s, cmpSL0_eq ha, cmpSL1_eq hb, h1]
  unfold lexF
  cases hx : lex2 (sumF a :: flat a) (sumF b :: flat b) with
  | some c => show some s.1 = _; rw [h3 c hx]
  | none =>
    obtain ⟨e1, e2⟩ := h2 hx
    show ob (cmpRatS (((s.2.1.length : Int), 1), ((s.2.2.1.length : Int), 1))) (fun y => some y) = _
    rw [e1, e2]
    generalize hX : (sumF a :: flat a).length = X
    generalize hY : (sumF b :: flat b).length = Y
    have bX : X ≤ 2097153 := by rw [← hX]; simp; omega
    have bY : Y ≤ 2097153 := by rw [← hY]; simp; omega
    show ob (br (decide (IntKind.i64.wrap ((X : Int) * 1) < IntKind.i64.wrap ((Y : Int) * 1))) (some (-1)) (br (decide (IntKind.i64.wrap ((Y : Int) * 1) < IntKind.i64.wrap ((X : Int) * 1))) (some 1) (some 0))) (fun y => some y) = some (cmpF (X : Int) (Y : Int))
    rw [w64 (x := (X : Int) * 1) (by omega) (by omega), w64 (x := (Y : Int) * 1) (by omega) (by omega), Int.mul_one, Int.mul_one]
    unfold cmpF
    by_cases c1 : (X : Int) < Y
    · rw [br_t (by simpa using c1), if_pos c1]; rfl
    · rw [br_f (by simpa using c1), if_neg c1]
      by_cases c2 : (Y : Int) < X
      · rw [br_t (by simpa using c2), if_pos c2]; rfl
      · rw [br_f (by simpa using c2), if_neg c2]; rfl
end Rx
end Go.Proofs.YthfgpnpoocepeaaGreat
