/- The exact trains in plain terms: a loop with a cap, groups by products. No program in sight. -/
import Derived.Test.YthfgpnpoocepeaaGreatRxProdLaw
import Derived.Test.YthfgpnpoocepeaaGreatRxScan
namespace Go.Proofs.YthfgpnpoocepeaaGreat
namespace Rx
open Go

noncomputable section
/-! ### A loop that gives up at the 41st -/
theorem cap_loop {α β σ τ : Type} {step : σ → Option (LS σ τ)} {l : List α} (st : Int → List β → σ) (g : α → List β) (ρ : τ) (fin : List β → σ)
    (hn : ∀ (i : Int) (a : List β) (y : α), 0 ≤ i → i < l.length → idx l i = some y → y ∈ l → a.length ≤ 40 → step (st i a) = some (if (a ++ g y).length ≤ 40 then .next (st (i + 1) (a ++ g y)) else .ret ρ))
    (ho : ∀ a, a.length ≤ 40 → step (st l.length a) = some (.out (fin a))) {n : Nat} (hf : l.length < n) {a0 : List β} (h0 : a0.length ≤ 40) :
    iterA step n (st 0 a0) = some (if (a0 ++ l.flatMap g).length ≤ 40 then .inl (fin (a0 ++ l.flatMap g)) else .inr ρ) := by
  have key : ∀ (n : Nat) (i : Nat) (a : List β), i ≤ l.length → l.length - i < n → a.length ≤ 40 → iterA step n (st i a) = some (if (a ++ (l.drop i).flatMap g).length ≤ 40 then .inl (fin (a ++ (l.drop i).flatMap g)) else .inr ρ) := by
    intro n
    induction n with
    | zero => intro i _ _ h; omega
    | succ n ih =>
      intro i a hi h hJ
      show ob (step (st i a)) _ = _
      by_cases hlt : i < l.length
      · rw [List.drop_eq_getElem_cons hlt, List.flatMap_cons, ← List.append_assoc]
        have e := hn i a l[i] (by omega) (by omega) (get_idx hlt) (List.getElem_mem hlt) hJ
        rw [e]
        by_cases hc : (a ++ g l[i]).length ≤ 40
        · rw [if_pos hc]
          exact ih (i + 1) _ (by omega) (by omega) hc
        · rw [if_neg hc, if_neg (by simp only [List.length_append] at hc ⊢; omega)]
          rfl
      · have : i = l.length := by omega
        subst this
        rw [ho a hJ, List.drop_length, List.flatMap_nil, List.append_nil, if_pos hJ]
        rfl
  exact key n 0 a0 (by omega) (by omega) h0
theorem flatMap_one {α β : Type} (f : α → β) : ∀ l : List α, l.flatMap (fun b => [f b]) = l.map f
  | [] => rfl
  | x :: l => by rw [List.flatMap_cons, flatMap_one f l]; rfl

/-! ### Groups -/
theorem flatMap_split {α β : Type} (f g : α → List β) : ∀ l : List α, (l.flatMap fun p => f p ++ g p).Perm (l.flatMap f ++ l.flatMap g)
  | [] => by simp
  | x :: l => by
    rw [List.flatMap_cons, List.flatMap_cons, List.flatMap_cons, List.append_assoc, List.append_assoc]
    refine List.Perm.append_left _ ?_
    refine ((flatMap_split f g l).append_left _).trans ?_
    rw [← List.append_assoc, ← List.append_assoc]
    exact List.perm_append_comm.append_right _
theorem flatMap_at {β : Type} {q : Int} (h : List β) : ∀ {ps : List Int}, ps.Nodup → q ∈ ps → (ps.flatMap fun p => if q = p then h else []) = h
  | [], _, hm => by cases hm
  | p :: ps, hn, hm => by
    rw [List.flatMap_cons]
    have hn' := List.nodup_cons.1 hn
    by_cases e : q = p
    · subst e
      rw [if_pos rfl]
      have : (ps.flatMap fun p => if q = p then h else []) = [] := by
        rw [List.flatMap_eq_nil_iff]
        intro y hy
        rw [if_neg]
        rintro rfl
        exact hn'.1 hy
      rw [this, List.append_nil]
    · rw [if_neg e, List.nil_append]
      rcases List.mem_cons.1 hm with h1 | h1
      · exact absurd h1 e
      · exact flatMap_at h hn'.2 h1
/-- Group by group or one by one: the same elements. -/
theorem group_perm {α β : Type} (key : α → Int) (h : α → List β) {ps : List Int} (hn : ps.Nodup) : ∀ {W : List α}, (∀ a ∈ W, key a ∈ ps) → (ps.flatMap fun p => (W.filter fun a => key a == p).flatMap h).Perm (W.flatMap h)
  | [], _ => by simp
  | a :: W, hW => by
    have e : (fun p => ((a :: W).filter fun a => key a == p).flatMap h) = fun p => (if key a = p then h a else []) ++ (W.filter fun a => key a == p).flatMap h := by
      funext p
      rw [List.filter_cons]
      by_cases hp : key a = p
      · rw [if_pos (by simpa using hp), if_pos hp]; rfl
      · rw [if_neg (by simpa using hp), if_neg hp]; rfl
    rw [e, List.flatMap_cons]
    refine (flatMap_split _ _ ps).trans ?_
    rw [flatMap_at _ hn (hW a (by simp))]
    exact List.Perm.append_left _ (group_perm key h hn fun b hb => hW b (by simp [hb]))
theorem flatMap_congr' {α β : Type} {f g : α → List β} : ∀ {l : List α}, (∀ x ∈ l, f x = g x) → l.flatMap f = l.flatMap g
  | [], _ => rfl
  | x :: l, h => by rw [List.flatMap_cons, List.flatMap_cons, h x (by simp), flatMap_congr' fun y hy => h y (by simp [hy])]
theorem flatMap_perm {α β : Type} {f g : α → List β} : ∀ {l : List α}, (∀ x ∈ l, (f x).Perm (g x)) → (l.flatMap f).Perm (l.flatMap g)
  | [], _ => .refl _
  | x :: l, h => by
    rw [List.flatMap_cons, List.flatMap_cons]
    exact (h x (by simp)).append (flatMap_perm fun y hy => h y (by simp [hy]))

/-! ### In ascending order -/
theorem filter_take {l : List (Int × List Int)} (hs : ascP l) {v : Int} {k : Nat} (hk : k ≤ l.length) (h1 : ∀ y ∈ l.drop k, v < y.1) : l.filter (fun d => d.1 == v) = (l.take k).filter (fun d => d.1 == v) := by
  conv => lhs; rw [← List.take_append_drop k l]
  rw [List.filter_append]
  have : (l.drop k).filter (fun d => d.1 == v) = [] := by
    rw [List.filter_eq_nil_iff]
    intro y hy
    have := h1 y hy
    simp; omega
  rw [this, List.append_nil]
end
end Rx
end Go.Proofs.YthfgpnpoocepeaaGreat

namespace Go.Proofs.YthfgpnpoocepeaaGreat
namespace Rx
open Go

noncomputable section
/-! ### What may be asked -/
structure LimOk (x : Int × Int × Int × Int × Int) : Prop where
  a1 : 6 ≤ x.1
  a2 : x.1 ≤ x.2.1
  a3 : x.2.1 ≤ 120
  a4 : x.2.1 ≤ x.1 + 30
  b1 : 6 ≤ x.2.2.1
  b2 : x.2.2.1 ≤ x.2.2.2.1
  b3 : x.2.2.2.1 ≤ 120
  b4 : x.2.2.2.1 ≤ x.2.2.1 + 30
  s1 : 1 ≤ x.2.2.2.2
  s2 : x.2.2.2.2 ≤ 3
theorem spanI_eq (a b : Int) : ∃ v, spanI (a, b) = some v ∧ (v = true ↔ 6 ≤ a ∧ a ≤ b ∧ b ≤ 120 ∧ b ≤ a + 30) := by
  unfold spanI
  dsimp only
  by_cases h1 : 6 ≤ a
  · rw [br_t (by simpa using h1)]
    by_cases h2 : b ≤ 120
    · rw [br_t (by simpa using h2)]
      by_cases h3 : a ≤ b
      · rw [br_t (by simpa using h3)]
        rw [w64 (by omega) (by omega)]
        exact ⟨_, rfl, by simp; omega⟩
      · rw [br_f (by simpa using h3)]
        exact ⟨_, rfl, by simp; omega⟩
    · rw [br_f (by simpa using h2)]
      exact ⟨_, rfl, by simp; omega⟩
  · rw [br_f (by simpa using h1)]
    exact ⟨_, rfl, by simp; omega⟩
theorem validLim_eq (x : Int × Int × Int × Int × Int) : ∃ v, validLimI x = some v ∧ (v = true ↔ LimOk x) := by
  obtain ⟨a, b, c, d, s⟩ := x
  unfold validLimI
  dsimp only
  obtain ⟨v1, e1, h1⟩ := spanI_eq a b
  obtain ⟨v2, e2, h2⟩ := spanI_eq c d
  rw [e1, ob_s]
  cases v1 with
  | false =>
    rw [br_f rfl]
    exact ⟨_, rfl, ⟨fun h => (by cases h), fun h => h1.2 ⟨h.a1, h.a2, h.a3, h.a4⟩⟩⟩
  | true =>
    rw [br_t rfl, e2, ob_s]
    have g1 := h1.1 rfl
    cases v2 with
    | false =>
      rw [br_f rfl]
      exact ⟨_, rfl, ⟨fun h => (by cases h), fun h => h2.2 ⟨h.b1, h.b2, h.b3, h.b4⟩⟩⟩
    | true =>
      rw [br_t rfl, within_eq, ob_s]
      have g2 := h2.1 rfl
      refine ⟨_, rfl, ⟨fun h => ?_, fun h => ?_⟩⟩
      · simp at h
        exact ⟨g1.1, g1.2.1, g1.2.2.1, g1.2.2.2, g2.1, g2.2.1, g2.2.2.1, g2.2.2.2, h.1, h.2⟩
      · have h1 := h.s1; have h2 := h.s2
        simp; exact ⟨h1, h2⟩
def askB (r : Int × Int) : Bool := decide (1 ≤ r.1) && decide (r.1 ≤ 1000000) && decide (r.2 ≤ 1000000)
def codeA (r : Int × Int) (v : Bool) : Int := if vR r && v then (if askB r then 0 else 2) else 1
theorem askS_eq (r : Int × Int) : askS r = some (askB r) := by
  unfold askS askB
  rw [in_eq, within_eq, ob_s]
  cases (decide (1 ≤ r.1) && decide (r.1 ≤ 1000000)) <;> rfl
theorem askI_eq (r : Int × Int) {x : Int × Int × Int × Int × Int} {v : Bool} (hv : validLimI x = some v) : askI (r, x) = some (codeA r v) := by
  unfold askI codeA askB
  rw [show validLimI ((r, x).2.1, (r, x).2.2.1, (r, x).2.2.2.1, (r, x).2.2.2.2.1, (r, x).2.2.2.2.2) = some v from hv, show validRatI ((r, x).1.1, (r, x).1.2) = some (vR r) from validRatI_eq r]
  dsimp only
  rw [ob_s]
  cases vR r with
  | false => rfl
  | true =>
    rw [Bool.not_true, br_f rfl, ob_s]
    cases v with
    | false => rfl
    | true =>
      rw [Bool.not_true, br_f rfl]
      by_cases h1 : r.1 ≤ 0
      · rw [br_t (by simpa using h1), show decide (1 ≤ r.1) = false by simp; omega]; rfl
      · rw [br_f (by simpa using h1), show decide (1 ≤ r.1) = true by simp; omega]
        by_cases h2 : 1000000 < r.1
        · rw [br_t (by simpa using h2), show decide (r.1 ≤ 1000000) = false by simp; omega]; rfl
        · rw [br_f (by simpa using h2), show decide (r.1 ≤ 1000000) = true by simp; omega]
          by_cases h3 : 1000000 < r.2
          · rw [br_t (by simpa using h3), show decide (r.2 ≤ 1000000) = false by simp; omega]; rfl
          · rw [br_f (by simpa using h3), show decide (r.2 ≤ 1000000) = true by simp; omega]; rfl

/-! ### The implementation -/
def cd (N D p : Int) : Bool := (IntKind.i64.wrap (p * D)).tmod N != 0
def qd (N D p : Int) : Int := IntKind.i64.wrap ((IntKind.i64.wrap (p * D)).tdiv N)
section
variable {N D lo hi lo' hi' : Int} {n : Nat} {s1 s2 : List Int × List (Int × List (List Int))}
theorem exactL00_eq (hn : n ≤ 3) {p lp i lA j : Int} {f : List (List (Int × Int))} {a : List Int} {A B : List (List Int)} (ha : IsW lo hi n a) (hB : ∀ b ∈ B, IsW lo' hi' n b) (hl : B.length ≤ 1000000) (hf : f.length ≤ 40) :
    exactL00 ((N, D), s1, s2, f, p, a, (), lp, i, A, lA, j, B, (B.length : Int), 0) =
      some (if (f ++ B.map (canonF a)).length ≤ 40 then .inl ((N, D), s1, s2, f ++ B.map (canonF a), p, a, (), lp, i, A, lA, j, B, (B.length : Int), (B.length : Int)) else .inr ([], 5)) := by
  have := cap_loop (step := exactL00_step) (l := B) (fun k f => ((N, D), s1, s2, f, p, a, (), lp, i, A, lA, j, B, (B.length : Int), k)) (fun b => [canonF a b]) ([], 5)
    (fun f => ((N, D), s1, s2, f, p, a, (), lp, i, A, lA, j, B, (B.length : Int), (B.length : Int))) (fun k f b hk0 hk1 hy hm hf => ?_) (fun f hf => ?_) (n := exactL00_fuel ((N, D), s1, s2, f, p, a, (), lp, i, A, lA, j, B, (B.length : Int), 0)) ?_ (a0 := f) hf
  · rw [flatMap_one] at this
    exact this
  · unfold exactL00_step
    dsimp only
    rw [br_t (by simp; omega), hy, ob_s]
    by_cases h40 : f.length = 40
    · rw [br_t (by simp [h40]), if_neg (by simp [h40])]
    · rw [br_f (by simp; omega), canonI_eq hn ha (hB b hm), ob_s, br_t (by simp; omega), if_pos (by simp; omega), w64 (by omega) (by omega)]
  · unfold exactL00_step
    dsimp only
    rw [br_f (by simp)]
  · show B.length < ((B.length : Int) - 0).toNat + 1
    omega
theorem exactL0_eq (hN : N ≠ 0) (hn : n ≤ 3) {p lp i : Int} {f : List (List (Int × Int))} {A : List (List Int)} (hA : ∀ a ∈ A, IsW lo hi n a) (hB : ∀ q, ∀ b ∈ getM s2.2 q, IsW lo' hi' n b) (hl : ∀ q, (getM s2.2 q).length ≤ 1000000) (hlA : A.length ≤ 1000000) (hf : f.length ≤ 40) :
    exactL0 ((N, D), s1, s2, f, p, (), lp, i, A, (A.length : Int), 0) =
      some (if (f ++ A.flatMap fun a => (getM s2.2 (qd N D p)).map (canonF a)).length ≤ 40 then .inl ((N, D), s1, s2, f ++ A.flatMap (fun a => (getM s2.2 (qd N D p)).map (canonF a)), p, (), lp, i, A, (A.length : Int), (A.length : Int)) else .inr ([], 5)) := by
  refine cap_loop (step := exactL0_step) (l := A) (fun k f => ((N, D), s1, s2, f, p, (), lp, i, A, (A.length : Int), k)) (fun a => (getM s2.2 (qd N D p)).map (canonF a)) ([], 5)
    (fun f => ((N, D), s1, s2, f, p, (), lp, i, A, (A.length : Int), (A.length : Int))) (fun k f b hk0 hk1 hy hm hf => ?_) (fun f hf => ?_) (n := exactL0_fuel ((N, D), s1, s2, f, p, (), lp, i, A, (A.length : Int), 0)) ?_ (a0 := f) hf
  · unfold exactL0_step
    dsimp only
    rw [br_t (by simp; omega), hy, ob_s, br_f (by simpa using hN)]
    rw [show IntKind.i64.wrap ((IntKind.i64.wrap (p * D)).tdiv N) = qd N D p from rfl]
    have e := exactL00_eq (N := N) (D := D) (s1 := (s1.1, s1.2)) (s2 := (s2.1, s2.2)) hn (p := p) (lp := lp) (i := i) (lA := (A.length : Int)) (j := k) (A := A) (hA b hm) (hB (qd N D p)) (hl _) hf
    rw [e, ob_s]
    by_cases hc : (f ++ (getM s2.2 (qd N D p)).map (canonF b)).length ≤ 40
    · rw [if_pos hc, if_pos hc]
      unfold el
      dsimp only
      rw [w64 (by omega) (by omega)]
    · rw [if_neg hc, if_neg hc]
      rfl
  · unfold exactL0_step
    dsimp only
    rw [br_f (by simp)]
  · show A.length < ((A.length : Int) - 0).toNat + 1
    omega
def grpI (N D : Int) (s1 s2 : List Int × List (Int × List (List Int))) (p : Int) : List (List (Int × Int)) :=
  if cd N D p then [] else (getM s1.2 p).flatMap fun a => (getM s2.2 (qd N D p)).map (canonF a)
theorem exactL_eq (hN : N ≠ 0) (hn : n ≤ 3) (hA : ∀ q, ∀ a ∈ getM s1.2 q, IsW lo hi n a) (hB : ∀ q, ∀ b ∈ getM s2.2 q, IsW lo' hi' n b) (hl1 : ∀ q, (getM s1.2 q).length ≤ 1000000) (hl2 : ∀ q, (getM s2.2 q).length ≤ 1000000) (hp : s1.1.length ≤ 1000000) :
    exactL ((N, D), s1, s2, [], (), (s1.1.length : Int), 0) =
      some (if (s1.1.flatMap (grpI N D s1 s2)).length ≤ 40 then .inl ((N, D), s1, s2, s1.1.flatMap (grpI N D s1 s2), (), (s1.1.length : Int), (s1.1.length : Int)) else .inr ([], 5)) := by
  refine cap_loop (step := exactL_step) (l := s1.1) (fun k f => ((N, D), s1, s2, f, (), (s1.1.length : Int), k)) (grpI N D s1 s2) ([], 5)
    (fun f => ((N, D), s1, s2, f, (), (s1.1.length : Int), (s1.1.length : Int))) (fun k f p hk0 hk1 hy hm hf => ?_) (fun f hf => ?_) (n := exactL_fuel ((N, D), s1, s2, [], (), (s1.1.length : Int), 0)) ?_ (a0 := []) (by simp)
  · have hy2 : s1.1[k.toNat]? = some p := by
      unfold idx at hy
      rw [if_pos hk0] at hy
      exact hy
    unfold exactL_step
    dsimp only
    rw [br_t (by simp; omega), hy, ob_s, gi, hy2, ob_s, br_f (by simpa using hN), show ((IntKind.i64.wrap (p * D)).tmod N != 0) = cd N D p from rfl]
    cases hc : cd N D p with
    | true =>
      rw [show grpI N D s1 s2 p = [] by unfold grpI; rw [hc]; rfl, br_t rfl, List.append_nil, if_pos hf, w64 (by omega) (by omega)]
    | false =>
      rw [br_f rfl, show grpI N D s1 s2 p = (getM s1.2 p).flatMap fun a => (getM s2.2 (qd N D p)).map (canonF a) by unfold grpI; rw [hc]; rfl]
      have e := exactL0_eq (D := D) (s1 := (s1.1, s1.2)) (s2 := (s2.1, s2.2)) hN hn (p := p) (lp := (s1.1.length : Int)) (i := k) (hA p) hB hl2 (hl1 p) hf
      rw [e, ob_s]
      by_cases hc : (f ++ (getM s1.2 p).flatMap fun a => (getM s2.2 (qd N D p)).map (canonF a)).length ≤ 40
      · rw [if_pos hc, if_pos hc]
        unfold el
        dsimp only
        rw [w64 (by omega) (by omega)]
      · rw [if_neg hc, if_neg hc]
        rfl
  · unfold exactL_step
    dsimp only
    rw [br_f (by simp)]
  · show s1.1.length < ((s1.1.length : Int) - 0).toNat + 1
    omega
end
end
end Rx
end Go.Proofs.YthfgpnpoocepeaaGreat

namespace Go.Proofs.YthfgpnpoocepeaaGreat
namespace Rx
open Go

noncomputable section
def stg (x : Int × Int × Int × Int × Int) : Nat := x.2.2.2.2.toNat
def wh1 (x : Int × Int × Int × Int × Int) : List (List Int) := wheels x.1 x.2.1 (stg x)
def wh2 (x : Int × Int × Int × Int × Int) : List (List Int) := wheels x.2.2.1 x.2.2.2.1 (stg x)
def tr1 (r : Int × Int) (x : Int × Int × Int × Int × Int) (a : List Int) : List (List (Int × Int)) :=
  if cd r.1 r.2 (prodW a) then [] else ((wh2 x).filter fun b => prodW b == qd r.1 r.2 (prodW a)).map (canonF a)
/-- All exact trains. -/
def trainsOf (r : Int × Int) (x : Int × Int × Int × Int × Int) : List (List (Int × Int)) := (wh1 x).flatMap (tr1 r x)
section
variable {r : Int × Int} {x : Int × Int × Int × Int × Int}
theorem LimOk.stg (h : LimOk x) : ((stg x : Nat) : Int) = x.2.2.2.2 ∧ Rx.stg x ≤ 3 ∧ 1 ≤ Rx.stg x := by
  have := h.s1; have := h.s2
  unfold Rx.stg
  omega
theorem wh_len (h : LimOk x) : (wh1 x).length ≤ 100000 ∧ (wh2 x).length ≤ 100000 := by
  obtain ⟨_, h1, _⟩ := h.stg
  have e1 := wheels_len h.a4 (stg x)
  have e2 := wheels_len h.b4 (stg x)
  have : 31 ^ stg x ≤ 100000 := by
    rcases (by omega : stg x = 0 ∨ stg x = 1 ∨ stg x = 2 ∨ stg x = 3) with e | e | e | e <;> rw [e] <;> decide
  unfold wh1 wh2
  omega
theorem mem_trains {t : List (Int × Int)} (h : t ∈ trainsOf r x) : ∃ a ∈ wh1 x, ∃ b ∈ wh2 x, cd r.1 r.2 (prodW a) = false ∧ prodW b = qd r.1 r.2 (prodW a) ∧ t = canonF a b := by
  unfold trainsOf at h
  obtain ⟨a, ha, h⟩ := List.mem_flatMap.1 h
  unfold tr1 at h
  cases hc : cd r.1 r.2 (prodW a) with
  | true => rw [hc, if_pos rfl] at h; cases h
  | false =>
    rw [hc, if_neg (by simp)] at h
    obtain ⟨b, hb, rfl⟩ := List.mem_map.1 h
    have hb := List.mem_filter.1 hb
    exact ⟨a, ha, b, hb.1, hc, by simpa using hb.2, rfl⟩
theorem wh1_is {a : List Int} (h : a ∈ wh1 x) : IsW x.1 x.2.1 (stg x) a := wheels_is h
theorem wh2_is {a : List Int} (h : a ∈ wh2 x) : IsW x.2.2.1 x.2.2.2.1 (stg x) a := wheels_is h
theorem canon_len (hx : LimOk x) {a b : List Int} (ha : a ∈ wh1 x) (hb : b ∈ wh2 x) : (canonF a b).length = stg x := by
  have h1 := (wh1_is ha).len; have h2 := (wh2_is hb).len
  rw [canonF_len (by omega)]; exact h1
theorem trains_len (hx : LimOk x) {t : List (Int × Int)} (h : t ∈ trainsOf r x) : t.length = stg x := by
  obtain ⟨a, ha, b, hb, _, _, rfl⟩ := mem_trains h
  exact canon_len hx ha hb

/-! ### The implementation -/
theorem sets_both (hx : LimOk x) : ∃ s1 s2, setsI (x.1, x.2.1, x.2.2.2.2) = some s1 ∧ setsI (x.2.2.1, x.2.2.2.1, x.2.2.2.2) = some s2 ∧ Sets (wh1 x) s1 ∧ Sets (wh2 x) s2 := by
  obtain ⟨e, h3, h1⟩ := hx.stg
  have a1 := hx.a1; have b1 := hx.b1
  obtain ⟨s1, e1, g1⟩ := setsI_eq (lo := x.1) (hi := x.2.1) (by omega) hx.a3 hx.a4 h3
  obtain ⟨s2, e2, g2⟩ := setsI_eq (lo := x.2.2.1) (hi := x.2.2.2.1) (by omega) hx.b3 hx.b4 h3
  rw [e] at e1 e2
  exact ⟨s1, s2, e1, e2, g1, g2⟩
theorem get_len {W : List (List Int)} {s : List Int × List (Int × List (List Int))} (h : Sets W s) (q : Int) : (getM s.2 q).length ≤ W.length := by
  rw [h.get]; exact List.length_filter_le _ _
theorem nodup_len {α : Type} [DecidableEq α] {l m : List α} (hn : l.Nodup) (h : ∀ y ∈ l, y ∈ m) : l.length ≤ m.length := by
  induction l generalizing m with
  | nil => simp
  | cons y l ih =>
    have hn' := List.nodup_cons.1 hn
    have hy := h y (by simp)
    have := ih (m := m.erase y) hn'.2 fun z hz => (List.mem_erase_of_ne (by rintro rfl; exact hn'.1 hz)).2 (h z (by simp [hz]))
    rw [List.length_erase_of_mem hy] at this
    have := List.length_pos_of_mem hy
    rw [List.length_cons]; omega
theorem prods_len {W : List (List Int)} {s : List Int × List (Int × List (List Int))} (h : Sets W s) : s.1.length ≤ W.length := by
  have := nodup_len (m := W.map prodW) h.nodup fun y hy => by
    obtain ⟨l, hl, e⟩ := (h.mem y).1 hy
    exact List.mem_map.2 ⟨l, hl, e⟩
  rwa [List.length_map] at this
theorem grp_perm {s1 s2 : List Int × List (Int × List (List Int))} (h1 : Sets (wh1 x) s1) (h2 : Sets (wh2 x) s2) : (s1.1.flatMap (grpI r.1 r.2 s1 s2)).Perm (trainsOf r x) := by
  have e : s1.1.flatMap (grpI r.1 r.2 s1 s2) = s1.1.flatMap fun p => ((wh1 x).filter fun a => prodW a == p).flatMap (tr1 r x) := by
    refine flatMap_congr' fun p hp => ?_
    unfold grpI
    rw [h1.get]
    cases hc : cd r.1 r.2 p with
    | true =>
      rw [if_pos rfl]
      symm
      rw [List.flatMap_eq_nil_iff]
      intro a ha
      have : prodW a = p := by simpa using (List.mem_filter.1 ha).2
      unfold tr1
      rw [this, hc, if_pos rfl]
    | false =>
      rw [if_neg (by simp)]
      refine flatMap_congr' fun a ha => ?_
      have : prodW a = p := by simpa using (List.mem_filter.1 ha).2
      unfold tr1
      rw [this, hc, if_neg (by simp), h2.get]
  rw [e]
  exact group_perm prodW (tr1 r x) h1.nodup fun a ha => (h1.mem _).2 ⟨a, ha, rfl⟩
theorem exactI_law (hx : LimOk x) (hN : r.1 ≠ 0) (hc : askI (r, x) = some 0) : ∃ T : List (List (Int × Int)), T.Perm (trainsOf r x) ∧ exactI (r, x) = some (if T.length ≤ 40 then (T.mergeSort leT, 0) else ([], 5)) := by
  obtain ⟨s1, s2, e1, e2, g1, g2⟩ := sets_both hx
  obtain ⟨_, h3, _⟩ := hx.stg
  obtain ⟨l1, l2⟩ := wh_len hx
  have hp := grp_perm (r := r) g1 g2
  refine ⟨_, hp, ?_⟩
  unfold exactI
  rw [show askI (((r, x).1.1, (r, x).1.2), (r, x).2.1, (r, x).2.2.1, (r, x).2.2.2.1, (r, x).2.2.2.2.1, (r, x).2.2.2.2.2) = some 0 from hc, ob_s, br_f (by rfl)]
  dsimp only
  rw [e1, ob_s, e2, ob_s]
  have e := exactL_eq (N := r.1) (D := r.2) (s1 := s1) (s2 := s2) (n := stg x) hN h3 (fun q a ha => by rw [g1.get] at ha; exact wh1_is (List.mem_filter.1 ha).1) (fun q a ha => by rw [g2.get] at ha; exact wh2_is (List.mem_filter.1 ha).1)
    (fun q => by have := get_len g1 q; omega) (fun q => by have := get_len g2 q; omega) (by have := prods_len g1; omega)
  rw [show exactL ((r.1, r.2), (s1.1, s1.2), (s2.1, s2.2), [], PUnit.unit, ((List.length s1.1 : Nat) : Int), 0) = _ from e, ob_s]
  by_cases h40 : (s1.1.flatMap (grpI r.1 r.2 s1 s2)).length ≤ 40
  · rw [if_pos h40, if_pos h40]
    unfold el
    dsimp only
    unfold sortTr
    dsimp only
    rw [br_t (by simp only [decide_eq_true_eq]; omega), br_t ?_, ob_s]
    rw [List.all_eq_true]
    intro t ht
    have := trains_len hx (hp.mem_iff.1 ht)
    simp only [decide_eq_true_eq]
    omega
  · rw [if_neg h40, if_neg h40]
    rfl

/-! ### The reference -/
def ascT (l : List (List (Int × Int))) : Prop := l.Pairwise fun a b => leT a b = true
theorem cmpTrS_T {a b : List (Int × Int)} (ha : a.length ≤ 3) (hb : b.length ≤ 3) : cmpTrS (a, b) = some (cmpT a b) := cmpTrS_eq (by omega) (by omega)
end
end
end Rx
end Go.Proofs.YthfgpnpoocepeaaGreat
