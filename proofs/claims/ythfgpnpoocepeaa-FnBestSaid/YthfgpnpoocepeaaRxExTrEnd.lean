/- The exact trains in plain terms: a loop with a cap, groups by products. No program in sight. -/
import Derived.Test.YthfgpnpoocepeaaRxProdLaw
import Derived.Test.YthfgpnpoocepeaaRxScan
namespace Go.Proofs.Ythfgpnpoocepeaa
namespace Rx
open Go

noncomputable section
/-! ### A loop that gives up at the 41st -/
theorem cap_loop {α β σ τ : Type} {step : σ → Option (LS σ τ)} {l : List α} (st : Int → List β → σ) (g : α → List β) (ρ : τ) (fin : List β → σ)
    (hn : ∀ (i : Int) (a : List β) (y : α), 0 ≤ i → i < l.length → idx l i = some y → y ∈ l → a.length ≤ 40 → step (st i a) = some (if (a ++ g y).length ≤ 40 then .next (st (i + 1) (a ++ g y)) else .ret ρ))
    (ho : ∀ a, a.length ≤ 40 → step (st l.length a) = some (.out (fin a))) {n : Nat} (hf : l.length < n) {a0 : List β} (h0 : a0.length ≤ 40) :
    iterA step n (st 0 a0) = some (if (a0 ++ l.flatMap g).length ≤ 40 then .inl (fin (a0 ++ l.flatMap g)) else .inr ρ) := by
  have key : ∀ (n : Nat) (i : Nat) (a : List β), i ≤ l.length → l.length - i < n → a.length ≤ 40 → iterA step n (st i a) = some (if (a ++ (l.drop i).flatMap g).length ≤ 40 then .inl (fin (a ++ (l.drop i).flatMap g)) else .inr ρ) := by
    intro n
    induction n with
    | zero => intro i _ _ h; omega
    | succ n ih =>
      intro i a hi h hJ
      show ob (step (st i a)) _ = _
      by_cases hlt : i < l.length
      · rw [List.drop_eq_getElem_cons hlt, List.flatMap_cons, ← List.append_assoc]
        have e := hn i a l[i] (by omega) (by omega) (get_idx hlt) (List.getElem_mem hlt) hJ
        rw [e]
        by_cases hc : (a ++ g l[i]).length ≤ 40
        · rw [if_pos hc]
          exact ih (i + 1) _ (by omega) (by omega) hc
        · rw [if_neg hc, if_neg (by simp only [List.length_append] at hc ⊢; omega)]
          rfl
      · have : i = l.length := by omega
        subst this
        rw [ho a hJ, List.drop_length, List.flatMap_nil, List.append_nil, if_pos hJ]
        rfl
  exact key n 0 a0 (by omega) (by omega) h0
theorem flatMap_one {α β : Type} (f : α → β) : ∀ l : List α, l.flatMap (fun b => [f b]) = l.map f
  | [] => rfl
  | x :: l => by rw [List.flatMap_cons, flatMap_one f l]; rfl

/-! ### Groups -/
theorem flatMap_split {α β : Type} (f g : α → List β) : ∀ l : List α, (l.flatMap fun p => f p ++ g p).Perm (l.flatMap f ++ l.flatMap g)
  | [] => by simp
  | x :: l => by
    rw [List.flatMap_cons, List.flatMap_cons, List.flatMap_cons, List.append_assoc, List.append_assoc]
    refine List.Perm.append_left _ ?_
    refine ((flatMap_split f g l).append_left _).trans ?_
    rw [← List.append_assoc, ← List.append_assoc]
    exact List.perm_append_comm.append_right _
theorem flatMap_at {β : Type} {q : Int} (h : List β) : ∀ {ps : List Int}, ps.Nodup → q ∈ ps → (ps.flatMap fun p => if q = p then h else []) = h
  | [], _, hm => by cases hm
  | p :: ps, hn, hm => by
    rw [List.flatMap_cons]
    have hn' := List.nodup_cons.1 hn
    by_cases e : q = p
    · subst e
      rw [if_pos rfl]
      have : (ps.flatMap fun p => if q = p then h else []) = [] := by
        rw [List.flatMap_eq_nil_iff]
        intro y hy
        rw [if_neg]
        rintro rfl
        exact hn'.1 hy
      rw [this, List.append_nil]
    · rw [if_neg e, List.nil_append]
      rcases List.mem_cons.1 hm with h1 | h1
      · exact absurd h1 e
      · exact flatMap_at h hn'.2 h1
/-- Group by group or one by one: the same elements. -/
theorem group_perm {α β : Type} (key : α → Int) (h : α → List β) {ps : List Int} (hn : ps.Nodup) : ∀ {W : List α}, (∀ a ∈ W, key a ∈ ps) → (ps.flatMap fun p => (W.filter fun a => key a == p).flatMap h).Perm (W.flatMap h)
  | [], _ => by simp
  | a :: W, hW => by
    have e : (fun p => ((a :: W).filter fun a => key a == p).flatMap h) = fun p => (if key a = p then h a else []) ++ (W.filter fun a => key a == p).flatMap h := by
      funext p
      rw [List.filter_cons]
      by_cases hp : key a = p
      · rw [if_pos (by simpa using hp), if_pos hp]; rfl
      · rw [if_neg (by simpa using hp), if_neg hp]; rfl
    rw [e, List.flatMap_cons]
    refine (flatMap_split _ _ ps).trans ?_
    rw [flatMap_at _ hn (hW a (by simp))]
    exact List.Perm.append_left _ (group_perm key h hn fun b hb => hW b (by simp [hb]))
theorem flatMap_congr' {α β : Type} {f g : α → List β} : ∀ {l : List α}, (∀ x ∈ l, f x = g x) → l.flatMap f = l.flatMap g
  | [], _ => rfl
  | x :: l, h => by rw [List.flatMap_cons, List.flatMap_cons, h x (by simp), flatMap_congr' fun y hy => h y (by simp [hy])]
theorem flatMap_perm {α β : Type} {f g : α → List β} : ∀ {l : List α}, (∀ x ∈ l, (f x).Perm (g x)) → (l.flatMap f).Perm (l.flatMap g)
  | [], _ => .refl _
  | x :: l, h => by
    rw [List.flatMap_cons, List.flatMap_cons]
    exact (h x (by simp)).append (flatMap_perm fun y hy => h y (by simp [hy]))

/-! ### In ascending order -/
theorem filter_take {l : List (Int × List Int)} (hs : ascP l) {v : Int} {k : Nat} (hk : k ≤ l.length) (h1 : ∀ y ∈ l.drop k, v < y.1) : l.filter (fun d => d.1 == v) = (l.take k).filter (fun d => d.1 == v) := by
  conv => lhs; rw [← List.take_append_drop k l]
  rw [List.filter_append]
  have : (l.drop k).filter (fun d => d.1 == v) = [] := by
    rw [List.filter_eq_nil_iff]
    intro y hy
    have := h1 y hy
    simp; omega
  rw [this, List.append_nil]
end
end Rx
end Go.Proofs.Ythfgpnpoocepeaa

namespace Go.Proofs.Ythfgpnpoocepeaa
namespace Rx
open Go

noncomputable section
/-! ### What may be asked -/
structure LimOk (x : Int × Int × Int × Int × Int) : Prop where
  a1 : 6 ≤ x.1
  a2 : x.1 ≤ x.2.1
  a3 : x.2.1 ≤ 120
  a4 : x.2.1 ≤ x.1 + 30
  b1 : 6 ≤ x.2.2.1
  b2 : x.2.2.1 ≤ x.2.2.2.1
  b3 : x.2.2.2.1 ≤ 120
  b4 : x.2.2.2.1 ≤ x.2.2.1 + 30
  s1 : 1 ≤ x.2.2.2.2
  s2 : x.2.2.2.2 ≤ 3
theorem spanI_eq (a b : Int) : ∃ v, spanI (a, b) = some v ∧ (v = true ↔ 6 ≤ a ∧ a ≤ b ∧ b ≤ 120 ∧ b ≤ a + 30) := by
  unfold spanI
  dsimp only
  by_cases h1 : 6 ≤ a
  · rw [br_t (by simpa using h1)]
    by_cases h2 : b ≤ 120
    · rw [br_t (by simpa using h2)]
      by_cases h3 : a ≤ b
      · rw [br_t (by simpa using h3)]
        rw [w64 (by omega) (by omega)]
        exact ⟨_, rfl, by simp; omega⟩
      · rw [br_f (by simpa using h3)]
        exact ⟨_, rfl, by simp; omega⟩
    · rw [br_f (by simpa using h2)]
      exact ⟨_, rfl, by simp; omega⟩
  · rw [br_f (by simpa using h1)]
    exact ⟨_, rfl, by simp; omega⟩
theorem validLim_eq (x : Int × Int × Int × Int × Int) : ∃ v, validLimI x = some v ∧ (v = true ↔ LimOk x) := by
  obtain ⟨a, b, c, d, s⟩ := x
  unfold validLimI
  dsimp only
  obtain ⟨v1, e1, h1⟩ := spanI_eq a b
  obtain ⟨v2, e2, h2⟩ := spanI_eq c d
  rw [e1, ob_s]
  cases v1 with
  | false =>
    rw [br_f rfl]
    exact ⟨_, rfl, ⟨fun h => (by cases h), fun h => h1.2 ⟨h.a1, h.a2, h.a3, h.a4⟩⟩⟩
  | true =>
    rw [br_t rfl, e2, ob_s]
    have g1 := h1.1 rfl
    cases v2 with
    | false =>
      rw [br_f rfl]
      exact ⟨_, rfl, ⟨fun h => (by cases h), fun h => h2.2 ⟨h.b1, h.b2, h.b3, h.b4⟩⟩⟩
    | true =>
      rw [br_t rfl, within_eq, ob_s]
      have g2 := h2.1 rfl
      refine ⟨_, rfl, ⟨fun h => ?_, fun h => ?_⟩⟩
      · simp at h
        exact ⟨g1.1, g1.2.1, g1.2.2.1, g1.2.2.2, g2.1, g2.2.1, g2.2.2.1, g2.2.2.2, h.1, h.2⟩
      · have h1 := h.s1; have h2 := h.s2
        simp; exact ⟨h1, h2⟩
def askB (r : Int × Int) : Bool := decide (1 ≤ r.1) && decide (r.1 ≤ 1000000) && decide (r.2 ≤ 1000000)
def codeA (r : Int × Int) (v : Bool) : Int := if vR r && v then (if askB r then 0 else 2) else 1
theorem askS_eq (r : Int × Int) : askS r = some (askB r) := by
  unfold askS askB
  rw [in_eq, within_eq, ob_s]
  cases (decide (1 ≤ r.1) && decide (r.1 ≤ 1000000)) <;> rfl
theorem askI_eq (r : Int × Int) {x : Int × Int × Int × Int × Int} {v : Bool} (hv : validLimI x = some v) : askI (r, x) = some (codeA r v) := by
  unfold askI codeA askB
  rw [show validLimI ((r, x).2.1, (r, x).2.2.1, (r, x).2.2.2.1, (r, x).2.2.2.2.1, (r, x).2.2.2.2.2) = some v from hv, show validRatI ((r, x).1.1, (r, x).1.2) = some (vR r) from validRatI_eq r]
  dsimp only
  rw [ob_s]
  cases vR r with
  | false => rfl
  | true =>
    rw [Bool.not_true, br_f rfl, ob_s]
    cases v with
    | false => rfl
    | true =>
      rw [Bool.not_true, br_f rfl]
      by_cases h1 : r.1 ≤ 0
      · rw [br_t (by simpa using h1), show decide (1 ≤ r.1) = false by simp; omega]; rfl
      · rw [br_f (by simpa using h1), show decide (1 ≤ r.1) = true by simp; omega]
        by_cases h2 : 1000000 < r.1
        · rw [br_t (by simpa using h2), show decide (r.1 ≤ 1000000) = false by simp; omega]; rfl
        · rw [br_f (by simpa using h2), show decide (r.1 ≤ 1000000) = true by simp; omega]
          by_cases h3 : 1000000 < r.2
          · rw [br_t (by simpa using h3), show decide (r.2 ≤ 1000000) = false by simp; omega]; rfl
          · rw [br_f (by simpa using h3), show decide (r.2 ≤ 1000000) = true by simp; omega]; rfl

/-! ### The implementation -/
def cd (N D p : Int) : Bool := (IntKind.i64.wrap (p * D)).tmod N != 0
def qd (N D p : Int) : Int := IntKind.i64.wrap ((IntKind.i64.wrap (p * D)).tdiv N)
section
variable {N D lo hi lo' hi' : Int} {n : Nat} {s1 s2 : List Int × List (Int × List (List Int))}
theorem exactL00_eq (hn : n ≤ 3) {p lp i lA j : Int} {f : List (List (Int × Int))} {a : List Int} {A B : List (List Int)} (ha : IsW lo hi n a) (hB : ∀ b ∈ B, IsW lo' hi' n b) (hl : B.length ≤ 1000000) (hf : f.length ≤ 40) :
    exactL00 ((N, D), s1, s2, f, p, a, (), lp, i, A, lA, j, B, (B.length : Int), 0) =
      some (if (f ++ B.map (canonF a)).length ≤ 40 then .inl ((N, D), s1, s2, f ++ B.map (canonF a), p, a, (), lp, i, A, lA, j, B, (B.length : Int), (B.length : Int)) else .inr ([], 5)) := by
  have := cap_loop (step := exactL00_step) (l := B) (fun k f => ((N, D), s1, s2, f, p, a, (), lp, i, A, lA, j, B, (B.length : Int), k)) (fun b => [canonF a b]) ([], 5)
    (fun f => ((N, D), s1, s2, f, p, a, (), lp, i, A, lA, j, B, (B.length : Int), (B.length : Int))) (fun k f b hk0 hk1 hy hm hf => ?_) (fun f hf => ?_) (n := exactL00_fuel ((N, D), s1, s2, f, p, a, (), lp, i, A, lA, j, B, (B.length : Int), 0)) ?_ (a0 := f) hf
  · rw [flatMap_one] at this
    exact this
  · unfold exactL00_step
    dsimp only
    rw [br_t (by simp; omega), hy, ob_s]
    by_cases h40 : f.length = 40
    · rw [br_t (by simp [h40]), if_neg (by simp [h40])]
    · rw [br_f (by simp; omega), canonI_eq hn ha (hB b hm), ob_s, br_t (by simp; omega), if_pos (by simp; omega), w64 (by omega) (by omega)]
  · unfold exactL00_step
    dsimp only
    rw [br_f (by simp)]
  · show B.length < ((B.length : Int) - 0).toNat + 1
    omega
theorem exactL0_eq (hN : N ≠ 0) (hn : n ≤ 3) {p lp i : Int} {f : List (List (Int × Int))} {A : List (List Int)} (hA : ∀ a ∈ A, IsW lo hi n a) (hB : ∀ q, ∀ b ∈ getM s2.2 q, IsW lo' hi' n b) (hl : ∀ q, (getM s2.2 q).length ≤ 1000000) (hlA : A.length ≤ 1000000) (hf : f.length ≤ 40) :
    exactL0 ((N, D), s1, s2, f, p, (), lp, i, A, (A.length : Int), 0) =
      some (if (f ++ A.flatMap fun a => (getM s2.2 (qd N D p)).map (canonF a)).length ≤ 40 then .inl ((N, D), s1, s2, f ++ A.flatMap (fun a => (getM s2.2 (qd N D p)).map (canonF a)), p, (), lp, i, A, (A.length : Int), (A.length : Int)) else .inr ([], 5)) := by
  refine cap_loop (step := exactL0_step) (l := A) (fun k f => ((N, D), s1, s2, f, p, (), lp, i, A, (A.length : Int), k)) (fun a => (getM s2.2 (qd N D p)).map (canonF a)) ([], 5)
    (fun f => ((N, D), s1, s2, f, p, (), lp, i, A, (A.length : Int), (A.length : Int))) (fun k f b hk0 hk1 hy hm hf => ?_) (fun f hf => ?_) (n := exactL0_fuel ((N, D), s1, s2, f, p, (), lp, i, A, (A.length : Int), 0)) ?_ (a0 := f) hf
  · unfold exactL0_step
    dsimp only
    rw [br_t (by simp; omega), hy, ob_s, br_f (by simpa using hN)]
    rw [show IntKind.i64.wrap ((IntKind.i64.wrap (p * D)).tdiv N) = qd N D p from rfl]
    have e := exactL00_eq (N := N) (D := D) (s1 := (s1.1, s1.2)) (s2 := (s2.1, s2.2)) hn (p := p) (lp := lp) (i := i) (lA := (A.length : Int)) (j := k) (A := A) (hA b hm) (hB (qd N D p)) (hl _) hf
    rw [e, ob_s]
    by_cases hc : (f ++ (getM s2.2 (qd N D p)).map (canonF b)).length ≤ 40
    · rw [if_pos hc, if_pos hc]
      unfold el
      dsimp only
      rw [w64 (by omega) (by omega)]
    · rw [if_neg hc, if_neg hc]
      rfl
  · unfold exactL0_step
    dsimp only
    rw [br_f (by simp)]
  · show A.length < ((A.length : Int) - 0).toNat + 1
    omega
def grpI (N D : Int) (s1 s2 : List Int × List (Int × List (List Int))) (p : Int) : List (List (Int × Int)) :=
  if cd N D p then [] else (getM s1.2 p).flatMap fun a => (getM s2.2 (qd N D p)).map (canonF a)
theorem exactL_eq (hN : N ≠ 0) (hn : n ≤ 3) (hA : ∀ q, ∀ a ∈ getM s1.2 q, IsW lo hi n a) (hB : ∀ q, ∀ b ∈ getM s2.2 q, IsW lo' hi' n b) (hl1 : ∀ q, (getM s1.2 q).length ≤ 1000000) (hl2 : ∀ q, (getM s2.2 q).length ≤ 1000000) (hp : s1.1.length ≤ 1000000) :
    exactL ((N, D), s1, s2, [], (), (s1.1.length : Int), 0) =
      some (if (s1.1.flatMap (grpI N D s1 s2)).length ≤ 40 then .inl ((N, D), s1, s2, s1.1.flatMap (grpI N D s1 s2), (), (s1.1.length : Int), (s1.1.length : Int)) else .inr ([], 5)) := by
  refine cap_loop (step := exactL_step) (l := s1.1) (fun k f => ((N, D), s1, s2, f, (), (s1.1.length : Int), k)) (grpI N D s1 s2) ([], 5)
    (fun f => ((N, D), s1, s2, f, (), (s1.1.length : Int), (s1.1.length : Int))) (fun k f p hk0 hk1 hy hm hf => ?_) (fun f hf => ?_) (n := exactL_fuel ((N, D), s1, s2, [], (), (s1.1.length : Int), 0)) ?_ (a0 := []) (by simp)
  · have hy2 : s1.1[k.toNat]? = some p := by
      unfold idx at hy
      rw [if_pos hk0] at hy
      exact hy
    unfold exactL_step
    dsimp only
    rw [br_t (by simp; omega), hy, ob_s, gi, hy2, ob_s, br_f (by simpa using hN), show ((IntKind.i64.wrap (p * D)).tmod N != 0) = cd N D p from rfl]
    cases hc : cd N D p with
    | true =>
      rw [show grpI N D s1 s2 p = [] by unfold grpI; rw [hc]; rfl, br_t rfl, List.append_nil, if_pos hf, w64 (by omega) (by omega)]
    | false =>
      rw [br_f rfl, show grpI N D s1 s2 p = (getM s1.2 p).flatMap fun a => (getM s2.2 (qd N D p)).map (canonF a) by unfold grpI; rw [hc]; rfl]
      have e := exactL0_eq (D := D) (s1 := (s1.1, s1.2)) (s2 := (s2.1, s2.2)) hN hn (p := p) (lp := (s1.1.length : Int)) (i := k) (hA p) hB hl2 (hl1 p) hf
      rw [e, ob_s]
      by_cases hc : (f ++ (getM s1.2 p).flatMap fun a => (getM s2.2 (qd N D p)).map (canonF a)).length ≤ 40
      · rw [if_pos hc, if_pos hc]
        unfold el
        dsimp only
        rw [w64 (by omega) (by omega)]
      · rw [if_neg hc, if_neg hc]
        rfl
  · unfold exactL_step
    dsimp only
    rw [br_f (by simp)]
  · show s1.1.length < ((s1.1.length : Int) - 0).toNat + 1
    omega
end
end
end Rx
end Go.Proofs.Ythfgpnpoocepeaa

namespace Go.Proofs.Ythfgpnpoocepeaa
namespace Rx
open Go

noncomputable section
def stg (x : Int × Int × Int × Int × Int) : Nat := x.2.2.2.2.toNat
def wh1 (x : Int × Int × Int × Int × Int) : List (List Int) := wheels x.1 x.2.1 (stg x)
def wh2 (x : Int × Int × Int × Int × Int) : List (List Int) := wheels x.2.2.1 x.2.2.2.1 (stg x)
def tr1 (r : Int × Int) (x : Int × Int × Int × Int × Int) (a : List Int) : List (List (Int × Int)) :=
  if cd r.1 r.2 (prodW a) then [] else ((wh2 x).filter fun b => prodW b == qd r.1 r.2 (prodW a)).map (canonF a)
/-- All exact trains. -/
def trainsOf (r : Int × Int) (x : Int × Int × Int × Int × Int) : List (List (Int × Int)) := (wh1 x).flatMap (tr1 r x)
section
variable {r : Int × Int} {x : Int × Int × Int × Int × Int}
theorem LimOk.stg (h : LimOk x) : ((stg x : Nat) : Int) = x.2.2.2.2 ∧ Rx.stg x ≤ 3 ∧ 1 ≤ Rx.stg x := by
  have := h.s1; have := h.s2
  unfold Rx.stg
  omega
theorem wh_len (h : LimOk x) : (wh1 x).length ≤ 100000 ∧ (wh2 x).length ≤ 100000 := by
  obtain ⟨_, h1, _⟩ := h.stg
  have e1 := wheels_len h.a4 (stg x)
  have e2 := wheels_len h.b4 (stg x)
  have : 31 ^ stg x ≤ 100000 := by
    rcases (by omega : stg x = 0 ∨ stg x = 1 ∨ stg x = 2 ∨ stg x = 3) with e | e | e | e <;> rw [e] <;> decide
  unfold wh1 wh2
  omega
theorem mem_trains {t : List (Int × Int)} (h : t ∈ trainsOf r x) : ∃ a ∈ wh1 x, ∃ b ∈ wh2 x, cd r.1 r.2 (prodW a) = false ∧ prodW b = qd r.1 r.2 (prodW a) ∧ t = canonF a b := by
  unfold trainsOf at h
  obtain ⟨a, ha, h⟩ := List.mem_flatMap.1 h
  unfold tr1 at h
  cases hc : cd r.1 r.2 (prodW a) with
  | true => rw [hc, if_pos rfl] at h; cases h
  | false =>
    rw [hc, if_neg (by simp)] at h
    obtain ⟨b, hb, rfl⟩ := List.mem_map.1 h
    have hb := List.mem_filter.1 hb
    exact ⟨a, ha, b, hb.1, hc, by simpa using hb.2, rfl⟩
theorem wh1_is {a : List Int} (h : a ∈ wh1 x) : IsW x.1 x.2.1 (stg x) a := wheels_is h
theorem wh2_is {a : List Int} (h : a ∈ wh2 x) : IsW x.2.2.1 x.2.2.2.1 (stg x) a := wheels_is h
theorem canon_len (hx : LimOk x) {a b : List Int} (ha : a ∈ wh1 x) (hb : b ∈ wh2 x) : (canonF a b).length = stg x := by
  have h1 := (wh1_is ha).len; have h2 := (wh2_is hb).len
  rw [canonF_len (by omega)]; exact h1
theorem trains_len (hx : LimOk x) {t : List (Int × Int)} (h : t ∈ trainsOf r x) : t.length = stg x := by
  obtain ⟨a, ha, b, hb, _, _, rfl⟩ := mem_trains h
  exact canon_len hx ha hb

/-! ### The implementation -/
theorem sets_both (hx : LimOk x) : ∃ s1 s2, setsI (x.1, x.2.1, x.2.2.2.2) = some s1 ∧ setsI (x.2.2.1, x.2.2.2.1, x.2.2.2.2) = some s2 ∧ Sets (wh1 x) s1 ∧ Sets (wh2 x) s2 := by
  obtain ⟨e, h3, h1⟩ := hx.stg
  have a1 := hx.a1; have b1 := hx.b1
  obtain ⟨s1, e1, g1⟩ := setsI_eq (lo := x.1) (hi := x.2.1) (by omega) hx.a3 hx.a4 h3
  obtain ⟨s2, e2, g2⟩ := setsI_eq (lo := x.2.2.1) (hi := x.2.2.2.1) (by omega) hx.b3 hx.b4 h3
  rw [e] at e1 e2
  exact ⟨s1, s2, e1, e2, g1, g2⟩
theorem get_len {W : List (List Int)} {s : List Int × List (Int × List (List Int))} (h : Sets W s) (q : Int) : (getM s.2 q).length ≤ W.length := by
  rw [h.get]; exact List.length_filter_le _ _
theorem nodup_len {α : Type} [DecidableEq α] {l m : List α} (hn : l.Nodup) (h : ∀ y ∈ l, y ∈ m) : l.length ≤ m.length := by
  induction l generalizing m with
  | nil => simp
  | cons y l ih =>
    have hn' := List.nodup_cons.1 hn
    have hy := h y (by simp)
    have := ih (m := m.erase y) hn'.2 fun z hz => (List.mem_erase_of_ne (by rintro rfl; exact hn'.1 hz)).2 (h z (by simp [hz]))
    rw [List.length_erase_of_mem hy] at this
    have := List.length_pos_of_mem hy
    rw [List.length_cons]; omega
theorem prods_len {W : List (List Int)} {s : List Int × List (Int × List (List Int))} (h : Sets W s) : s.1.length ≤ W.length := by
  have := nodup_len (m := W.map prodW) h.nodup fun y hy => by
    obtain ⟨l, hl, e⟩ := (h.mem y).1 hy
    exact List.mem_map.2 ⟨l, hl, e⟩
  rwa [List.length_map] at this
theorem grp_perm {s1 s2 : List Int × List (Int × List (List Int))} (h1 : Sets (wh1 x) s1) (h2 : Sets (wh2 x) s2) : (s1.1.flatMap (grpI r.1 r.2 s1 s2)).Perm (trainsOf r x) := by
  have e : s1.1.flatMap (grpI r.1 r.2 s1 s2) = s1.1.flatMap fun p => ((wh1 x).filter fun a => prodW a == p).flatMap (tr1 r x) := by
    refine flatMap_congr' fun p hp => ?_
    unfold grpI
    rw [h1.get]
    cases hc : cd r.1 r.2 p with
    | true =>
      rw [if_pos rfl]
      symm
      rw [List.flatMap_eq_nil_iff]
      intro a ha
      have : prodW a = p := by simpa using (List.mem_filter.1 ha).2
      unfold tr1
      rw [this, hc, if_pos rfl]
    | false =>
      rw [if_neg (by simp)]
      refine flatMap_congr' fun a ha => ?_
      have : prodW a = p := by simpa using (List.mem_filter.1 ha).2
      unfold tr1
      rw [this, hc, if_neg (by simp), h2.get]
  rw [e]
  exact group_perm prodW (tr1 r x) h1.nodup fun a ha => (h1.mem _).2 ⟨a, ha, rfl⟩
theorem exactI_law (hx : LimOk x) (hN : r.1 ≠ 0) (hc : askI (r, x) = some 0) : ∃ T : List (List (Int × Int)), T.Perm (trainsOf r x) ∧ exactI (r, x) = some (if T.length ≤ 40 then (T.mergeSort leT, 0) else ([], 5)) := by
  obtain ⟨s1, s2, e1, e2, g1, g2⟩ := sets_both hx
  obtain ⟨_, h3, _⟩ := hx.stg
  obtain ⟨l1, l2⟩ := wh_len hx
  have hp := grp_perm (r := r) g1 g2
  refine ⟨_, hp, ?_⟩
  unfold exactI
  rw [show askI (((r, x).1.1, (r, x).1.2), (r, x).2.1, (r, x).2.2.1, (r, x).2.2.2.1, (r, x).2.2.2.2.1, (r, x).2.2.2.2.2) = some 0 from hc, ob_s, br_f (by rfl)]
  dsimp only
  rw [e1, ob_s, e2, ob_s]
  have e := exactL_eq (N := r.1) (D := r.2) (s1 := s1) (s2 := s2) (n := stg x) hN h3 (fun q a ha => by rw [g1.get] at ha; exact wh1_is (List.mem_filter.1 ha).1) (fun q a ha => by rw [g2.get] at ha; exact wh2_is (List.mem_filter.1 ha).1)
    (fun q => by have := get_len g1 q; omega) (fun q => by have := get_len g2 q; omega) (by have := prods_len g1; omega)
  rw [show exactL ((r.1, r.2), (s1.1, s1.2), (s2.1, s2.2), [], PUnit.unit, ((List.length s1.1 : Nat) : Int), 0) = _ from e, ob_s]
  by_cases h40 : (s1.1.flatMap (grpI r.1 r.2 s1 s2)).length ≤ 40
  · rw [if_pos h40, if_pos h40]
    unfold el
    dsimp only
    unfold sortTr
    dsimp only
    rw [br_t (by simp only [decide_eq_true_eq]; omega), br_t ?_, ob_s]
    rw [List.all_eq_true]
    intro t ht
    have := trains_len hx (hp.mem_iff.1 ht)
    simp only [decide_eq_true_eq]
    omega
  · rw [if_neg h40, if_neg h40]
    rfl

/-! ### The reference -/
def ascT (l : List (List (Int × Int))) : Prop := l.Pairwise fun a b => leT a b = true
theorem cmpTrS_T {a b : List (Int × Int)} (ha : a.length ≤ 3) (hb : b.length ≤ 3) : cmpTrS (a, b) = some (cmpT a b) := cmpTrS_eq (by omega) (by omega)
theorem insertS_law {l : List (List (Int × Int))} {t : List (Int × Int)} (hl : l.length ≤ 1000) (hls : ∀ y ∈ l, y.length ≤ 3) (ht : t.length ≤ 3) (hs : ascT l) : ∃ l', insertS (l, t) = some l' ∧ l'.Perm (l ++ [t]) ∧ ascT l' := by
  have := iterP_end (step := insertSL_step) (fun s => ∃ k : Nat, s = (l, t, (k : Int)) ∧ k ≤ l.length ∧ ∀ y ∈ l.drop k, leT t y = true)
    (fun s => ∃ k : Nat, s = (l, t, (k : Int)) ∧ k ≤ l.length ∧ (∀ y ∈ l.drop k, leT t y = true) ∧ ∀ y ∈ l.take k, leT y t = true)
    (fun s => s.2.2.toNat) ?_ (insertSL_fuel (l, t, (l.length : Int))) (l, t, (l.length : Int)) ⟨l.length, rfl, by omega, by simp⟩ (by show _ < _ + 1; omega)
  · obtain ⟨_, h, k, rfl, h1, h2, h3⟩ := this
    refine ⟨l.take k ++ [t] ++ l.drop k, ?_, ?_, ?_⟩
    · unfold insertS
      dsimp only
      rw [show insertSL (l, t, (l.length : Int)) = _ from h, ob_s]
      dsimp only
      rw [br_t (by simp; omega), show Int.toNat (0 : Int) = 0 from rfl, List.drop_zero, Int.toNat_natCast, Int.toNat_natCast, List.take_length,
        br_t (by simp; omega), br_t (by simp; omega), br_t (by simp; omega), br_t (by simp; omega)]
      rfl
    · rw [List.append_assoc]
      refine (List.Perm.append_left _ List.perm_append_comm).trans ?_
      rw [← List.append_assoc, List.take_append_drop]
    · rw [List.append_assoc]
      refine List.pairwise_append.2 ⟨hs.sublist (List.take_sublist _ _), ?_, fun a ha b hb => ?_⟩
      · rw [List.singleton_append]
        exact List.pairwise_cons.2 ⟨h2, hs.sublist (List.drop_sublist _ _)⟩
      · rcases List.mem_append.1 hb with hb | hb
        · simp at hb; subst hb; exact h3 a ha
        · exact leT_trans (h3 a ha) (h2 b hb)
  · rintro _ ⟨k, rfl, hk, h1⟩
    by_cases h0 : 0 < k
    · have hlt : k - 1 < l.length := by omega
      have e : idx l (IntKind.i64.wrap ((k : Int) - 1)) = some l[k - 1] := by
        rw [w64 (by omega) (by omega), show (k : Int) - 1 = ((k - 1 : Nat) : Int) by omega]
        exact get_idx hlt
      have e2 := cmpTrS_T (hls _ (List.getElem_mem hlt)) ht
      by_cases hc : 0 < cmpT l[k - 1] t
      · refine ⟨.next, (l, t, ((k - 1 : Nat) : Int)), ?_, fun _ => ⟨⟨k - 1, rfl, by omega, fun y hy => ?_⟩, ?_⟩, fun h => (by cases h), by intro h; cases h⟩
        · unfold insertSL_step
          dsimp only
          rw [br_t (by simp; omega), e, ob_s, e2, ob_s, br_t (by simpa using hc), w64 (by omega) (by omega), show (k : Int) - 1 = ((k - 1 : Nat) : Int) by omega]
        · rw [List.drop_eq_getElem_cons hlt, show k - 1 + 1 = k by omega] at hy
          rcases List.mem_cons.1 hy with rfl | hy
          · rw [leT_iff]
            intro h
            rw [cmpT_gt] at hc
            exact absurd h (List.lt_asymm hc)
          · exact h1 y hy
        · show ((k - 1 : Nat) : Int).toNat < (k : Int).toNat
          omega
      · refine ⟨.out, (l, t, (k : Int)), ?_, fun h => (by cases h), fun _ => ⟨k, rfl, hk, h1, fun y hy => ?_⟩, by intro h; cases h⟩
        · unfold insertSL_step
          dsimp only
          rw [br_t (by simp; omega), e, ob_s, e2, ob_s, br_f (by simpa using hc)]
        · have hle : leT l[k - 1] t = true := by
            rw [leT_iff, ← cmpT_gt]; exact hc
          obtain ⟨j, hj, rfl⟩ := List.mem_iff_getElem.1 hy
          rw [List.length_take] at hj
          rw [List.getElem_take]
          rcases (by omega : j = k - 1 ∨ j < k - 1) with e | hj2
          · subst e; exact hle
          · exact leT_trans (List.pairwise_iff_getElem.1 hs j (k - 1) (by omega) hlt hj2) hle
    · obtain rfl : k = 0 := by omega
      refine ⟨.out, (l, t, ((0 : Nat) : Int)), ?_, fun h => (by cases h), fun _ => ⟨0, rfl, by omega, h1, by simp⟩, by intro h; cases h⟩
      unfold insertSL_step
      dsimp only
      rw [br_f (by simp)]
theorem exactSL0_eq {N D : Int} {n : Nat} {lo hi lo' hi' want : Int} {D1 D2 : List (Int × List Int)} {i : Int} {d : Int × List Int} (hn : n ≤ 3) (hd : idx D1 i = some d) (hda : IsW lo hi n d.2) (hD : ∀ y ∈ D2, IsW lo' hi' n y.2) (hs : ascP D2) (hl : D2.length ≤ 100000)
    {k0 : Nat} (hk0 : k0 ≤ D2.length) (f1 : ∀ y ∈ D2.take k0, y.1 < want) (f2 : ∀ y ∈ D2.drop k0, want ≤ y.1) {o : List (List (Int × Int))} (ho : o.length ≤ 40) (hos : ascT o) (hol : ∀ t ∈ o, t.length ≤ 3) :
    (∃ o' k', exactSL0 ((N, D), D1, D2, o, i, want, (k0 : Int)) = some (.inl ((N, D), D1, D2, o', i, want, k')) ∧ o'.Perm (o ++ (D2.filter fun y => y.1 == want).map fun y => canonF d.2 y.2) ∧ ascT o' ∧ o'.length ≤ 40) ∨
    ∃ o', exactSL0 ((N, D), D1, D2, o, i, want, (k0 : Int)) = some (.inr o') ∧ 40 < o'.length ∧ o'.length ≤ (o ++ (D2.filter fun y => y.1 == want).map fun y => canonF d.2 y.2).length := by
  have hz : (D2.take k0).filter (fun y => y.1 == want) = [] := by
    rw [List.filter_eq_nil_iff]
    intro y hy
    have := f1 y hy
    simp; omega
  have h := iterA_end (step := exactSL0_step) (fun s => ∃ (k : Nat) (o' : List (List (Int × Int))), s = ((N, D), D1, D2, o', i, want, (k : Int)) ∧ k0 ≤ k ∧ k ≤ D2.length ∧ o'.Perm (o ++ ((D2.take k).filter fun y => y.1 == want).map fun y => canonF d.2 y.2) ∧ ascT o' ∧ o'.length ≤ 40)
    (fun s => ∃ (k : Int) (o' : List (List (Int × Int))), s = ((N, D), D1, D2, o', i, want, k) ∧ o'.Perm (o ++ (D2.filter fun y => y.1 == want).map fun y => canonF d.2 y.2) ∧ ascT o' ∧ o'.length ≤ 40)
    (fun o' => 40 < o'.length ∧ o'.length ≤ (o ++ (D2.filter fun y => y.1 == want).map fun y => canonF d.2 y.2).length) (fun s => s.2.2.1.length - s.2.2.2.2.2.2.toNat) ?_ (exactSL0_fuel ((N, D), D1, D2, o, i, want, (k0 : Int))) ((N, D), D1, D2, o, i, want, (k0 : Int))
    ⟨k0, o, rfl, by omega, hk0, by rw [hz]; simp, hos, ho⟩ (by show _ < _ + 1; omega)
  · rcases h with ⟨_, e, k, o', rfl, h1, h2, h3⟩ | ⟨o', e, h1, h2⟩
    · exact .inl ⟨o', k, e, h1, h2, h3⟩
    · exact .inr ⟨o', e, h1, h2⟩
  · rintro _ ⟨k, o', rfl, hk, hkl, hp, hs', hc⟩
    have hlen3 : ∀ t ∈ o', t.length ≤ 3 := fun t ht => by
      rcases List.mem_append.1 (hp.mem_iff.1 ht) with ht | ht
      · exact hol t ht
      · obtain ⟨y, hy, rfl⟩ := List.mem_map.1 ht
        have hy := hD y (List.take_subset _ _ (List.mem_filter.1 hy).1)
        rw [canonF_len (by rw [hda.len, hy.len]), hda.len]; exact hn
    have hge : ∀ y ∈ D2.drop k, want ≤ y.1 := fun y hy => f2 y (by
      rw [show k = k0 + (k - k0) by omega, ← List.drop_drop] at hy
      exact List.drop_subset _ _ hy)
    have hout : (∀ y ∈ D2.drop k, want < y.1) → o'.Perm (o ++ (D2.filter fun y => y.1 == want).map fun y => canonF d.2 y.2) := fun h => by
      rw [filter_take hs hkl h]; exact hp
    by_cases hlt : k < D2.length
    · by_cases hv : (D2[k]).1 = want
      · have hy := hD _ (List.getElem_mem hlt)
        have hcl : (canonF d.2 (D2[k]).2).length ≤ 3 := by rw [canonF_len (by rw [hda.len, hy.len]), hda.len]; exact hn
        obtain ⟨o2, e2, p2, s2⟩ := insertS_law (l := o') (t := canonF d.2 (D2[k]).2) (by omega) hlen3 hcl hs'
        have hp2 : o2.Perm (o ++ ((D2.take (k + 1)).filter fun y => y.1 == want).map fun y => canonF d.2 y.2) := by
          refine p2.trans ?_
          rw [List.take_add_one, List.getElem?_eq_getElem hlt, Option.toList_some, List.filter_append, List.map_append, ← List.append_assoc, show [D2[k]].filter (fun y => y.1 == want) = [D2[k]] by simp [hv]]
          exact hp.append_right _
        have est : exactSL0_step ((N, D), D1, D2, o', i, want, (k : Int)) = br (decide ((40 : Int) < (o2.length : Int))) (some (.ret o2)) (some (.next ((N, D), D1, D2, o2, i, want, ((k + 1 : Nat) : Int)))) := by
          unfold exactSL0_step
          dsimp only
          rw [br_t (by simp; omega), get_idx hlt, ob_s, br_t (by simpa using hv), hd, ob_s, ob_s, canonS_eq hn hda hy, ob_s, e2, ob_s, w64 (by omega) (by omega)]
          rfl
        by_cases h40 : 40 < o2.length
        · refine .inr (.inr ⟨o2, ?_, h40, ?_⟩)
          · rw [est, br_t (by simp; omega)]
          · rw [hp2.length_eq, List.length_append, List.length_append, List.length_map, List.length_map]
            have : ((D2.take (k + 1)).filter fun y => y.1 == want).length ≤ (D2.filter fun y => y.1 == want).length := ((List.take_sublist _ _).filter _).length_le
            omega
        · refine .inl ⟨((N, D), D1, D2, o2, i, want, ((k + 1 : Nat) : Int)), ?_, ⟨k + 1, o2, rfl, by omega, by omega, hp2, s2, by omega⟩, ?_⟩
          · rw [est, br_f (by simp; omega)]
          · show D2.length - ((k + 1 : Nat) : Int).toNat < D2.length - (k : Int).toNat
            omega
      · refine .inr (.inl ⟨((N, D), D1, D2, o', i, want, (k : Int)), ?_, k, o', rfl, hout fun y hy => ?_, hs', hc⟩)
        · unfold exactSL0_step
          dsimp only
          rw [br_t (by simp; omega), get_idx hlt, ob_s, br_f (by simpa using hv)]
        · have h0 := hge _ (drop_head hlt)
          rw [List.drop_eq_getElem_cons hlt] at hy
          rcases List.mem_cons.1 hy with rfl | hy
          · omega
          · have := asc_head hs hlt y hy; omega
    · refine .inr (.inl ⟨((N, D), D1, D2, o', i, want, (k : Int)), ?_, k, o', rfl, hout fun y hy => ?_, hs', hc⟩)
      · unfold exactSL0_step
        dsimp only
        rw [br_f (by simp; omega)]
      · rw [List.drop_eq_nil_of_le (by omega)] at hy; cases hy
theorem exactS_law (hx : LimOk x) (hN : r.1 ≠ 0) : ∃ o, exactS (r, x) = some o ∧ ((trainsOf r x).length ≤ 40 → o.Perm (trainsOf r x) ∧ ascT o) ∧ (40 < (trainsOf r x).length → 40 < o.length) := by
  obtain ⟨e, h3, h1⟩ := hx.stg
  obtain ⟨l1, l2⟩ := wh_len hx
  have a1 := hx.a1; have b1 := hx.b1
  have e1 := productsS_eq (lo := x.1) (hi := x.2.1) (by omega) hx.a3 hx.a4 h3
  have e2 := productsS_eq (lo := x.2.2.1) (hi := x.2.2.2.1) (by omega) hx.b3 hx.b4 h3
  rw [e] at e1 e2
  obtain ⟨D2, e3, p3, s3⟩ := sortPS_eq (l := (wh2 x).map pw) (by rw [List.length_map]; exact l2)
  have hD : ∀ y ∈ D2, ∃ b ∈ wh2 x, y = pw b := fun y hy => by
    obtain ⟨b, hb, rfl⟩ := List.mem_map.1 (p3.mem_iff.1 hy)
    exact ⟨b, hb, rfl⟩
  have hDl : D2.length ≤ 100000 := by rw [p3.length_eq, List.length_map]; exact l2
  have hg : ∀ (a : List Int) (want : Int), ((D2.filter fun y => y.1 == want).map fun y => canonF a y.2).Perm (((wh2 x).filter fun b => prodW b == want).map (canonF a)) := fun a want => by
    have := (p3.filter fun y => y.1 == want).map fun y => canonF a y.2
    rw [List.filter_map, List.map_map] at this
    exact this
  have h := iterA_end (step := exactSL_step) (fun s => ∃ (k : Nat) (o : List (List (Int × Int))), s = ((r.1, r.2), (wh1 x).map pw, D2, o, (k : Int)) ∧ k ≤ (wh1 x).length ∧ o.Perm (((wh1 x).take k).flatMap (tr1 r x)) ∧ ascT o ∧ o.length ≤ 40)
    (fun s => ∃ (k : Int) (o : List (List (Int × Int))), s = ((r.1, r.2), (wh1 x).map pw, D2, o, k) ∧ o.Perm (trainsOf r x) ∧ ascT o ∧ o.length ≤ 40)
    (fun o => 40 < o.length ∧ 40 < (trainsOf r x).length) (fun s => s.2.1.length - s.2.2.2.2.toNat) ?_ (exactSL_fuel ((r.1, r.2), (wh1 x).map pw, D2, [], 0)) ((r.1, r.2), (wh1 x).map pw, D2, [], 0)
    ⟨0, [], rfl, by omega, by simp, List.Pairwise.nil, by simp⟩ (by show ((wh1 x).map pw).length - (0 : Int).toNat < (((wh1 x).map pw).length - (0 : Int).toNat) + 1; omega)
  · have hrun : exactS (r, x) = ob (exactSL ((r.1, r.2), (wh1 x).map pw, D2, [], 0)) fun q => el q (fun q => some q.2.2.2.1) fun q => some q := by
      unfold exactS
      dsimp only
      rw [show productsS (x.1, x.2.1, x.2.2.2.2) = _ from e1, ob_s, show productsS (x.2.2.1, x.2.2.2.1, x.2.2.2.2) = _ from e2, ob_s]
      rw [show sortPS (List.map pw (wheels x.2.2.1 x.2.2.2.1 (stg x))) = _ from e3, ob_s]
      rfl
    rw [hrun]
    rcases h with ⟨_, e, k, o, rfl, h1, h2, h3⟩ | ⟨o, e, h1, h2⟩
    · rw [show exactSL ((r.1, r.2), (wh1 x).map pw, D2, [], 0) = _ from e]
      refine ⟨o, rfl, fun _ => ⟨h1, h2⟩, fun h => ?_⟩
      rw [← h1.length_eq] at h; omega
    · rw [show exactSL ((r.1, r.2), (wh1 x).map pw, D2, [], 0) = _ from e]
      exact ⟨o, rfl, fun h => by omega, fun _ => h1⟩
  · rintro _ ⟨k, o, rfl, hk, hp, hs, hc⟩
    have hol : ∀ t ∈ o, t.length ≤ 3 := fun t ht => by
      have ht := hp.mem_iff.1 ht
      obtain ⟨a, ha, ht⟩ := List.mem_flatMap.1 ht
      have := trains_len (r := r) hx (t := t) (List.mem_flatMap.2 ⟨a, List.take_subset _ _ ha, ht⟩)
      omega
    by_cases hlt : k < (wh1 x).length
    · have hi : idx ((wh1 x).map pw) (k : Int) = some (pw (wh1 x)[k]) := map_idx (get_idx hlt)
      have hw := wh1_is (List.getElem_mem hlt)
      have htk : (wh1 x).take (k + 1) = (wh1 x).take k ++ [(wh1 x)[k]] := by rw [List.take_add_one, List.getElem?_eq_getElem hlt, Option.toList_some]
      have hfl : ((wh1 x).take (k + 1)).flatMap (tr1 r x) = ((wh1 x).take k).flatMap (tr1 r x) ++ tr1 r x (wh1 x)[k] := by
        rw [htk, List.flatMap_append]; simp
      cases hcd : cd r.1 r.2 (prodW (wh1 x)[k]) with
      | true =>
        refine .inl ⟨((r.1, r.2), (wh1 x).map pw, D2, o, ((k + 1 : Nat) : Int)), ?_, ⟨k + 1, o, rfl, by omega, ?_, hs, hc⟩, ?_⟩
        · unfold exactSL_step
          dsimp only
          rw [br_t (by simp; omega), hi, ob_s, br_f (by simpa using hN), show ((IntKind.i64.wrap ((pw (wh1 x)[k]).1 * r.2)).tmod r.1 != 0) = cd r.1 r.2 (prodW (wh1 x)[k]) from rfl, br_t hcd, w64 (by omega) (by omega)]
          rfl
        · rw [hfl]
          have : tr1 r x (wh1 x)[k] = [] := by unfold tr1; rw [hcd, if_pos rfl]
          rw [this, List.append_nil]; exact hp
        · show ((wh1 x).map pw).length - ((k + 1 : Nat) : Int).toNat < ((wh1 x).map pw).length - (k : Int).toNat
          rw [List.length_map]; omega
      | false =>
        obtain ⟨k0, ek, hk0, f1, f2⟩ := firstS_eq hDl s3 (qd r.1 r.2 (prodW (wh1 x)[k]))
        have htr : (o ++ (D2.filter fun y => y.1 == qd r.1 r.2 (prodW (wh1 x)[k])).map fun y => canonF (pw (wh1 x)[k]).2 y.2).Perm (((wh1 x).take (k + 1)).flatMap (tr1 r x)) := by
          rw [hfl]
          refine hp.append ((hg _ _).trans ?_)
          unfold tr1
          rw [hcd, if_neg (by simp)]
          exact .refl _
        have hstep : exactSL_step ((r.1, r.2), (wh1 x).map pw, D2, o, (k : Int)) = ob (exactSL0 ((r.1, r.2), (wh1 x).map pw, D2, o, (k : Int), qd r.1 r.2 (prodW (wh1 x)[k]), (k0 : Int))) fun q => el q (fun q => some (.next ((q.1.1, q.1.2), q.2.1, q.2.2.1, q.2.2.2.1, IntKind.i64.wrap (q.2.2.2.2.1 + 1)))) fun q => some (.ret q) := by
          unfold exactSL_step
          dsimp only
          rw [br_t (by simp; omega), hi, ob_s, br_f (by simpa using hN), show ((IntKind.i64.wrap ((pw (wh1 x)[k]).1 * r.2)).tmod r.1 != 0) = cd r.1 r.2 (prodW (wh1 x)[k]) from rfl, br_f hcd, br_f (by simpa using hN)]
          rw [show IntKind.i64.wrap ((IntKind.i64.wrap ((pw (wh1 x)[k]).1 * r.2)).tdiv r.1) = qd r.1 r.2 (prodW (wh1 x)[k]) from rfl, ek, ob_s]
        rcases exactSL0_eq (N := r.1) (D := r.2) (lo' := x.2.2.1) (hi' := x.2.2.2.1) h3 hi hw (fun y hy => by obtain ⟨b, hb, rfl⟩ := hD y hy; exact wh2_is hb) s3 hDl hk0 f1 f2 hc hs hol with ⟨o', k', e, p', s', c'⟩ | ⟨o', e, c1, c2⟩
        · refine .inl ⟨((r.1, r.2), (wh1 x).map pw, D2, o', ((k + 1 : Nat) : Int)), ?_, ⟨k + 1, o', rfl, by omega, p'.trans htr, s', c'⟩, ?_⟩
          · rw [hstep, e, ob_s]
            unfold el
            dsimp only
            rw [w64 (by omega) (by omega)]
            rfl
          · show ((wh1 x).map pw).length - ((k + 1 : Nat) : Int).toNat < ((wh1 x).map pw).length - (k : Int).toNat
            rw [List.length_map]; omega
        · refine .inr (.inr ⟨o', ?_, c1, ?_⟩)
          · rw [hstep, e]; rfl
          · rw [htr.length_eq] at c2
            have : (((wh1 x).take (k + 1)).flatMap (tr1 r x)).length ≤ (trainsOf r x).length := by
              unfold trainsOf
              conv => rhs; rw [← List.take_append_drop (k + 1) (wh1 x), List.flatMap_append]
              rw [List.length_append]; omega
            omega
    · obtain rfl : k = (wh1 x).length := by omega
      refine .inr (.inl ⟨((r.1, r.2), (wh1 x).map pw, D2, o, ((wh1 x).length : Int)), ?_, _, o, rfl, ?_, hs, hc⟩)
      · unfold exactSL_step
        dsimp only
        rw [br_f (by simp)]
      · rw [List.take_length] at hp; exact hp
theorem exact_both (r : Int × Int) (x : Int × Int × Int × Int × Int) : ∃ v : List (List (Int × Int)) × Int, exactI (r, x) = some v ∧ exactTS (r, x) = some v ∧ v.1.length ≤ 40 ∧ ∀ t ∈ v.1, t.length ≤ 3 := by
  obtain ⟨vl, el, hvl⟩ := validLim_eq x
  have ea := askI_eq r el
  have hS : exactTS (r, x) = br (!vR r) (some ([], 1)) (br (!vl) (some ([], 1)) (br (!askB r) (some ([], 2)) (ob (exactS (r, x)) fun y => br (decide ((40 : Int) < (List.length y : Int))) (some ([], 5)) (some (y, 0))))) := by
    show ob (okRatS r) _ = _
    rw [okRatS_eq, ob_s]
    show br _ _ (ob (okLimS x) _) = _
    rw [okLim_eq, el, ob_s]
    show br _ _ (br _ _ (ob (askS r) _)) = _
    rw [askS_eq, ob_s]
  have hI : codeA r vl ≠ 0 → exactI (r, x) = some ([], codeA r vl) := fun h => by
    show ob (askI (r, x)) _ = _
    rw [ea, ob_s, br_t (by simpa using h)]
  rw [hS]
  unfold codeA at ea hI
  cases hv : vR r with
  | false =>
    rw [hv] at hI
    exact ⟨_, hI (by simp), rfl, by simp, by simp⟩
  | true =>
    rw [hv] at hI ea
    rw [Bool.not_true, br_f rfl]
    cases vl with
    | false => exact ⟨_, hI (by simp), rfl, by simp, by simp⟩
    | true =>
      rw [Bool.not_true, br_f rfl]
      cases hb : askB r with
      | false =>
        rw [hb] at hI
        exact ⟨_, hI (by simp), rfl, by simp, by simp⟩
      | true =>
        rw [hb] at ea
        rw [Bool.not_true, br_f rfl]
        have hx := hvl.1 rfl
        have hN : r.1 ≠ 0 := by
          unfold askB at hb
          simp at hb
          omega
        obtain ⟨T, hT, e1⟩ := exactI_law hx hN (by rw [ea]; rfl)
        obtain ⟨o, e2, h1, h2⟩ := exactS_law (r := r) hx hN
        rw [e1, e2, ob_s]
        by_cases h40 : T.length ≤ 40
        · rw [if_pos h40]
          obtain ⟨p, s⟩ := h1 (by rw [← hT.length_eq]; exact h40)
          have hl : o.length ≤ 40 := by rw [p.length_eq, ← hT.length_eq]; exact h40
          have e : T.mergeSort leT = o := sorted_one (((List.mergeSort_perm T leT).trans hT).trans p.symm) (leT_sorted T) s
          refine ⟨(o, 0), by rw [e], by rw [br_f (by simp; omega)], hl, fun t ht => ?_⟩
          have := trains_len hx (p.mem_iff.1 ht)
          have := hx.stg
          omega
        · rw [if_neg h40]
          have := h2 (by rw [← hT.length_eq]; omega)
          exact ⟨_, rfl, by rw [br_t (by simp; omega)], by simp, by simp⟩
end
end
end Rx
end Go.Proofs.Ythfgpnpoocepeaa
