/- Exact trains: the implementation's groups and the reference's products find the same trains. No program in sight. -/
import Derived.Test.YthfgpnpoocepeaaRxExMath
namespace Go.Proofs.Ythfgpnpoocepeaa
namespace Rx
open Go

noncomputable section
/-! ### What may be asked -/
structure LimOk (x : Int × Int × Int × Int × Int) : Prop where
  a1 : 6 ≤ x.1
  a2 : x.1 ≤ x.2.1
  a3 : x.2.1 ≤ 120
  a4 : x.2.1 ≤ x.1 + 30
  b1 : 6 ≤ x.2.2.1
  b2 : x.2.2.1 ≤ x.2.2.2.1
  b3 : x.2.2.2.1 ≤ 120
  b4 : x.2.2.2.1 ≤ x.2.2.1 + 30
  s1 : 1 ≤ x.2.2.2.2
  s2 : x.2.2.2.2 ≤ 3
theorem spanI_eq (a b : Int) : ∃ v, spanI (a, b) = some v ∧ (v = true ↔ 6 ≤ a ∧ a ≤ b ∧ b ≤ 120 ∧ b ≤ a + 30) := by
  unfold spanI
  dsimp only
  by_cases h1 : 6 ≤ a
  · rw [br_t (by simpa using h1)]
    by_cases h2 : b ≤ 120
    · rw [br_t (by simpa using h2)]
      by_cases h3 : a ≤ b
      · rw [br_t (by simpa using h3)]
        rw [w64 (by omega) (by omega)]
        exact ⟨_, rfl, by simp; omega⟩
      · rw [br_f (by simpa using h3)]
        exact ⟨_, rfl, by simp; omega⟩
    · rw [br_f (by simpa using h2)]
      exact ⟨_, rfl, by simp; omega⟩
  · rw [br_f (by simpa using h1)]
    exact ⟨_, rfl, by simp; omega⟩
theorem validLim_eq (x : Int × Int × Int × Int × Int) : ∃ v, validLimI x = some v ∧ (v = true ↔ LimOk x) := by
  obtain ⟨a, b, c, d, s⟩ := x
  unfold validLimI
  dsimp only
  obtain ⟨v1, e1, h1⟩ := spanI_eq a b
  obtain ⟨v2, e2, h2⟩ := spanI_eq c d
  rw [e1, ob_s]
  cases v1 with
  | false =>
    rw [br_f rfl]
    exact ⟨_, rfl, ⟨fun h => (by cases h), fun h => h1.2 ⟨h.a1, h.a2, h.a3, h.a4⟩⟩⟩
  | true =>
    rw [br_t rfl, e2, ob_s]
    have g1 := h1.1 rfl
    cases v2 with
    | false =>
      rw [br_f rfl]
      exact ⟨_, rfl, ⟨fun h => (by cases h), fun h => h2.2 ⟨h.b1, h.b2, h.b3, h.b4⟩⟩⟩
    | true =>
      rw [br_t rfl, within_eq, ob_s]
      have g2 := h2.1 rfl
      refine ⟨_, rfl, ⟨fun h => ?_, fun h => ?_⟩⟩
      · simp at h
        exact ⟨g1.1, g1.2.1, g1.2.2.1, g1.2.2.2, g2.1, g2.2.1, g2.2.2.1, g2.2.2.2, h.1, h.2⟩
      · have h1 := h.s1; have h2 := h.s2
        simp; exact ⟨h1, h2⟩
def askB (r : Int × Int) : Bool := decide (1 ≤ r.1) && decide (r.1 ≤ 1000000) && decide (r.2 ≤ 1000000)
def codeA (r : Int × Int) (v : Bool) : Int := if vR r && v then (if askB r then 0 else 2) else 1
theorem askS_eq (r : Int × Int) : askS r = some (askB r) := by
  unfold askS askB
  rw [in_eq, within_eq, ob_s]
  cases (decide (1 ≤ r.1) && decide (r.1 ≤ 1000000)) <;> rfl
theorem askI_eq (r : Int × Int) {x : Int × Int × Int × Int × Int} {v : Bool} (hv : validLimI x = some v) : askI (r, x) = some (codeA r v) := by
  unfold askI codeA askB
  rw [show validLimI ((r, x).2.1, (r, x).2.2.1, (r, x).2.2.2.1, (r, x).2.2.2.2.1, (r, x).2.2.2.2.2) = some v from hv, show validRatI ((r, x).1.1, (r, x).1.2) = some (vR r) from validRatI_eq r]
  dsimp only
  rw [ob_s]
  cases vR r with
  | false => rfl
  | true =>
    rw [Bool.not_true, br_f rfl, ob_s]
    cases v with
    | false => rfl
    | true =>
      rw [Bool.not_true, br_f rfl]
      by_cases h1 : r.1 ≤ 0
      · rw [br_t (by simpa using h1), show decide (1 ≤ r.1) = false by simp; omega]; rfl
      · rw [br_f (by simpa using h1), show decide (1 ≤ r.1) = true by simp; omega]
        by_cases h2 : 1000000 < r.1
        · rw [br_t (by simpa using h2), show decide (r.1 ≤ 1000000) = false by simp; omega]; rfl
        · rw [br_f (by simpa using h2), show decide (r.1 ≤ 1000000) = true by simp; omega]
          by_cases h3 : 1000000 < r.2
          · rw [br_t (by simpa using h3), show decide (r.2 ≤ 1000000) = false by simp; omega]; rfl
          · rw [br_f (by simpa using h3), show decide (r.2 ≤ 1000000) = true by simp; omega]; rfl

/-! ### The implementation -/
def cd (N D p : Int) : Bool := (IntKind.i64.wrap (p * D)).tmod N != 0
def qd (N D p : Int) : Int := IntKind.i64.wrap ((IntKind.i64.wrap (p * D)).tdiv N)
section
variable {N D lo hi lo' hi' : Int} {n : Nat} {s1 s2 : List Int × List (Int × List (List Int))}
theorem exactL00_eq (hn : n ≤ 3) {p lp i lA j : Int} {f : List (List (Int × Int))} {a : List Int} {A B : List (List Int)} (ha : IsW lo hi n a) (hB : ∀ b ∈ B, IsW lo' hi' n b) (hl : B.length ≤ 1000000) (hf : f.length ≤ 40) :
    exactL00 ((N, D), s1, s2, f, p, a, (), lp, i, A, lA, j, B, (B.length : Int), 0) =
      some (if (f ++ B.map (canonF a)).length ≤ 40 then .inl ((N, D), s1, s2, f ++ B.map (canonF a), p, a, (), lp, i, A, lA, j, B, (B.length : Int), (B.length : Int)) else .inr ([], 5)) := by
  have := cap_loop (step := exactL00_step) (l := B) (fun k f => ((N, D), s1, s2, f, p, a, (), lp, i, A, lA, j, B, (B.length : Int), k)) (fun b => [canonF a b]) ([], 5)
    (fun f => ((N, D), s1, s2, f, p, a, (), lp, i, A, lA, j, B, (B.length : Int), (B.length : Int))) (fun k f b hk0 hk1 hy hm hf => ?_) (fun f hf => ?_) (n := exactL00_fuel ((N, D), s1, s2, f, p, a, (), lp, i, A, lA, j, B, (B.length : Int), 0)) ?_ (a0 := f) hf
  · rw [flatMap_one] at this
    exact this
  · unfold exactL00_step
    dsimp only
    rw [br_t (by simp; omega), hy, ob_s]
    by_cases h40 : f.length = 40
    · rw [br_t (by simp [h40]), if_neg (by simp [h40])]
    · rw [br_f (by simp; omega), canonI_eq hn ha (hB b hm), ob_s, br_t (by simp; omega), if_pos (by simp; omega), w64 (by omega) (by omega)]
  · unfold exactL00_step
    dsimp only
    rw [br_f (by simp)]
  · show B.length < ((B.length : Int) - 0).toNat + 1
    omega
theorem exactL0_eq (hN : N ≠ 0) (hn : n ≤ 3) {p lp i : Int} {f : List (List (Int × Int))} {A : List (List Int)} (hA : ∀ a ∈ A, IsW lo hi n a) (hB : ∀ q, ∀ b ∈ getM s2.2 q, IsW lo' hi' n b) (hl : ∀ q, (getM s2.2 q).length ≤ 1000000) (hlA : A.length ≤ 1000000) (hf : f.length ≤ 40) :
    exactL0 ((N, D), s1, s2, f, p, (), lp, i, A, (A.length : Int), 0) =
      some (if (f ++ A.flatMap fun a => (getM s2.2 (qd N D p)).map (canonF a)).length ≤ 40 then .inl ((N, D), s1, s2, f ++ A.flatMap (fun a => (getM s2.2 (qd N D p)).map (canonF a)), p, (), lp, i, A, (A.length : Int), (A.length : Int)) else .inr ([], 5)) := by
  refine cap_loop (step := exactL0_step) (l := A) (fun k f => ((N, D), s1, s2, f, p, (), lp, i, A, (A.length : Int), k)) (fun a => (getM s2.2 (qd N D p)).map (canonF a)) ([], 5)
    (fun f => ((N, D), s1, s2, f, p, (), lp, i, A, (A.length : Int), (A.length : Int))) (fun k f b hk0 hk1 hy hm hf => ?_) (fun f hf => ?_) (n := exactL0_fuel ((N, D), s1, s2, f, p, (), lp, i, A, (A.length : Int), 0)) ?_ (a0 := f) hf
  · unfold exactL0_step
    dsimp only
    rw [br_t (by simp; omega), hy, ob_s, br_f (by simpa using hN)]
    rw [show IntKind.i64.wrap ((IntKind.i64.wrap (p * D)).tdiv N) = qd N D p from rfl]
    have e := exactL00_eq (N := N) (D := D) (s1 := (s1.1, s1.2)) (s2 := (s2.1, s2.2)) hn (p := p) (lp := lp) (i := i) (lA := (A.length : Int)) (j := k) (A := A) (hA b hm) (hB (qd N D p)) (hl _) hf
    rw [e, ob_s]
    by_cases hc : (f ++ (getM s2.2 (qd N D p)).map (canonF b)).length ≤ 40
    · rw [if_pos hc, if_pos hc]
      unfold el
      dsimp only
      rw [w64 (by omega) (by omega)]
    · rw [if_neg hc, if_neg hc]
      rfl
  · unfold exactL0_step
    dsimp only
    rw [br_f (by simp)]
  · show A.length < ((A.length : Int) - 0).toNat + 1
    omega
def grpI (N D : Int) (s1 s2 : List Int × List (Int × List (List Int))) (p : Int) : List (List (Int × Int)) :=
  if cd N D p then [] else (getM s1.2 p).flatMap fun a => (getM s2.2 (qd N D p)).map (canonF a)
theorem exactL_eq (hN : N ≠ 0) (hn : n ≤ 3) (hA : ∀ q, ∀ a ∈ getM s1.2 q, IsW lo hi n a) (hB : ∀ q, ∀ b ∈ getM s2.2 q, IsW lo' hi' n b) (hl1 : ∀ q, (getM s1.2 q).length ≤ 1000000) (hl2 : ∀ q, (getM s2.2 q).length ≤ 1000000) (hp : s1.1.length ≤ 1000000) :
    exactL ((N, D), s1, s2, [], (), (s1.1.length : Int), 0) =
      some (if (s1.1.flatMap (grpI N D s1 s2)).length ≤ 40 then .inl ((N, D), s1, s2, s1.1.flatMap (grpI N D s1 s2), (), (s1.1.length : Int), (s1.1.length : Int)) else .inr ([], 5)) := by
  refine cap_loop (step := exactL_step) (l := s1.1) (fun k f => ((N, D), s1, s2, f, (), (s1.1.length : Int), k)) (grpI N D s1 s2) ([], 5)
    (fun f => ((N, D), s1, s2, f, (), (s1.1.length : Int), (s1.1.length : Int))) (fun k f p hk0 hk1 hy hm hf => ?_) (fun f hf => ?_) (n := exactL_fuel ((N, D), s1, s2, [], (), (s1.1.length : Int), 0)) ?_ (a0 := []) (by simp)
  · have hy2 : s1.1[k.toNat]? = some p := by
      unfold idx at hy
      rw [if_pos hk0] at hy
      exact hy
    unfold exactL_step
    dsimp only
    rw [br_t (by simp; omega), hy, ob_s, gi, hy2, ob_s, br_f (by simpa using hN), show ((IntKind.i64.wrap (p * D)).tmod N != 0) = cd N D p from rfl]
    cases hc : cd N D p with
    | true =>
      rw [show grpI N D s1 s2 p = [] by unfold grpI; rw [hc]; rfl, br_t rfl, List.append_nil, if_pos hf, w64 (by omega) (by omega)]
    | false =>
      rw [br_f rfl, show grpI N D s1 s2 p = (getM s1.2 p).flatMap fun a => (getM s2.2 (qd N D p)).map (canonF a) by unfold grpI; rw [hc]; rfl]
      have e := exactL0_eq (D := D) (s1 := (s1.1, s1.2)) (s2 := (s2.1, s2.2)) hN hn (p := p) (lp := (s1.1.length : Int)) (i := k) (hA p) hB hl2 (hl1 p) hf
      rw [e, ob_s]
      by_cases hc : (f ++ (getM s1.2 p).flatMap fun a => (getM s2.2 (qd N D p)).map (canonF a)).length ≤ 40
      · rw [if_pos hc, if_pos hc]
        unfold el
        dsimp only
        rw [w64 (by omega) (by omega)]
      · rw [if_neg hc, if_neg hc]
        rfl
  · unfold exactL_step
    dsimp only
    rw [br_f (by simp)]
  · show s1.1.length < ((s1.1.length : Int) - 0).toNat + 1
    omega
end
end
end Rx
end Go.Proofs.Ythfgpnpoocepeaa
