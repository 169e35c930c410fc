/- The best trains in plain terms: how quotients beside a ratio compare. No program in sight. -/
import Derived.Test.YthfgpnpoocepeaaGreatRxExTrEnd
import Derived.Test.YthfgpnpoocepeaaGreatRxErrorLaw
import Derived.Test.YthfgpnpoocepeaaGreatRxBest
namespace Go.Proofs.YthfgpnpoocepeaaGreat
namespace Rx
open Go

noncomputable section
/-- How far two products are from a ratio, times its Den. -/
def farQ (N D p q : Int) : Int := absN (p * D - q * N)
theorem absN_nn (n : Int) : 0 ≤ absN n := by unfold absN; split <;> omega
theorem absI_w {n : Int} (h1 : -9000000000000000000 ≤ n) (h2 : n ≤ 9000000000000000000) : absI n = some (absN n) := by
  show br (decide (n < 0)) (some (IntKind.i64.wrap (0 - n))) (some n) = _
  unfold absN
  by_cases h : n < 0
  · rw [br_t (by simpa using h), if_pos h, w64 (by omega) (by omega), Int.zero_sub]
  · rw [br_f (by simpa using h), if_neg h]
theorem mul_bd {a b A B : Int} (a0 : 0 ≤ a) (b0 : 0 ≤ b) (h1 : a ≤ A) (h2 : b ≤ B) : 0 ≤ a * b ∧ a * b ≤ A * B :=
  ⟨Int.mul_nonneg a0 b0, Int.mul_le_mul h1 h2 b0 (by omega)⟩
theorem far_bd {N D p q : Int} (n1 : 1 ≤ N) (n2 : N ≤ 1000000) (d1 : 1 ≤ D) (d2 : D ≤ 1000000) (p1 : 1 ≤ p) (p2 : p ≤ 1728000) (q1 : 1 ≤ q) (q2 : q ≤ 1728000) : farQ N D p q ≤ 1728000000000 := by
  have h1 := mul_bd (a := p) (b := D) (by omega) (by omega) p2 d2
  have h2 := mul_bd (a := q) (b := N) (by omega) (by omega) q2 n2
  unfold farQ absN
  split <;> omega
/-- Of products below, the greater one is nearer. -/
theorem near_left {N D p q q' : Int} (hp : 0 < p) (hD : 0 < D) (hN : 0 < N) (hq : 0 < q) (h : q < q') (hle : q' * N ≤ p * D) : farQ N D p q' * q < farQ N D p q * q' := by
  have h1 : q * N < q' * N := Int.mul_lt_mul_of_pos_right h hN
  unfold farQ absN
  rw [if_neg (by omega), if_neg (by omega), Int.sub_mul, Int.sub_mul]
  have h2 : p * D * q < p * D * q' := Int.mul_lt_mul_of_pos_left h (Int.mul_pos hp hD)
  have h3 : q' * N * q = q * N * q' := by rw [Int.mul_right_comm, Int.mul_comm q' q, Int.mul_right_comm]
  omega
/-- Of products above, the smaller one is nearer. -/
theorem near_right {N D p q q' : Int} (hp : 0 < p) (hD : 0 < D) (hN : 0 < N) (hq : 0 < q') (h : q' < q) (hle : p * D ≤ q' * N) : farQ N D p q' * q < farQ N D p q * q' := by
  have h1 : q' * N < q * N := Int.mul_lt_mul_of_pos_right h hN
  have e : ∀ a b : Int, a ≤ b → absN (a - b) = b - a := fun a b h => by unfold absN; split <;> omega
  unfold farQ
  rw [e _ _ hle, e _ _ (by omega), Int.sub_mul, Int.sub_mul]
  have h2 : p * D * q' < p * D * q := Int.mul_lt_mul_of_pos_left h (Int.mul_pos hp hD)
  have h3 : q' * N * q = q * N * q' := by rw [Int.mul_right_comm, Int.mul_comm q' q, Int.mul_right_comm]
  omega
section
variable {f1 q1 f2 q2 f3 q3 : Int}
theorem cross_le (h1 : 0 < q1) (h2 : 0 < q2) (h3 : 0 < q3) (a : f1 * q2 ≤ f2 * q1) (b : f2 * q3 ≤ f3 * q2) : f1 * q3 ≤ f3 * q1 := by
  refine Int.le_of_mul_le_mul_right (show f1 * q3 * q2 ≤ f3 * q1 * q2 from ?_) h2
  have e1 := Int.mul_le_mul_of_nonneg_right a (Int.le_of_lt h3)
  have e2 := Int.mul_le_mul_of_nonneg_right b (Int.le_of_lt h1)
  rw [Int.mul_right_comm f1 q3 q2, Int.mul_right_comm f3 q1 q2]
  rw [Int.mul_right_comm f2 q1 q3] at e1
  omega
theorem cross_lt1 (h1 : 0 < q1) (h2 : 0 < q2) (h3 : 0 < q3) (a : f1 * q2 < f2 * q1) (b : f2 * q3 ≤ f3 * q2) : f1 * q3 < f3 * q1 := by
  refine Int.lt_of_mul_lt_mul_right (show f1 * q3 * q2 < f3 * q1 * q2 from ?_) (Int.le_of_lt h2)
  have e1 := Int.mul_lt_mul_of_pos_right a h3
  have e2 := Int.mul_le_mul_of_nonneg_right b (Int.le_of_lt h1)
  rw [Int.mul_right_comm f1 q3 q2, Int.mul_right_comm f3 q1 q2]
  rw [Int.mul_right_comm f2 q1 q3] at e1
  omega
theorem cross_lt2 (h1 : 0 < q1) (h2 : 0 < q2) (h3 : 0 < q3) (a : f1 * q2 ≤ f2 * q1) (b : f2 * q3 < f3 * q2) : f1 * q3 < f3 * q1 := by
  refine Int.lt_of_mul_lt_mul_right (show f1 * q3 * q2 < f3 * q1 * q2 from ?_) (Int.le_of_lt h2)
  have e1 := Int.mul_le_mul_of_nonneg_right a (Int.le_of_lt h3)
  have e2 := Int.mul_lt_mul_of_pos_right b h1
  rw [Int.mul_right_comm f1 q3 q2, Int.mul_right_comm f3 q1 q2]
  rw [Int.mul_right_comm f2 q1 q3] at e1
  omega
end
/-- What is found first: nearer, or as near and not behind. -/
def le3 (f q : Int) (t : List (Int × Int)) (f' q' : Int) (t' : List (Int × Int)) : Prop := f * q' < f' * q ∨ (f * q' = f' * q ∧ leT t t' = true)
theorem le3_trans {f1 q1 f2 q2 f3 q3 : Int} {t1 t2 t3 : List (Int × Int)} (h1 : 0 < q1) (h2 : 0 < q2) (h3 : 0 < q3) (a : le3 f1 q1 t1 f2 q2 t2) (b : le3 f2 q2 t2 f3 q3 t3) : le3 f1 q1 t1 f3 q3 t3 := by
  rcases a with a | ⟨a, a'⟩
  · rcases b with b | ⟨b, b'⟩
    · exact .inl (cross_lt1 h1 h2 h3 a (by omega))
    · exact .inl (cross_lt1 h1 h2 h3 a (by omega))
  · rcases b with b | ⟨b, b'⟩
    · exact .inl (cross_lt2 h1 h2 h3 (by omega) b)
    · have e1 := cross_le h1 h2 h3 (f1 := f1) (f2 := f2) (f3 := f3) (by omega) (by omega)
      have e2 := cross_le h3 h2 h1 (f1 := f3) (f2 := f2) (f3 := f1) (by omega) (by omega)
      exact .inr ⟨by omega, leT_trans a' b'⟩
theorem le3_refl (f q : Int) (t : List (Int × Int)) : le3 f q t f q t := .inr ⟨rfl, by have := leT_total t t; simpa using this⟩

section
variable (N D : Int)
/-- The pair of wheels is before another. -/
def leW (a b a' b' : List Int) : Prop := le3 (farQ N D (prodW a) (prodW b)) (prodW b) (canonF a b) (farQ N D (prodW a') (prodW b')) (prodW b') (canonF a' b')
end
/-- The best train: canonical, of wheels within the limits, before all others. -/
def IsBest (r : Int × Int) (x : Int × Int × Int × Int × Int) (t : List (Int × Int)) : Prop :=
  ∃ a ∈ wh1 x, ∃ b ∈ wh2 x, t = canonF a b ∧ ∀ a' ∈ wh1 x, ∀ b' ∈ wh2 x, leW r.1 r.2 a b a' b'
theorem best_one {r : Int × Int} {x : Int × Int × Int × Int × Int} {t t' : List (Int × Int)} (h : IsBest r x t) (h' : IsBest r x t') : t = t' := by
  obtain ⟨a, ha, b, hb, rfl, h⟩ := h
  obtain ⟨a', ha', b', hb', rfl, h'⟩ := h'
  have h1 := h a' ha' b' hb'
  have h2 := h' a ha b hb
  unfold leW le3 at h1 h2
  rcases h1 with h1 | ⟨h1, h1'⟩
  · rcases h2 with h2 | ⟨h2, h2'⟩ <;> omega
  · rcases h2 with h2 | ⟨h2, h2'⟩
    · omega
    · exact leT_anti h1' h2'
section
variable {x : Int × Int × Int × Int × Int}
theorem wh1_bd (hx : LimOk x) {a : List Int} (h : a ∈ wh1 x) : 1 ≤ prodW a ∧ prodW a ≤ 1728000 := by
  have := hx.a1
  exact prod_bd3 (by omega) hx.a3 hx.stg.2.1 (wh1_is h)
theorem wh2_bd (hx : LimOk x) {a : List Int} (h : a ∈ wh2 x) : 1 ≤ prodW a ∧ prodW a ≤ 1728000 := by
  have := hx.b1
  exact prod_bd3 (by omega) hx.b3 hx.stg.2.1 (wh2_is h)
theorem rep_is {lo hi : Int} (h : lo ≤ hi) (n : Nat) : IsW lo hi n (List.replicate n lo) :=
  ⟨by simp, fun t ht => by have := List.eq_of_mem_replicate ht; omega, List.pairwise_replicate.2 (.inr (Int.le_refl _))⟩
theorem wh1_some (hx : LimOk x) : ∃ a, a ∈ wh1 x := ⟨_, wheels_of (rep_is hx.a2 _)⟩
theorem wh2_some (hx : LimOk x) : ∃ a, a ∈ wh2 x := ⟨_, wheels_of (rep_is hx.b2 _)⟩
end
/-- A ratio and limits that may be asked. -/
structure Asked (r : Int × Int) (x : Int × Int × Int × Int × Int) : Prop where
  lim : LimOk x
  n1 : 1 ≤ r.1
  n2 : r.1 ≤ 1000000
  d1 : 1 ≤ r.2
  d2 : r.2 ≤ 1000000
end
end Rx
end Go.Proofs.YthfgpnpoocepeaaGreat

namespace Go.Proofs.YthfgpnpoocepeaaGreat
namespace Rx
open Go

noncomputable section
theorem nearBI_eq {y p N D : Int} (h1 : 0 ≤ y * N ∧ y * N ≤ 9000000000000000) (h2 : 0 ≤ p * D ∧ p * D ≤ 9000000000000000) : nearBI (y, p, N, D) = some (cmpF (y * N) (p * D)) := by
  unfold nearBI
  dsimp only
  rw [w64 (by omega) (by omega), w64 (by omega) (by omega), cmpI_eq, ob_s]
theorem cmpF_neg {a b : Int} : cmpF a b < 0 ↔ a < b := by (unfold cmpF; split; (· omega); split <;> omega)
theorem cmpF_zero {a b : Int} : cmpF a b = 0 ↔ a = b := by (unfold cmpF; split; (· omega); split <;> omega)
theorem bsearch_eq {l : List Int} {p N D : Int} (hN : 0 ≤ N) (hl : l.length ≤ 100000) (hs : l.Pairwise (· ≤ ·)) (hb : ∀ y ∈ l, 0 ≤ y * N ∧ y * N ≤ 9000000000000000) (h2 : 0 ≤ p * D ∧ p * D ≤ 9000000000000000) :
    ∃ (k : Nat) (b : Bool), bsearch (l, p, N, D) = some ((k : Int), b) ∧ k ≤ l.length ∧ (∀ y ∈ l.take k, y * N < p * D) ∧ ∀ y ∈ l.drop k, p * D ≤ y * N := by
  have hmono : ∀ {y z : Int}, y ≤ z → y * N ≤ z * N := fun h => Int.mul_le_mul_of_nonneg_right h hN
  have := iterP_end (step := bsearchL_step) (fun x => ∃ i k : Nat, x = (l, p, (N, D), (l.length : Int), (i : Int), (k : Int)) ∧ i ≤ k ∧ k ≤ l.length ∧ (∀ y ∈ l.take i, y * N < p * D) ∧ ∀ y ∈ l.drop k, p * D ≤ y * N)
    (fun x => ∃ k : Nat, x = (l, p, (N, D), (l.length : Int), (k : Int), (k : Int)) ∧ k ≤ l.length ∧ (∀ y ∈ l.take k, y * N < p * D) ∧ ∀ y ∈ l.drop k, p * D ≤ y * N) (fun x => (x.2.2.2.2.2 - x.2.2.2.2.1).toNat) ?_
    (bsearchL_fuel (l, p, (N, D), (l.length : Int), 0, (l.length : Int))) (l, p, (N, D), (l.length : Int), 0, (l.length : Int)) ⟨0, l.length, rfl, by omega, by omega, by simp, by simp⟩ (by show _ < _ + 1; omega)
  · obtain ⟨_, h, k, rfl, h1, h3, h4⟩ := this
    by_cases hk : k < l.length
    · refine ⟨k, cmpF (l[k] * N) (p * D) == 0, ?_, h1, h3, h4⟩
      unfold bsearch
      dsimp only
      rw [show bsearchL (l, p, (N, D), (l.length : Int), 0, (l.length : Int)) = _ from h, ob_s]
      dsimp only
      rw [br_t (by simp; omega), get_idx hk, ob_s, nearBI_eq (hb _ (List.getElem_mem hk)) h2, ob_s]
    · refine ⟨k, false, ?_, h1, h3, h4⟩
      unfold bsearch
      dsimp only
      rw [show bsearchL (l, p, (N, D), (l.length : Int), 0, (l.length : Int)) = _ from h, ob_s]
      dsimp only
      rw [br_f (by simp; omega)]
  · rintro _ ⟨i, k, rfl, hik, hk, h1, h3⟩
    by_cases hlt : i < k
    · have e : IntKind.i64.wrap (shrI IntKind.u64 (IntKind.u64.wrap (IntKind.i64.wrap ((i : Int) + (k : Int)))) 1) = (((i + k) / 2 : Nat) : Int) := by
        have e0 : IntKind.i64.wrap ((i : Int) + (k : Int)) = ((i + k : Nat) : Int) := by rw [w64 (by omega) (by omega)]; omega
        rw [e0, wu64 (by omega) (by omega)]
        have e1 : shrI IntKind.u64 ((i + k : Nat) : Int) 1 = (((i + k) / 2 : Nat) : Int) := by
          show ((i + k : Nat) : Int).fdiv 2 = _
          rw [Int.fdiv_eq_ediv_of_nonneg _ (by omega)]
          omega
        rw [e1]
        exact w64 (by omega) (by omega)
      have hm : (i + k) / 2 < l.length := by omega
      have hmm := List.getElem_mem hm
      by_cases hv : l[(i + k) / 2] * N < p * D
      · refine ⟨.next, (l, p, (N, D), (l.length : Int), (((i + k) / 2 + 1 : Nat) : Int), (k : Int)), ?_, fun _ => ⟨⟨(i + k) / 2 + 1, k, rfl, by omega, hk, fun y hy => ?_, h3⟩, ?_⟩, fun h => (by cases h), by intro h; cases h⟩
        · unfold bsearchL_step
          dsimp only
          rw [br_t (by simp; omega), e, get_idx hm, ob_s, nearBI_eq (hb _ hmm) h2, ob_s, br_t (by simpa using cmpF_neg.2 hv), w64 (by omega) (by omega)]
          rfl
        · obtain ⟨j, hj, rfl⟩ := List.mem_iff_getElem.1 hy
          rw [List.length_take] at hj
          rw [List.getElem_take]
          rcases (by omega : j = (i + k) / 2 ∨ j < (i + k) / 2) with rfl | hj
          · exact hv
          · exact Int.lt_of_le_of_lt (hmono (List.pairwise_iff_getElem.1 hs j _ (by omega) hm hj)) hv
        · show ((k : Int) - (((i + k) / 2 + 1 : Nat) : Int)).toNat < ((k : Int) - (i : Int)).toNat
          omega
      · refine ⟨.next, (l, p, (N, D), (l.length : Int), (i : Int), (((i + k) / 2 : Nat) : Int)), ?_, fun _ => ⟨⟨i, (i + k) / 2, rfl, by omega, by omega, h1, fun y hy => ?_⟩, ?_⟩, fun h => (by cases h), by intro h; cases h⟩
        · unfold bsearchL_step
          dsimp only
          rw [br_t (by simp; omega), e, get_idx hm, ob_s, nearBI_eq (hb _ hmm) h2, ob_s, br_f (by have := cmpF_neg (a := l[(i + k) / 2] * N) (b := p * D); simp; omega)]
        · obtain ⟨j, hj, rfl⟩ := List.mem_iff_getElem.1 hy
          rw [List.length_drop] at hj
          rw [List.getElem_drop]
          rcases (by omega : j = 0 ∨ 0 < j) with rfl | hj0
          · simpa using hv
          · exact Int.le_trans (Int.not_lt.1 hv) (hmono (List.pairwise_iff_getElem.1 hs _ _ hm (by omega) (by omega)))
        · show ((((i + k) / 2 : Nat) : Int) - (i : Int)).toNat < ((k : Int) - (i : Int)).toNat
          omega
    · obtain rfl : i = k := by omega
      refine ⟨.out, (l, p, (N, D), (l.length : Int), (i : Int), (i : Int)), ?_, fun h => (by cases h), fun _ => ⟨i, rfl, hk, h1, h3⟩, by intro h; cases h⟩
      unfold bsearchL_step
      dsimp only
      rw [br_f (by simp)]
/-! ### The nearest products -/
theorem tw_len {α : Type} {f : α → Bool} : ∀ {l : List α} {k : Nat}, k ≤ l.length → (∀ y ∈ l.take k, f y = true) → (∀ y ∈ l.drop k, f y = false) → (l.takeWhile f).length = k
  | [], k, h, _, _ => by simp at h; simp [h]
  | y :: l, 0, _, _, h => by
    have := h y (by simp)
    simp [List.takeWhile_cons, this]
  | y :: l, k + 1, h, h1, h2 => by
    have h0 := h1 y (by simp)
    rw [List.takeWhile_cons, if_pos h0, List.length_cons, tw_len (by simpa using h) (fun z hz => h1 z (by simp [hz])) (fun z hz => h2 z (by simpa using hz))]
def kOf (N D : Int) (qs : List Int) (p : Int) : Nat := (qs.takeWhile fun q => decide (q * N < p * D)).length
def winOf (N D : Int) (qs : List Int) (p : Int) : List Int := (qs.take (kOf N D qs p + 1)).drop (kOf N D qs p - 1)
theorem win_len (N D : Int) (qs : List Int) (p : Int) : (winOf N D qs p).length ≤ 2 := by
  unfold winOf
  rw [List.length_drop, List.length_take]; omega
theorem win_sub {N D : Int} {qs : List Int} {p q : Int} (h : q ∈ winOf N D qs p) : q ∈ qs := List.take_subset _ _ (List.drop_subset _ _ h)
theorem kOf_eq {N D : Int} {qs : List Int} {p : Int} {k : Nat} (hk : k ≤ qs.length) (h1 : ∀ y ∈ qs.take k, y * N < p * D) (h2 : ∀ y ∈ qs.drop k, p * D ≤ y * N) : kOf N D qs p = k :=
  tw_len hk (fun y hy => by simpa using h1 y hy) (fun y hy => by have := h2 y hy; simp; omega)
theorem mem_win {N D : Int} {qs : List Int} {p : Int} {j : Nat} (hj : j < qs.length) (h1 : kOf N D qs p - 1 ≤ j) (h2 : j ≤ kOf N D qs p) : qs[j] ∈ winOf N D qs p := by
  unfold winOf
  refine List.mem_iff_getElem.2 ⟨j - (kOf N D qs p - 1), by rw [List.length_drop, List.length_take]; omega, ?_⟩
  rw [List.getElem_drop, List.getElem_take]
  congr 1
  omega
/-- Each product is near, or a near one is better. -/
theorem win_all {N D : Int} {qs : List Int} {p : Int} (hN : 0 < N) (hD : 0 < D) (hp : 0 < p) (hs : qs.Pairwise (· ≤ ·)) (hq : ∀ q ∈ qs, 0 < q) {k : Nat} (hk : k ≤ qs.length) (h1 : ∀ y ∈ qs.take k, y * N < p * D) (h2 : ∀ y ∈ qs.drop k, p * D ≤ y * N) {q : Int} (h : q ∈ qs) :
    ∃ q' ∈ winOf N D qs p, q' = q ∨ farQ N D p q' * q < farQ N D p q * q' := by
  have ek := kOf_eq hk h1 h2
  obtain ⟨j, hj, rfl⟩ := List.mem_iff_getElem.1 h
  have hle : ∀ {a b : Nat} (ha : a < qs.length) (hb : b < qs.length), a < b → qs[a] ≤ qs[b] := fun ha hb h => List.pairwise_iff_getElem.1 hs _ _ ha hb h
  rcases (by omega : j < k - 1 ∨ (k - 1 ≤ j ∧ j ≤ k) ∨ k < j) with hj1 | ⟨hj1, hj2⟩ | hj1
  · have hk1 : k - 1 < qs.length := by omega
    refine ⟨qs[k - 1], mem_win hk1 (by omega) (by omega), ?_⟩
    have := hle hj hk1 hj1
    rcases (by omega : qs[k - 1] = qs[j] ∨ qs[j] < qs[k - 1]) with e | hlt
    · exact .inl e
    · refine .inr (near_left hp hD hN (hq _ h) hlt ?_)
      have := h1 qs[k - 1] (List.mem_iff_getElem.2 ⟨k - 1, by rw [List.length_take]; omega, by rw [List.getElem_take]⟩)
      omega
  · exact ⟨qs[j], mem_win hj (by omega) (by omega), .inl rfl⟩
  · have hk1 : k < qs.length := by omega
    refine ⟨qs[k], mem_win hk1 (by omega) (by omega), ?_⟩
    have := hle hk1 hj hj1
    rcases (by omega : qs[k] = qs[j] ∨ qs[k] < qs[j]) with e | hlt
    · exact .inl e
    · exact .inr (near_right hp hD hN (hq _ (List.getElem_mem hk1)) hlt (h2 _ (drop_head hk1)))

/-! ### The best misses -/
def putMiss (best : List (Int × Int × Int)) (m : Int × Int × Int) : List (Int × Int × Int) :=
  match best with
  | [] => [m]
  | m0 :: r => if m.2.2 * m0.2.1 < m0.2.2 * m.2.1 then [m] else if m.2.2 * m0.2.1 = m0.2.2 * m.2.1 then (m0 :: r) ++ [m] else m0 :: r
theorem putMiss_len (best : List (Int × Int × Int)) (m : Int × Int × Int) : (putMiss best m).length ≤ best.length + 1 := by
  unfold putMiss
  split
  · simp
  · split
    · simp
    · split <;> simp
structure MB (N D : Int) (U : Int → Int → Prop) (best : List (Int × Int × Int)) : Prop where
  is : ∀ m ∈ best, U m.1 m.2.1 ∧ m.2.2 = farQ N D m.1 m.2.1
  le : ∀ m ∈ best, ∀ p q, U p q → m.2.2 * q ≤ farQ N D p q * m.2.1
  all : ∀ m ∈ best, ∀ p q, U p q → m.2.2 * q = farQ N D p q * m.2.1 → (p, q, farQ N D p q) ∈ best
  ne : (∃ p q, U p q) → best ≠ []
theorem MB.put {N D : Int} {U : Int → Int → Prop} {best : List (Int × Int × Int)} (h : MB N D U best) (hU : ∀ p q, U p q → 0 < q) {p q : Int} (hq : 0 < q) : MB N D (fun p' q' => U p' q' ∨ (p' = p ∧ q' = q)) (putMiss best (p, q, farQ N D p q)) := by
  unfold putMiss
  split
  · have hn : ∀ p q, ¬ U p q := fun p q hu => h.ne ⟨p, q, hu⟩ rfl
    refine ⟨fun m hm => ?_, fun m hm p' q' hu => ?_, fun m hm p' q' hu e => ?_, fun _ => by simp⟩
    · simp at hm; subst hm; exact ⟨.inr ⟨rfl, rfl⟩, rfl⟩
    · simp at hm; subst hm
      rcases hu with hu | ⟨rfl, rfl⟩
      · exact absurd hu (hn _ _)
      · exact Int.le_refl _
    · rcases hu with hu | ⟨rfl, rfl⟩
      · exact absurd hu (hn _ _)
      · simp
  · rename_i m0 r
    have hm0 : m0 ∈ m0 :: r := by simp
    obtain ⟨u0, f0⟩ := h.is m0 hm0
    have q0 := hU _ _ u0
    dsimp only
    by_cases h1 : farQ N D p q * m0.2.1 < m0.2.2 * q
    · rw [if_pos h1]
      refine ⟨fun m hm => ?_, fun m hm p' q' hu => ?_, fun m hm p' q' hu e => ?_, fun _ => by simp⟩
      · simp at hm; subst hm; exact ⟨.inr ⟨rfl, rfl⟩, rfl⟩
      · simp at hm; subst hm
        rcases hu with hu | ⟨rfl, rfl⟩
        · exact Int.le_of_lt (cross_lt1 hq q0 (hU _ _ hu) h1 (h.le m0 hm0 p' q' hu))
        · exact Int.le_refl _
      · simp at hm; subst hm
        rcases hu with hu | ⟨rfl, rfl⟩
        · have := cross_lt1 hq q0 (hU _ _ hu) h1 (h.le m0 hm0 p' q' hu)
          dsimp only at e
          omega
        · simp
    · rw [if_neg h1]
      by_cases h2 : farQ N D p q * m0.2.1 = m0.2.2 * q
      · rw [if_pos h2]
        have hle : ∀ m ∈ m0 :: r, m.2.2 * q ≤ farQ N D p q * m.2.1 := fun m hm => by
          obtain ⟨u, f⟩ := h.is m hm
          have := h.le m hm _ _ u0
          rw [← f0] at this
          exact cross_le (hU _ _ u) q0 hq this (by omega)
        refine ⟨fun m hm => ?_, fun m hm p' q' hu => ?_, fun m hm p' q' hu e => ?_, fun _ => by simp⟩
        · rcases List.mem_append.1 hm with hm | hm
          · exact ⟨.inl (h.is m hm).1, (h.is m hm).2⟩
          · simp at hm; subst hm; exact ⟨.inr ⟨rfl, rfl⟩, rfl⟩
        · rcases List.mem_append.1 hm with hm1 | hm1
          · rcases hu with hu | ⟨rfl, rfl⟩
            · exact h.le m hm1 p' q' hu
            · exact hle m hm1
          · simp at hm1; subst hm1
            rcases hu with hu | ⟨rfl, rfl⟩
            · exact cross_le (f1 := farQ N D p q) (f2 := m0.2.2) (q1 := q) hq q0 (hU _ _ hu) (by omega) (h.le m0 hm0 p' q' hu)
            · exact Int.le_refl _
        · rcases hu with hu | ⟨rfl, rfl⟩
          · rcases List.mem_append.1 hm with hm | hm
            · exact List.mem_append_left _ (h.all m hm p' q' hu e)
            · simp at hm; subst hm
              have e1 := h.le m0 hm0 p' q' hu
              have e2 := cross_le (hU _ _ hu) hq q0 (f1 := farQ N D p' q') (f2 := farQ N D p q) (f3 := m0.2.2) (by dsimp only at e; omega) (by omega)
              exact List.mem_append_left _ (h.all m0 hm0 p' q' hu (by omega))
          · simp
      · rw [if_neg h2]
        have hlt : ∀ m ∈ m0 :: r, m.2.2 * q < farQ N D p q * m.2.1 := fun m hm => by
          obtain ⟨u, f⟩ := h.is m hm
          have := h.le m hm _ _ u0
          rw [← f0] at this
          exact cross_lt2 (hU _ _ u) q0 hq this (by omega)
        refine ⟨fun m hm => ⟨.inl (h.is m hm).1, (h.is m hm).2⟩, fun m hm p' q' hu => ?_, fun m hm p' q' hu e => ?_, fun _ => by simp⟩
        · rcases hu with hu | ⟨rfl, rfl⟩
          · exact h.le m hm p' q' hu
          · exact Int.le_of_lt (hlt m hm)
        · rcases hu with hu | ⟨rfl, rfl⟩
          · exact h.all m hm p' q' hu e
          · have := hlt m hm; omega
theorem MB.congr {N D : Int} {U U' : Int → Int → Prop} {best : List (Int × Int × Int)} (h : MB N D U best) (e : ∀ p q, U' p q ↔ U p q) : MB N D U' best := by
  have : U' = U := by funext p q; exact propext (e p q)
  rw [this]; exact h
def putWin (N D p : Int) (b : List (Int × Int × Int)) (q : Int) : List (Int × Int × Int) := putMiss b (p, q, farQ N D p q)
theorem MB.win {N D p : Int} : ∀ {w : List Int} {U : Int → Int → Prop} {best : List (Int × Int × Int)}, MB N D U best → (∀ p q, U p q → 0 < q) → (∀ q ∈ w, 0 < q) → MB N D (fun p' q' => U p' q' ∨ (p' = p ∧ q' ∈ w)) (w.foldl (putWin N D p) best)
  | [], U, best, h, _, _ => h.congr fun p q => by simp
  | q :: w, U, best, h, hU, hw => by
    have h1 := h.put (N := N) (D := D) hU (p := p) (hw q (by simp))
    have := MB.win (p := p) (w := w) h1 (fun p' q' hu => by
      rcases hu with hu | ⟨_, rfl⟩
      · exact hU _ _ hu
      · exact hw _ (by simp)) (fun q' hq' => hw q' (by simp [hq']))
    exact this.congr fun p' q' => by
      simp only [List.mem_cons]
      constructor
      · rintro (h | ⟨h, h' | h'⟩)
        · exact .inl (.inl h)
        · exact .inl (.inr ⟨h, h'⟩)
        · exact .inr ⟨h, h'⟩
      · rintro ((h | ⟨h, h'⟩) | ⟨h, h'⟩)
        · exact .inl h
        · exact .inr ⟨h, .inl h'⟩
        · exact .inr ⟨h, .inr h'⟩
def putAll (N D : Int) (qs : List Int) (b : List (Int × Int × Int)) (p : Int) : List (Int × Int × Int) := (winOf N D qs p).foldl (putWin N D p) b
theorem MB.all_ps {N D : Int} {qs : List Int} (hq : ∀ q ∈ qs, 0 < q) : ∀ {ps : List Int} {U : Int → Int → Prop} {best : List (Int × Int × Int)}, MB N D U best → (∀ p q, U p q → 0 < q) → MB N D (fun p' q' => U p' q' ∨ (p' ∈ ps ∧ q' ∈ winOf N D qs p')) (ps.foldl (putAll N D qs) best)
  | [], U, best, h, _ => h.congr fun p q => by simp
  | p :: ps, U, best, h, hU => by
    have h1 := h.win (p := p) hU (w := winOf N D qs p) fun q hm => hq q (win_sub hm)
    have := MB.all_ps hq (ps := ps) h1 (fun p' q' hu => by
      rcases hu with hu | ⟨_, hu⟩
      · exact hU _ _ hu
      · exact hq _ (win_sub hu))
    exact this.congr fun p' q' => by
      simp only [List.mem_cons]
      constructor
      · rintro (h | ⟨h | h, h'⟩)
        · exact .inl (.inl h)
        · subst h; exact .inl (.inr ⟨rfl, h'⟩)
        · exact .inr ⟨h, h'⟩
      · rintro ((h | ⟨h, h'⟩) | ⟨h, h'⟩)
        · exact .inl h
        · subst h; exact .inr ⟨.inl rfl, h'⟩
        · exact .inr ⟨.inr h, h'⟩
theorem putWin_len {N D p : Int} : ∀ (w : List Int) (b : List (Int × Int × Int)), (w.foldl (putWin N D p) b).length ≤ b.length + w.length
  | [], b => by simp
  | q :: w, b => by
    have h1 := putWin_len (N := N) (D := D) (p := p) w (putWin N D p b q)
    have h2 := putMiss_len b (p, q, farQ N D p q)
    rw [List.foldl_cons, List.length_cons]
    unfold putWin at h1 ⊢
    omega

/-! ### The loops of the program -/
theorem missI_eq {p q N D : Int} (n1 : 1 ≤ N) (n2 : N ≤ 1000000) (d1 : 1 ≤ D) (d2 : D ≤ 1000000) (p1 : 1 ≤ p) (p2 : p ≤ 1728000) (q1 : 1 ≤ q) (q2 : q ≤ 1728000) : missI (p, q, N, D) = some (p, q, farQ N D p q) := by
  have h1 := mul_bd (a := p) (b := D) (by omega) (by omega) p2 d2
  have h2 := mul_bd (a := q) (b := N) (by omega) (by omega) q2 n2
  unfold missI
  dsimp only
  rw [w64 (x := p * D) (by omega) (by omega), w64 (x := q * N) (by omega) (by omega), w64 (by omega) (by omega), absI_w (by omega) (by omega), ob_s]
  rfl
theorem missC_eq {m m0 : Int × Int × Int} (h1 : 0 ≤ m.2.2 * m0.2.1 ∧ m.2.2 * m0.2.1 ≤ 9000000000000000000) (h2 : 0 ≤ m0.2.2 * m.2.1 ∧ m0.2.2 * m.2.1 ≤ 9000000000000000000) : missC (m, m0) = some (cmpF (m.2.2 * m0.2.1) (m0.2.2 * m.2.1)) := by
  unfold missC
  dsimp only
  rw [w64 (by omega) (by omega), w64 (by omega) (by omega), cmpI_eq, ob_s]
structure MissOk (m : Int × Int × Int) : Prop where
  q1 : 1 ≤ m.2.1
  q2 : m.2.1 ≤ 1728000
  f1 : 0 ≤ m.2.2
  f2 : m.2.2 ≤ 1728000000000
theorem MissOk.of {p q N D : Int} (n1 : 1 ≤ N) (n2 : N ≤ 1000000) (d1 : 1 ≤ D) (d2 : D ≤ 1000000) (p1 : 1 ≤ p) (p2 : p ≤ 1728000) (q1 : 1 ≤ q) (q2 : q ≤ 1728000) : MissOk (p, q, farQ N D p q) :=
  ⟨q1, q2, absN_nn _, far_bd n1 n2 d1 d2 p1 p2 q1 q2⟩
theorem missC_law {m m0 : Int × Int × Int} (h : MissOk m) (h0 : MissOk m0) : missC (m, m0) = some (cmpF (m.2.2 * m0.2.1) (m0.2.2 * m.2.1)) := by
  have e1 := mul_bd (a := m.2.2) (b := m0.2.1) h.f1 (by have := h0.q1; omega) h.f2 h0.q2
  have e2 := mul_bd (a := m0.2.2) (b := m.2.1) h0.f1 (by have := h.q1; omega) h0.f2 h.q2
  exact missC_eq ⟨e1.1, by omega⟩ ⟨e2.1, by omega⟩
theorem putMiss_ok {best : List (Int × Int × Int)} {m : Int × Int × Int} (h : ∀ y ∈ best, MissOk y) (hm : MissOk m) : ∀ y ∈ putMiss best m, MissOk y := by
  unfold putMiss
  intro y hy
  split at hy
  · simp at hy; subst hy; exact hm
  · split at hy
    · simp at hy; subst hy; exact hm
    · split at hy
      · rcases List.mem_append.1 hy with hy | hy
        · exact h y hy
        · simp at hy; subst hy; exact hm
      · exact h y hy
section
variable {N D : Int} {s1 s2 : List Int × List (Int × List (List Int))}
theorem bestL00_eq (n1 : 1 ≤ N) (n2 : N ≤ 1000000) (d1 : 1 ≤ D) (d2 : D ≤ 1000000) {p lp i : Int} (p1 : 1 ≤ p) (p2 : p ≤ 1728000) (hq : ∀ q ∈ s2.1, 1 ≤ q ∧ q ≤ 1728000) (hl : s2.1.length ≤ 100000)
    {best : List (Int × Int × Int)} (hb : ∀ y ∈ best, MissOk y) (hbl : best.length ≤ 1000000) (hk : kOf N D s2.1 p ≤ s2.1.length) :
    ∃ j, bestL00 ((N, D), s1, s2, best, p, (kOf N D s2.1 p : Int), ((kOf N D s2.1 p - 1 : Nat) : Int), (), lp, i) = some ((N, D), s1, s2, putAll N D s2.1 best p, p, (kOf N D s2.1 p : Int), j, (), lp, i) ∧ ∀ y ∈ putAll N D s2.1 best p, MissOk y := by
  have hwl := win_len N D s2.1 p
  have hlen : (winOf N D s2.1 p).length = min (kOf N D s2.1 p + 1) s2.1.length - (kOf N D s2.1 p - 1) := by
    unfold winOf
    rw [List.length_drop, List.length_take]
  have := fold_loop (step := bestL00_step) (l := winOf N D s2.1 p) (fun j b => ((N, D), s1, s2, b, p, (kOf N D s2.1 p : Int), ((kOf N D s2.1 p - 1 : Nat) : Int) + j, (), lp, i)) (putWin N D p)
    (fun j b => b.length ≤ best.length + j.toNat ∧ ∀ y ∈ b, MissOk y) (fun b => ((N, D), s1, s2, b, p, (kOf N D s2.1 p : Int), ((kOf N D s2.1 p - 1 : Nat) : Int) + ((winOf N D s2.1 p).length : Int), (), lp, i))
    (fun j b q hj0 hj1 hy hJ => ?_) (fun b hJ => ?_) (n := bestL00_fuel ((N, D), s1, s2, best, p, (kOf N D s2.1 p : Int), ((kOf N D s2.1 p - 1 : Nat) : Int), (), lp, i)) ?_ (a0 := best) ⟨by simp, hb⟩
  · refine ⟨((kOf N D s2.1 p - 1 : Nat) : Int) + ((winOf N D s2.1 p).length : Int), ?_, this.2.2⟩
    have h := this.1
    rw [Int.add_zero] at h
    exact h
  · obtain ⟨hJ1, hJ2⟩ := hJ
    have hqm := win_sub (idx_mem hy)
    obtain ⟨q1, q2⟩ := hq q hqm
    have hjl : kOf N D s2.1 p - 1 + j.toNat < s2.1.length := by omega
    have hgo : s2.1[kOf N D s2.1 p - 1 + j.toNat]? = some q := by
      unfold idx at hy
      rw [if_pos hj0] at hy
      unfold winOf at hy
      rw [List.getElem?_drop, List.getElem?_take] at hy
      split at hy
      · exact hy
      · cases hy
    have hix : ((kOf N D s2.1 p - 1 : Nat) : Int) + j = ((kOf N D s2.1 p - 1 + j.toNat : Nat) : Int) := by omega
    have hm := MissOk.of n1 n2 d1 d2 p1 p2 q1 q2
    refine ⟨?_, ?_, putMiss_ok hJ2 hm⟩
    · unfold bestL00_step
      dsimp only
      rw [br_t (by simp; omega), br_t (by simp; omega), hix, idx_nat (y := q) (by omega) (by rw [Int.toNat_natCast]; exact hgo), ob_s, gi, Int.toNat_natCast, hgo, ob_s, missI_eq n1 n2 d1 d2 p1 p2 q1 q2, ob_s]
      dsimp only
      rw [w64 (by omega) (by omega), show ((kOf N D s2.1 p - 1 + j.toNat : Nat) : Int) + 1 = ((kOf N D s2.1 p - 1 : Nat) : Int) + (j + 1) by omega]
      unfold putWin putMiss
      cases b with
      | nil =>
        rw [br_f (by simp), br_t (by simp), br_t (by simp)]
        rfl
      | cons m0 r =>
        have h0 := hJ2 m0 (by simp)
        have ei : idx (m0 :: r) 0 = some m0 := rfl
        have eg : (m0 :: r)[Int.toNat 0]? = some m0 := rfl
        have ec := missC_law hm h0
        rw [List.length_cons] at hJ1
        rw [br_t (by simp only [decide_eq_true_eq, List.length_cons]; omega), ei, ob_s, gi, eg, ob_s, show missC ((p, q, farQ N D p q), m0.1, m0.2.1, m0.2.2) = _ from ec, ob_s]
        dsimp only
        by_cases c1 : farQ N D p q * m0.2.1 < m0.2.2 * q
        · rw [br_t (by simpa using cmpF_neg.2 c1), br_t (by simp), if_pos c1]
        · rw [br_f (by have := cmpF_neg (a := farQ N D p q * m0.2.1) (b := m0.2.2 * q); simp; omega), br_f (by simp only [beq_eq_false_iff_ne, List.length_cons]; omega), ob_s, ob_s, show missC ((p, q, farQ N D p q), m0.1, m0.2.1, m0.2.2) = _ from ec, ob_s, if_neg c1]
          dsimp only
          by_cases c2 : farQ N D p q * m0.2.1 = m0.2.2 * q
          · rw [br_t (by simpa using cmpF_zero.2 c2), br_t (by simp; omega), if_pos c2]
          · rw [br_f (by have := cmpF_zero (a := farQ N D p q * m0.2.1) (b := m0.2.2 * q); simp; omega), if_neg c2]
    · have := putMiss_len b (p, q, farQ N D p q)
      unfold putWin
      omega
  · unfold bestL00_step
    dsimp only
    by_cases hc : ((kOf N D s2.1 p - 1 : Nat) : Int) + ((winOf N D s2.1 p).length : Int) ≤ (kOf N D s2.1 p : Int)
    · rw [br_t (by simpa using hc), br_f (by simp; omega)]
    · rw [br_f (by simpa using hc)]
  · show _ < ((kOf N D s2.1 p : Int) + 1 - ((kOf N D s2.1 p - 1 : Nat) : Int)).toNat + 1
    omega
theorem bestL0_eq (n1 : 1 ≤ N) (n2 : N ≤ 1000000) (d1 : 1 ≤ D) (d2 : D ≤ 1000000) (hp : ∀ p ∈ s1.1, 1 ≤ p ∧ p ≤ 1728000) (hpl : s1.1.length ≤ 100000) (hq : ∀ q ∈ s2.1, 1 ≤ q ∧ q ≤ 1728000) (hl : s2.1.length ≤ 100000) (hs : s2.1.Pairwise (· ≤ ·)) :
    bestL0 ((N, D), s1, s2, [], (), (s1.1.length : Int), 0) = some ((N, D), s1, s2, s1.1.foldl (putAll N D s2.1) [], (), (s1.1.length : Int), (s1.1.length : Int)) ∧ (s1.1.foldl (putAll N D s2.1) []).length ≤ 1000000 := by
  have := fold_loop (step := bestL0_step) (l := s1.1) (fun j b => ((N, D), s1, s2, b, (), (s1.1.length : Int), j)) (putAll N D s2.1)
    (fun j b => b.length ≤ 2 * j.toNat ∧ ∀ y ∈ b, MissOk y) (fun b => ((N, D), s1, s2, b, (), (s1.1.length : Int), (s1.1.length : Int)))
    (fun j b p hj0 hj1 hy hJ => ?_) (fun b hJ => ?_) (n := bestL0_fuel ((N, D), s1, s2, [], (), (s1.1.length : Int), 0)) ?_ (a0 := []) ⟨by simp, by simp⟩
  · exact ⟨this.1, by have := this.2.1; omega⟩
  · obtain ⟨hJ1, hJ2⟩ := hJ
    obtain ⟨p1, p2⟩ := hp p (idx_mem hy)
    have hy2 : s1.1[j.toNat]? = some p := by
      unfold idx at hy
      rw [if_pos hj0] at hy
      exact hy
    have hpd := mul_bd (a := p) (b := D) (by omega) (by omega) p2 d2
    obtain ⟨k, kb, ek, k1, k2, k3⟩ := bsearch_eq (l := s2.1) (p := p) (N := N) (D := D) (by omega) hl hs (fun y hy => by
      obtain ⟨a, b⟩ := hq y hy
      have := mul_bd (a := y) (b := N) (by omega) (by omega) b n2
      exact ⟨this.1, by omega⟩) ⟨hpd.1, by omega⟩
    obtain rfl := kOf_eq k1 k2 k3
    obtain ⟨j', e, hok⟩ := bestL00_eq (s1 := (s1.1, s1.2)) (s2 := (s2.1, s2.2)) n1 n2 d1 d2 (lp := (s1.1.length : Int)) (i := j) p1 p2 hq hl hJ2 (by omega) k1
    refine ⟨?_, ?_, hok⟩
    · unfold bestL0_step
      dsimp only
      rw [br_t (by simp; omega), hy, ob_s, gi, hy2, ob_s, ek, ob_s]
      dsimp only
      have hw : (br (decide (IntKind.i64.wrap ((kOf N D s2.1 p : Int) - 1) < 0)) 0 (IntKind.i64.wrap ((kOf N D s2.1 p : Int) - 1)) : Int) = ((kOf N D s2.1 p - 1 : Nat) : Int) := by
        rw [w64 (by omega) (by omega)]
        by_cases h0 : kOf N D s2.1 p = 0
        · rw [br_t (by simp; omega)]; omega
        · rw [br_f (by simp; omega)]; omega
      rw [hw, show bestL00 ((N, D), (s1.1, s1.2), (s2.1, s2.2), b, p, (kOf N D s2.1 p : Int), ((kOf N D s2.1 p - 1 : Nat) : Int), PUnit.unit, ((List.length s1.1 : Nat) : Int), j) = _ from e, ob_s]
      dsimp only
      rw [w64 (by omega) (by omega)]
    · have h1 := putWin_len (N := N) (D := D) (p := p) (winOf N D s2.1 p) b
      have h2 := win_len N D s2.1 p
      unfold putAll
      omega
  · unfold bestL0_step
    dsimp only
    rw [br_f (by simp)]
  · show s1.1.length < ((s1.1.length : Int) - 0).toNat + 1
    omega
end
/-! ### The least train -/
def minT (o : Option (List (Int × Int))) (t : List (Int × Int)) : Option (List (Int × Int)) :=
  match o with
  | none => some t
  | some u => if cmpT t u < 0 then some t else some u
theorem minT_fold : ∀ (l : List (List (Int × Int))) (o : Option (List (Int × Int))), (∃ u, o = some u) ∨ l ≠ [] → ∃ t, l.foldl minT o = some t ∧ (o = some t ∨ t ∈ l) ∧ (∀ u, o = some u → leT t u = true) ∧ ∀ u ∈ l, leT t u = true
  | [], o, h => by
    rcases h with ⟨u, rfl⟩ | h
    · exact ⟨u, rfl, .inl rfl, fun v hv => (by cases hv; have := leT_total u u; simpa using this), by simp⟩
    · exact absurd rfl h
  | x :: l, o, _ => by
    rw [List.foldl_cons]
    cases o with
    | none =>
      obtain ⟨t, e, h1, h2, h3⟩ := minT_fold l (some x) (.inl ⟨x, rfl⟩)
      refine ⟨t, e, .inr ?_, fun u hu => (by cases hu), fun u hu => ?_⟩
      · rcases h1 with h1 | h1
        · cases h1; simp
        · simp [h1]
      · rcases List.mem_cons.1 hu with rfl | hu
        · exact h2 _ rfl
        · exact h3 u hu
    | some v =>
      by_cases hc : cmpT x v < 0
      · obtain ⟨t, e, h1, h2, h3⟩ := minT_fold l (some x) (.inl ⟨x, rfl⟩)
        have hxv : leT x v = true := by
          rw [leT_iff]
          intro h
          rw [cmpT_lt] at hc
          exact absurd h (List.lt_asymm hc)
        refine ⟨t, by rw [show minT (some v) x = some x by show (if cmpT x v < 0 then some x else some v) = _; rw [if_pos hc]]; exact e, .inr ?_, fun u hu => (by cases hu; exact leT_trans (h2 _ rfl) hxv), fun u hu => ?_⟩
        · rcases h1 with h1 | h1
          · cases h1; simp
          · simp [h1]
        · rcases List.mem_cons.1 hu with rfl | hu
          · exact h2 _ rfl
          · exact h3 u hu
      · obtain ⟨t, e, h1, h2, h3⟩ := minT_fold l (some v) (.inl ⟨v, rfl⟩)
        have hvx : leT v x = true := by
          rw [leT_iff, ← cmpT_lt]
          exact hc
        refine ⟨t, by rw [show minT (some v) x = some v by show (if cmpT x v < 0 then some x else some v) = _; rw [if_neg hc]]; exact e, ?_, h2, fun u hu => ?_⟩
        · rcases h1 with h1 | h1
          · exact .inl h1
          · exact .inr (by simp [h1])
        · rcases List.mem_cons.1 hu with rfl | hu
          · exact leT_trans (h2 _ rfl) hvx
          · exact h3 u hu
end
end Rx
end Go.Proofs.YthfgpnpoocepeaaGreat

namespace Go.Proofs.YthfgpnpoocepeaaGreat
namespace Rx
open Go

noncomputable section
section
variable {lo hi lo' hi' : Int} {n : Nat} {s1 s2 : List Int × List (Int × List (List Int))}
theorem bestL100_eq (hn : n ≤ 3) (hn1 : 1 ≤ n) {m : Int × Int × Int} {a : List Int} {best : List (Int × Int × Int)} {lb i lA j : Int} {A B : List (List Int)} (ha : IsW lo hi n a) (hB : ∀ b ∈ B, IsW lo' hi' n b) (hl : B.length ≤ 1000000)
    {tr : Option (List (Int × Int))} (ht : ∀ u, tr = some u → u.length ≤ 3) :
    bestL100 (s1, s2, tr, m, a, best, lb, i, A, lA, j, B, (B.length : Int), 0) = some (s1, s2, (B.map (canonF a)).foldl minT tr, m, a, best, lb, i, A, lA, j, B, (B.length : Int), (B.length : Int)) ∧ ∀ u, (B.map (canonF a)).foldl minT tr = some u → u.length ≤ 3 := by
  have := fold_loop (step := bestL100_step) (l := B) (fun k t => (s1, s2, t, m, a, best, lb, i, A, lA, j, B, (B.length : Int), k)) (fun t b => minT t (canonF a b)) (fun _ t => ∀ u, t = some u → u.length ≤ 3)
    (fun t => (s1, s2, t, m, a, best, lb, i, A, lA, j, B, (B.length : Int), (B.length : Int))) (fun k t b hk0 hk1 hy hJ => ?_) (fun t hJ => ?_) (n := bestL100_fuel (s1, s2, tr, m, a, best, lb, i, A, lA, j, B, (B.length : Int), 0)) ?_ (a0 := tr) ht
  · rw [List.foldl_map]
    exact this
  · have hb := hB b (idx_mem hy)
    have hcl : (canonF a b).length = n := by rw [canonF_len (by rw [ha.len, hb.len]), ha.len]
    have hne : List.isEmpty (canonF a b) = false := by
      cases e : canonF a b with
      | nil => rw [e] at hcl; simp at hcl; omega
      | cons _ _ => rfl
    refine ⟨?_, fun u hu => ?_⟩
    · unfold bestL100_step
      dsimp only
      rw [br_t (by simp; omega), hy, ob_s, canonI_eq hn ha hb, ob_s]
      cases t with
      | none =>
        rw [br_t (c := Option.isNone (none : Option (List (Int × Int)))) rfl, br_f hne, w64 (by omega) (by omega)]
        rfl
      | some u =>
        have := hJ u rfl
        rw [br_f (c := Option.isNone (some u)) rfl, show cmpTrI (canonF a b, Option.getD (some u) []) = some (cmpT (canonF a b) u) from cmpTrI_eq (a := canonF a b) (b := u) (by omega) (by omega), ob_s, w64 (by omega) (by omega)]
        by_cases hc : cmpT (canonF a b) u < 0
        · rw [br_t (by simpa using hc), br_f hne, show minT (some u) (canonF a b) = some (canonF a b) from if_pos hc]
        · rw [br_f (by simpa using hc), show minT (some u) (canonF a b) = some u from if_neg hc]
    · cases t with
      | none =>
        obtain rfl : canonF a b = u := by simpa [minT] using hu
        omega
      | some v =>
        have := hJ v rfl
        by_cases hc : cmpT (canonF a b) v < 0
        · rw [show minT (some v) (canonF a b) = some (canonF a b) from if_pos hc] at hu
          cases hu; omega
        · rw [show minT (some v) (canonF a b) = some v from if_neg hc] at hu
          cases hu; exact this
  · unfold bestL100_step
    dsimp only
    rw [br_f (by simp)]
    cases t <;> rfl
  · show B.length < ((B.length : Int) - 0).toNat + 1
    omega
def trM (s2 : List Int × List (Int × List (List Int))) (q : Int) (a : List Int) : List (List (Int × Int)) := (getM s2.2 q).map (canonF a)
theorem bestL10_eq (hn : n ≤ 3) (hn1 : 1 ≤ n) {m : Int × Int × Int} {best : List (Int × Int × Int)} {lb i : Int} {A : List (List Int)} (hA : ∀ a ∈ A, IsW lo hi n a) (hB : ∀ q, ∀ b ∈ getM s2.2 q, IsW lo' hi' n b) (hl : ∀ q, (getM s2.2 q).length ≤ 1000000) (hlA : A.length ≤ 1000000)
    {tr : Option (List (Int × Int))} (ht : ∀ u, tr = some u → u.length ≤ 3) :
    bestL10 (s1, s2, tr, m, best, lb, i, A, (A.length : Int), 0) = some (s1, s2, (A.flatMap (trM s2 m.2.1)).foldl minT tr, m, best, lb, i, A, (A.length : Int), (A.length : Int)) ∧ ∀ u, (A.flatMap (trM s2 m.2.1)).foldl minT tr = some u → u.length ≤ 3 := by
  have := fold_loop (step := bestL10_step) (l := A) (fun k t => (s1, s2, t, m, best, lb, i, A, (A.length : Int), k)) (fun t a => (trM s2 m.2.1 a).foldl minT t) (fun _ t => ∀ u, t = some u → u.length ≤ 3)
    (fun t => (s1, s2, t, m, best, lb, i, A, (A.length : Int), (A.length : Int))) (fun k t a hk0 hk1 hy hJ => ?_) (fun t hJ => ?_) (n := bestL10_fuel (s1, s2, tr, m, best, lb, i, A, (A.length : Int), 0)) ?_ (a0 := tr) ht
  · rw [List.foldl_flatMap]
    exact this
  · obtain ⟨e, e2⟩ := bestL100_eq (s1 := (s1.1, s1.2)) (s2 := (s2.1, s2.2)) (m := (m.1, m.2.1, m.2.2)) (best := best) (lb := lb) (i := i) (lA := (A.length : Int)) (j := k) (A := A) hn hn1 (hA a (idx_mem hy)) (hB m.2.1) (hl m.2.1) hJ
    refine ⟨?_, e2⟩
    have e' : bestL100 ((s1.1, s1.2), (s2.1, s2.2), t, (m.1, m.2.1, m.2.2), a, best, lb, i, A, (A.length : Int), k, getM s2.2 m.2.1, ((getM s2.2 m.2.1).length : Int), 0) = some ((s1.1, s1.2), (s2.1, s2.2), (trM s2 m.2.1 a).foldl minT t, (m.1, m.2.1, m.2.2), a, best, lb, i, A, (A.length : Int), k, getM s2.2 m.2.1, ((getM s2.2 m.2.1).length : Int), ((getM s2.2 m.2.1).length : Int)) := e
    clear e e2
    generalize (trM s2 m.2.1 a).foldl minT t = z at e'
    unfold bestL10_step
    dsimp only
    rw [br_t (by simp; omega), hy, ob_s]
    cases t <;> cases z <;> (dsimp only; rw [e', ob_s]; dsimp only; rw [w64 (by omega) (by omega)])
  · unfold bestL10_step
    dsimp only
    rw [br_f (by simp)]
    cases t <;> rfl
  · show A.length < ((A.length : Int) - 0).toNat + 1
    omega
def trMM (s1 s2 : List Int × List (Int × List (List Int))) (m : Int × Int × Int) : List (List (Int × Int)) := (getM s1.2 m.1).flatMap (trM s2 m.2.1)
theorem bestL1_eq (hn : n ≤ 3) (hn1 : 1 ≤ n) {best : List (Int × Int × Int)} (hbl : best.length ≤ 1000000) (hA : ∀ q, ∀ a ∈ getM s1.2 q, IsW lo hi n a) (hB : ∀ q, ∀ b ∈ getM s2.2 q, IsW lo' hi' n b) (hl1 : ∀ q, (getM s1.2 q).length ≤ 1000000) (hl2 : ∀ q, (getM s2.2 q).length ≤ 1000000) :
    bestL1 (s1, s2, none, best, (best.length : Int), 0) = some (s1, s2, (best.flatMap (trMM s1 s2)).foldl minT none, best, (best.length : Int), (best.length : Int)) := by
  have := fold_loop (step := bestL1_step) (l := best) (fun k t => (s1, s2, t, best, (best.length : Int), k)) (fun t m => (trMM s1 s2 m).foldl minT t) (fun _ t => ∀ u, t = some u → u.length ≤ 3)
    (fun t => (s1, s2, t, best, (best.length : Int), (best.length : Int))) (fun k t m hk0 hk1 hy hJ => ?_) (fun t hJ => ?_) (n := bestL1_fuel (s1, s2, none, best, (best.length : Int), 0)) ?_ (a0 := none) (fun u hu => by cases hu)
  · rw [List.foldl_flatMap]
    exact this.1
  · obtain ⟨e, e2⟩ := bestL10_eq (s1 := (s1.1, s1.2)) (s2 := (s2.1, s2.2)) (m := (m.1, m.2.1, m.2.2)) (best := best) (lb := (best.length : Int)) (i := k) hn hn1 (hA m.1) hB hl2 (hl1 m.1) hJ
    refine ⟨?_, e2⟩
    have e' : bestL10 ((s1.1, s1.2), (s2.1, s2.2), t, (m.1, m.2.1, m.2.2), best, (best.length : Int), k, getM s1.2 m.1, ((getM s1.2 m.1).length : Int), 0) = some ((s1.1, s1.2), (s2.1, s2.2), (trMM s1 s2 m).foldl minT t, (m.1, m.2.1, m.2.2), best, (best.length : Int), k, getM s1.2 m.1, ((getM s1.2 m.1).length : Int), ((getM s1.2 m.1).length : Int)) := e
    clear e e2
    generalize (trMM s1 s2 m).foldl minT t = z at e'
    have hy2 : best[k.toNat]? = some m := by
      unfold idx at hy
      rw [if_pos hk0] at hy
      exact hy
    unfold bestL1_step
    dsimp only
    rw [br_t (by simp; omega), hy, ob_s, gi, hy2, ob_s]
    cases t <;> cases z <;> (dsimp only; rw [e', ob_s]; dsimp only; rw [w64 (by omega) (by omega)])
  · unfold bestL1_step
    dsimp only
    rw [br_f (by simp)]
    cases t <;> rfl
  · show best.length < ((best.length : Int) - 0).toNat + 1
    omega
end
theorem bestI_eq {r : Int × Int} {x : Int × Int × Int × Int × Int} (h : Asked r x) : ∃ t, bestI (r, x) = some t ∧ IsBest r x t := by
  have hx := h.lim
  obtain ⟨s1, s2, e1, e2, g1, g2⟩ := sets_both hx
  obtain ⟨_, h3, hn1⟩ := hx.stg
  obtain ⟨l1, l2⟩ := wh_len hx
  have hp : ∀ p ∈ s1.1, 1 ≤ p ∧ p ≤ 1728000 := fun p hp => by
    obtain ⟨a, ha, rfl⟩ := (g1.mem p).1 hp
    exact wh1_bd hx ha
  have hq : ∀ q ∈ s2.1, 1 ≤ q ∧ q ≤ 1728000 := fun q hq => by
    obtain ⟨b, hb, rfl⟩ := (g2.mem q).1 hq
    exact wh2_bd hx hb
  have hq0 : ∀ q ∈ s2.1, 0 < q := fun q hm => by have := hq q hm; omega
  have hpl := prods_len g1
  have hql := prods_len g2
  obtain ⟨eb, hbl⟩ := bestL0_eq (N := r.1) (D := r.2) (s1 := s1) (s2 := s2) h.n1 h.n2 h.d1 h.d2 hp (by omega) hq (by omega) g2.asc
  have hmb := MB.all_ps (N := r.1) (D := r.2) hq0 (ps := s1.1) (U := fun _ _ => False) (best := []) ⟨by simp, by simp, by simp, fun ⟨_, _, h⟩ => h.elim⟩ (fun _ _ h => h.elim)
  generalize hbest : s1.1.foldl (putAll r.1 r.2 s2.1) [] = best at eb hbl hmb
  have el := bestL1_eq (s1 := s1) (s2 := s2) (lo := x.1) (hi := x.2.1) (lo' := x.2.2.1) (hi' := x.2.2.2.1) (n := stg x) h3 hn1 hbl (fun q a ha => by rw [g1.get] at ha; exact wh1_is (List.mem_filter.1 ha).1) (fun q a ha => by rw [g2.get] at ha; exact wh2_is (List.mem_filter.1 ha).1)
    (fun q => by have := get_len g1 q; omega) (fun q => by have := get_len g2 q; omega)
  -- the trains that are compared
  have hT : ∀ t, t ∈ best.flatMap (trMM s1 s2) ↔ ∃ m ∈ best, ∃ a ∈ wh1 x, ∃ b ∈ wh2 x, prodW a = m.1 ∧ prodW b = m.2.1 ∧ t = canonF a b := fun t => by
    unfold trMM trM
    simp only [List.mem_flatMap, List.mem_map, g1.get, g2.get, List.mem_filter, beq_iff_eq]
    constructor
    · rintro ⟨m, hm, a, ⟨ha, e1⟩, b, ⟨hb, e2⟩, rfl⟩
      exact ⟨m, hm, a, ha, b, hb, e1, e2, rfl⟩
    · rintro ⟨m, hm, a, ha, b, hb, e1, e2, rfl⟩
      exact ⟨m, hm, a, ⟨ha, e1⟩, b, ⟨hb, e2⟩, rfl⟩
  have hcov : ∀ a ∈ wh1 x, ∀ b ∈ wh2 x, ∃ q' ∈ winOf r.1 r.2 s2.1 (prodW a), q' = prodW b ∨ farQ r.1 r.2 (prodW a) q' * prodW b < farQ r.1 r.2 (prodW a) (prodW b) * q' := fun a ha b hb => by
    have n1 := h.n1; have d1 := h.d1
    have pb := wh1_bd hx ha
    have hpd := mul_bd (a := prodW a) (b := r.2) (by omega) (by omega) pb.2 h.d2
    obtain ⟨k, kb, ek, k1, k2, k3⟩ := bsearch_eq (l := s2.1) (p := prodW a) (N := r.1) (D := r.2) (by omega) (by omega) g2.asc (fun y hy => by
      obtain ⟨u, v⟩ := hq y hy
      have := mul_bd (a := y) (b := r.1) (by omega) (by omega) v h.n2
      exact ⟨this.1, by omega⟩) ⟨hpd.1, by omega⟩
    exact win_all (by omega) (by omega) (by omega) g2.asc hq0 k1 k2 k3 ((g2.mem _).2 ⟨b, hb, rfl⟩)
  obtain ⟨a1, ha1⟩ := wh1_some hx
  obtain ⟨b1, hb1⟩ := wh2_some hx
  have hU : ∀ {p q : Int}, p ∈ s1.1 → q ∈ winOf r.1 r.2 s2.1 p → (False ∨ (p ∈ s1.1 ∧ q ∈ winOf r.1 r.2 s2.1 p)) := fun h1 h2 => .inr ⟨h1, h2⟩
  have hne : best.flatMap (trMM s1 s2) ≠ [] := by
    obtain ⟨q', hq', _⟩ := hcov a1 ha1 b1 hb1
    have hb0 := hmb.ne ⟨prodW a1, q', hU ((g1.mem _).2 ⟨a1, ha1, rfl⟩) hq'⟩
    obtain ⟨m, hm⟩ := List.exists_mem_of_ne_nil _ hb0
    obtain ⟨u, _⟩ := hmb.is m hm
    rcases u with u | ⟨u1, u2⟩
    · exact u.elim
    · obtain ⟨a, ha, e1⟩ := (g1.mem _).1 u1
      obtain ⟨b, hb, e2⟩ := (g2.mem _).1 (win_sub u2)
      exact List.ne_nil_of_mem ((hT (canonF a b)).2 ⟨m, hm, a, ha, b, hb, e1, e2, rfl⟩)
  obtain ⟨t, et, h1, _, h4⟩ := minT_fold (best.flatMap (trMM s1 s2)) none (.inr hne)
  rw [et] at el
  refine ⟨t, ?_, ?_⟩
  · unfold bestI
    dsimp only
    rw [e1, ob_s, e2, ob_s]
    rw [show bestL0 ((r.1, r.2), (s1.1, s1.2), (s2.1, s2.2), [], PUnit.unit, ((List.length s1.1 : Nat) : Int), 0) = _ from eb, ob_s]
    dsimp only
    rw [show bestL1 ((s1.1, s1.2), (s2.1, s2.2), none, best, ((List.length best : Nat) : Int), 0) = _ from el, ob_s]
    rfl
  · have ht : t ∈ best.flatMap (trMM s1 s2) := by
      rcases h1 with h1 | h1
      · cases h1
      · exact h1
    obtain ⟨m, hm, a, ha, b, hb, f1, f2, rfl⟩ := (hT t).1 ht
    refine ⟨a, ha, b, hb, rfl, fun a' ha' b' hb' => ?_⟩
    obtain ⟨q', hq', hc⟩ := hcov a' ha' b' hb'
    have hp' : prodW a' ∈ s1.1 := (g1.mem _).2 ⟨a', ha', rfl⟩
    have hle := hmb.le m hm _ _ (hU hp' hq')
    obtain ⟨_, hf⟩ := hmb.is m hm
    rw [hf, ← f1, ← f2] at hle
    have q0 := (wh2_bd hx hb).1
    have q0' := (wh2_bd hx hb').1
    unfold leW le3
    rcases hc with rfl | hc
    · by_cases hlt : farQ r.1 r.2 (prodW a) (prodW b) * prodW b' < farQ r.1 r.2 (prodW a') (prodW b') * prodW b
      · exact .inl hlt
      · have heq : farQ r.1 r.2 (prodW a) (prodW b) * prodW b' = farQ r.1 r.2 (prodW a') (prodW b') * prodW b := by omega
        refine .inr ⟨heq, h4 _ ((hT _).2 ⟨_, hmb.all m hm _ _ (hU hp' hq') (by rw [hf, ← f1, ← f2]; exact heq), a', ha', b', hb', rfl, rfl, rfl⟩)⟩
    · have hq1 := hq0 q' (win_sub hq')
      exact .inl (cross_lt2 (by omega) hq1 (by omega) hle hc)
end
end Rx
end Go.Proofs.YthfgpnpoocepeaaGreat
