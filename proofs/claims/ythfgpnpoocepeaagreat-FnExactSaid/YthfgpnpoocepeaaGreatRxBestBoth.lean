/- The reference's best train is the best, so both sides find the same. No program in sight. -/
import Derived.Test.YthfgpnpoocepeaaGreatRxBestEnd
namespace Go.Proofs.YthfgpnpoocepeaaGreat
namespace Rx
open Go

noncomputable section
/-- What the reference holds when it has seen some pairs of wheels. -/
def BestS (N D : Int) (V : List Int → List Int → Prop) (s : Int × Int × Int × List (Int × Int)) : Prop :=
  (s = (0, 0, 0, []) ∧ ∀ a b, ¬ V a b) ∨ ∃ a b, V a b ∧ s = (prodW a, prodW b, farQ N D (prodW a) (prodW b), canonF a b) ∧ ∀ a' b', V a' b' → leW N D a b a' b'
section
variable {r : Int × Int} {x : Int × Int × Int × Int × Int} {V : List Int → List Int → Prop}
theorem BestS.congr {N D : Int} {V V' : List Int → List Int → Prop} {s : Int × Int × Int × List (Int × Int)} (h : BestS N D V s) (e : ∀ a b, V' a b ↔ V a b) : BestS N D V' s := by
  have : V' = V := by funext a b; exact propext (e a b)
  rw [this]; exact h
theorem leW_trans {N D : Int} {a b a' b' a2 b2 : List Int} (h1 : 1 ≤ prodW b) (h2 : 1 ≤ prodW b') (h3 : 1 ≤ prodW b2) (h : leW N D a b a' b') (h' : leW N D a' b' a2 b2) : leW N D a b a2 b2 :=
  le3_trans (by omega) (by omega) (by omega) h h'
theorem takeS_eq (h : Asked r x) (hV : ∀ a b, V a b → a ∈ wh1 x ∧ b ∈ wh2 x) {a b : List Int} (ha : a ∈ wh1 x) (hb : b ∈ wh2 x) {s : Int × Int × Int × List (Int × Int)} (hs : BestS r.1 r.2 V s) :
    ∃ s', takeS (s, r, pw a, pw b) = some ((), s', r, pw a, pw b) ∧ BestS r.1 r.2 (fun a' b' => V a' b' ∨ (a' = a ∧ b' = b)) s' := by
  have hx := h.lim
  have pa := wh1_bd hx ha; have pb := wh2_bd hx hb
  have wa := wh1_is ha; have wb := wh2_is hb
  obtain ⟨_, h3, hn1⟩ := hx.stg
  have m1 := mul_bd (a := prodW a) (b := r.2) (by omega) (by have := h.d1; omega) pa.2 h.d2
  have m2 := mul_bd (a := prodW b) (b := r.1) (by omega) (by have := h.n1; omega) pb.2 h.n2
  have hcl := canon_len hx ha hb
  have ecan : canonS6 ((pw a).2, (pw b).2) = some (canonF a b) := canonS_eq h3 wa wb
  have esz : sizeS (IntKind.i64.wrap (IntKind.i64.wrap ((pw a).1 * r.2) - IntKind.i64.wrap ((pw b).1 * r.1))) = some (farQ r.1 r.2 (prodW a) (prodW b)) := by
    rw [size_eq, w64 (x := (pw a).1 * r.2) (by show _ ≤ prodW a * r.2; omega) (by show prodW a * r.2 ≤ _; omega), w64 (x := (pw b).1 * r.1) (by show _ ≤ prodW b * r.1; omega) (by show prodW b * r.1 ≤ _; omega)]
    show absI (IntKind.i64.wrap (prodW a * r.2 - prodW b * r.1)) = _
    rw [w64 (by omega) (by omega)]
    exact absI_w (by omega) (by omega)
  rcases hs with ⟨rfl, hn⟩ | ⟨a0, b0, v0, rfl, hle⟩
  · refine ⟨(prodW a, prodW b, farQ r.1 r.2 (prodW a) (prodW b), canonF a b), ?_, .inr ⟨a, b, .inr ⟨rfl, rfl⟩, rfl, fun a' b' h => ?_⟩⟩
    · unfold takeS
      dsimp only
      rw [esz, ob_s, br_f (by simp), ecan, ob_s, br_t (by simp)]
      rfl
    · rcases h with h | ⟨rfl, rfl⟩
      · exact absurd h (hn _ _)
      · exact le3_refl _ _ _
  · obtain ⟨ha0, hb0⟩ := hV _ _ v0
    have pa0 := wh1_bd hx ha0; have pb0 := wh2_bd hx hb0
    have hcl0 := canon_len hx ha0 hb0
    have f0 := far_bd h.n1 h.n2 h.d1 h.d2 pa0.1 pa0.2 pb0.1 pb0.2
    have f1 := far_bd h.n1 h.n2 h.d1 h.d2 pa.1 pa.2 pb.1 pb.2
    have x1 := mul_bd (a := farQ r.1 r.2 (prodW a) (prodW b)) (b := prodW b0) (absN_nn _) (by omega) f1 pb0.2
    have x2 := mul_bd (a := farQ r.1 r.2 (prodW a0) (prodW b0)) (b := prodW b) (absN_nn _) (by omega) f0 pb.2
    have keep : leW r.1 r.2 a0 b0 a b → BestS r.1 r.2 (fun a' b' => V a' b' ∨ (a' = a ∧ b' = b)) (prodW a0, prodW b0, farQ r.1 r.2 (prodW a0) (prodW b0), canonF a0 b0) := fun hl =>
      .inr ⟨a0, b0, .inl v0, rfl, fun a' b' h => by
        rcases h with h | ⟨rfl, rfl⟩
        · exact hle _ _ h
        · exact hl⟩
    have swap : leW r.1 r.2 a b a0 b0 → BestS r.1 r.2 (fun a' b' => V a' b' ∨ (a' = a ∧ b' = b)) (prodW a, prodW b, farQ r.1 r.2 (prodW a) (prodW b), canonF a b) := fun hl =>
      .inr ⟨a, b, .inr ⟨rfl, rfl⟩, rfl, fun a' b' h => by
        rcases h with h | ⟨rfl, rfl⟩
        · exact leW_trans pb.1 pb0.1 (wh2_bd hx (hV _ _ h).2).1 hl (hle _ _ h)
        · exact le3_refl _ _ _⟩
    have e1 : IntKind.i64.wrap (farQ r.1 r.2 (prodW a0) (prodW b0) * (pw b).1) = farQ r.1 r.2 (prodW a0) (prodW b0) * prodW b := w64 (by show _ ≤ farQ r.1 r.2 (prodW a0) (prodW b0) * prodW b; omega) (by show farQ r.1 r.2 (prodW a0) (prodW b0) * prodW b ≤ _; omega)
    have e2 : IntKind.i64.wrap (farQ r.1 r.2 (prodW a) (prodW b) * prodW b0) = farQ r.1 r.2 (prodW a) (prodW b) * prodW b0 := w64 (by omega) (by omega)
    have e3 : cmpTrS (canonF a b, canonF a0 b0) = some (cmpT (canonF a b) (canonF a0 b0)) := cmpTrS_T (by omega) (by omega)
    by_cases c1 : farQ r.1 r.2 (prodW a0) (prodW b0) * prodW b < farQ r.1 r.2 (prodW a) (prodW b) * prodW b0
    · refine ⟨(prodW a0, prodW b0, farQ r.1 r.2 (prodW a0) (prodW b0), canonF a0 b0), ?_, keep (.inl c1)⟩
      unfold takeS
      dsimp only
      rw [esz, ob_s, br_t (by simp; omega), e1, e2, br_t (by simpa using c1)]
    · by_cases c2 : farQ r.1 r.2 (prodW a) (prodW b) * prodW b0 < farQ r.1 r.2 (prodW a0) (prodW b0) * prodW b
      · refine ⟨(prodW a, prodW b, farQ r.1 r.2 (prodW a) (prodW b), canonF a b), ?_, swap (.inl c2)⟩
        unfold takeS
        dsimp only
        rw [esz, ob_s, br_t (by simp; omega), e1, e2, br_f (by simpa using c1), ecan, ob_s, br_f (by simp only [beq_eq_false_iff_ne]; omega), br_t (by simpa using c2)]
        rfl
      · have ceq : farQ r.1 r.2 (prodW a) (prodW b) * prodW b0 = farQ r.1 r.2 (prodW a0) (prodW b0) * prodW b := by omega
        by_cases c3 : cmpT (canonF a b) (canonF a0 b0) < 0
        · have hlt : leT (canonF a b) (canonF a0 b0) = true := by
            rw [leT_iff]
            intro h
            rw [cmpT_lt] at c3
            exact absurd h (List.lt_asymm c3)
          refine ⟨(prodW a, prodW b, farQ r.1 r.2 (prodW a) (prodW b), canonF a b), ?_, swap (.inr ⟨ceq, hlt⟩)⟩
          unfold takeS
          dsimp only
          rw [esz, ob_s, br_t (by simp; omega), e1, e2, br_f (by simpa using c1), ecan, ob_s, br_f (by simp only [beq_eq_false_iff_ne]; omega), br_f (by simpa using c2), e3, ob_s, br_t (by simpa using c3)]
          rfl
        · have hlt : leT (canonF a0 b0) (canonF a b) = true := by
            rw [leT_iff, ← cmpT_lt]
            exact c3
          refine ⟨(prodW a0, prodW b0, farQ r.1 r.2 (prodW a0) (prodW b0), canonF a0 b0), ?_, keep (.inr ⟨ceq.symm, hlt⟩)⟩
          unfold takeS
          dsimp only
          rw [esz, ob_s, br_t (by simp; omega), e1, e2, br_f (by simpa using c1), ecan, ob_s, br_f (by simp only [beq_eq_false_iff_ne]; omega), br_f (by simpa using c2), e3, ob_s, br_f (by simpa using c3)]
theorem searchS0_eq (h : Asked r x) (hV : ∀ a b, V a b → a ∈ wh1 x ∧ b ∈ wh2 x) {D1 D2 : List (Int × List Int)} (hD : ∀ y ∈ D2, ∃ b ∈ wh2 x, y = pw b) (hs2 : ascP D2) (hl : D2.length ≤ 100000) {a : List Int} (ha : a ∈ wh1 x) {i : Int} (hi : idx D1 i = some (pw a))
    {k : Nat} (hk : k ≤ D2.length) {v : Int} (hv : ∀ y ∈ D2.take k, y.1 ≤ v) {s : Int × Int × Int × List (Int × Int)} (hs : BestS r.1 r.2 V s) :
    ∃ s' j, searchS0 (r, D1, D2, s, i, (k : Int), v, (k : Int) - 1) = some (r, D1, D2, s', i, (k : Int), v, j) ∧ BestS r.1 r.2 (fun a' b' => V a' b' ∨ (a' = a ∧ pw b' ∈ D2.take k ∧ prodW b' = v)) s' := by
  have hlk : (D2.take k).length = k := by rw [List.length_take]; omega
  have := iterP_end (step := searchS0_step) (fun t => ∃ (j : Nat) (s' : Int × Int × Int × List (Int × Int)), t = (r, D1, D2, s', i, (k : Int), v, (j : Int) - 1) ∧ j ≤ k ∧ (∀ y ∈ (D2.take k).drop j, y.1 = v) ∧ BestS r.1 r.2 (fun a' b' => V a' b' ∨ (a' = a ∧ pw b' ∈ (D2.take k).drop j)) s')
    (fun t => ∃ (j : Int) (s' : Int × Int × Int × List (Int × Int)), t = (r, D1, D2, s', i, (k : Int), v, j) ∧ BestS r.1 r.2 (fun a' b' => V a' b' ∨ (a' = a ∧ pw b' ∈ D2.take k ∧ prodW b' = v)) s')
    (fun t => (t.2.2.2.2.2.2.2 + 1).toNat) ?_ (searchS0_fuel (r, D1, D2, s, i, (k : Int), v, (k : Int) - 1)) (r, D1, D2, s, i, (k : Int), v, (k : Int) - 1) ⟨k, s, rfl, by omega, by rw [List.drop_eq_nil_of_le (by omega)]; simp, hs.congr fun a' b' => by rw [List.drop_eq_nil_of_le (by omega)]; simp⟩ (by show _ < _ + 1; omega)
  · obtain ⟨_, e, j, s', rfl, hb⟩ := this
    exact ⟨s', j, e, hb⟩
  · rintro _ ⟨j, s', rfl, hj, hall, hb⟩
    have hfin : (∀ (y : Int × List Int) (m : Nat), m < j → D2[m]? = some y → y.1 < v) → BestS r.1 r.2 (fun a' b' => V a' b' ∨ (a' = a ∧ pw b' ∈ D2.take k ∧ prodW b' = v)) s' := fun hlow => hb.congr fun a' b' => by
      constructor
      · rintro (h | ⟨h1, h2, h3⟩)
        · exact .inl h
        · refine .inr ⟨h1, ?_⟩
          obtain ⟨m, hm, e⟩ := List.mem_iff_getElem.1 h2
          rw [hlk] at hm
          rw [List.getElem_take] at e
          by_cases hmj : m < j
          · have := hlow (pw b') m hmj (by rw [← e]; exact List.getElem?_eq_getElem _)
            have : (pw b').1 = v := h3
            omega
          · refine List.mem_iff_getElem.2 ⟨m - j, by rw [List.length_drop, hlk]; omega, ?_⟩
            rw [List.getElem_drop, List.getElem_take, ← e]
            congr 1; omega
      · rintro (h | ⟨h1, h2⟩)
        · exact .inl h
        · exact .inr ⟨h1, List.drop_subset _ _ h2, hall _ h2⟩
    by_cases hj0 : j = 0
    · subst hj0
      refine ⟨.out, (r, D1, D2, s', i, (k : Int), v, ((0 : Nat) : Int) - 1), ?_, fun h => (by cases h), fun _ => ⟨_, s', rfl, hfin fun y m hm => by omega⟩, by intro h; cases h⟩
      unfold searchS0_step
      dsimp only
      rw [br_f (by simp)]
    · have hjl : j - 1 < D2.length := by omega
      have hij : idx D2 ((j : Int) - 1) = some D2[j - 1] := by
        rw [show (j : Int) - 1 = ((j - 1 : Nat) : Int) by omega]; exact get_idx hjl
      obtain ⟨b, hbm, hbe⟩ := hD _ (List.getElem_mem hjl)
      have hle : (D2[j - 1]).1 ≤ v := hv _ (List.mem_iff_getElem.2 ⟨j - 1, by rw [hlk]; omega, by rw [List.getElem_take]⟩)
      by_cases hev : (D2[j - 1]).1 = v
      · obtain ⟨s2, e2, b2⟩ := takeS_eq (V := fun a' b' => V a' b' ∨ (a' = a ∧ pw b' ∈ (D2.take k).drop j)) h (fun a' b' hv' => by
          rcases hv' with hv' | ⟨rfl, hv'⟩
          · exact hV _ _ hv'
          · obtain ⟨b3, hb3, e3⟩ := hD _ (List.take_subset _ _ (List.drop_subset _ _ hv'))
            have : b' = b3 := congrArg Prod.snd e3
            subst this
            exact ⟨ha, hb3⟩) ha hbm hb
        have hdj : (D2.take k).drop (j - 1) = D2[j - 1] :: (D2.take k).drop j := by
          rw [List.drop_eq_getElem_cons (by rw [hlk]; omega), List.getElem_take, show j - 1 + 1 = j by omega]
        refine ⟨.next, (r, D1, D2, s2, i, (k : Int), v, ((j - 1 : Nat) : Int) - 1), ?_, fun _ => ⟨⟨j - 1, s2, rfl, by omega, fun y hy => ?_, b2.congr fun a' b' => ?_⟩, ?_⟩, fun h => (by cases h), by intro h; cases h⟩
        · unfold searchS0_step
          dsimp only
          rw [br_t (by simp; omega), hij, ob_s, br_t (by simpa using hev), hi, ob_s, ob_s, hbe, show takeS ((s'.1, s'.2.1, s'.2.2.1, s'.2.2.2), (r.1, r.2), pw a, pw b) = _ from e2, ob_s]
          dsimp only
          rw [w64 (by omega) (by omega), show ((j - 1 : Nat) : Int) = (j : Int) - 1 by omega]
        · rw [hdj] at hy
          rcases List.mem_cons.1 hy with rfl | hy
          · exact hev
          · exact hall y hy
        · rw [hdj, List.mem_cons, hbe]
          constructor
          · rintro (h | ⟨h1, h2 | h2⟩)
            · exact .inl (.inl h)
            · exact .inr ⟨h1, congrArg Prod.snd h2⟩
            · exact .inl (.inr ⟨h1, h2⟩)
          · rintro ((h | ⟨h1, h2⟩) | ⟨h1, rfl⟩)
            · exact .inl h
            · exact .inr ⟨h1, .inr h2⟩
            · exact .inr ⟨h1, .inl rfl⟩
        · show (((j - 1 : Nat) : Int) - 1 + 1).toNat < ((j : Int) - 1 + 1).toNat
          omega
      · refine ⟨.out, (r, D1, D2, s', i, (k : Int), v, (j : Int) - 1), ?_, fun h => (by cases h), fun _ => ⟨_, s', rfl, hfin fun y m hm hy => ?_⟩, by intro h; cases h⟩
        · unfold searchS0_step
          dsimp only
          rw [br_t (by simp; omega), hij, ob_s, br_f (by simpa using hev)]
        · have hml : m < D2.length := (List.getElem?_eq_some_iff.1 hy).1
          rw [List.getElem?_eq_getElem hml] at hy
          cases hy
          rcases (by omega : m = j - 1 ∨ m < j - 1) with rfl | hm
          · omega
          · have := List.pairwise_iff_getElem.1 hs2 m (j - 1) hml hjl hm
            omega
theorem searchS1_eq (h : Asked r x) (hV : ∀ a b, V a b → a ∈ wh1 x ∧ b ∈ wh2 x) {D1 D2 : List (Int × List Int)} (hD : ∀ y ∈ D2, ∃ b ∈ wh2 x, y = pw b) (hs2 : ascP D2) (hl : D2.length ≤ 100000) {a : List Int} (ha : a ∈ wh1 x) {i : Int} (hi : idx D1 i = some (pw a))
    {k : Nat} (hk : k ≤ D2.length) {s : Int × Int × Int × List (Int × Int)} (hs : BestS r.1 r.2 V s) :
    ∃ s' j, searchS1 (r, D1, D2, s, i, (k : Int), (k : Int)) = some (r, D1, D2, s', i, (k : Int), j) ∧ BestS r.1 r.2 (fun a' b' => V a' b' ∨ (a' = a ∧ pw b' ∈ D2.drop k ∧ ∃ y, D2[k]? = some y ∧ prodW b' = y.1)) s' := by
  have := iterP_end (step := searchS1_step) (fun t => ∃ (j : Nat) (s' : Int × Int × Int × List (Int × Int)), t = (r, D1, D2, s', i, (k : Int), (j : Int)) ∧ k ≤ j ∧ j ≤ D2.length ∧ (∀ z ∈ (D2.take j).drop k, ∃ y, D2[k]? = some y ∧ z.1 = y.1) ∧ BestS r.1 r.2 (fun a' b' => V a' b' ∨ (a' = a ∧ pw b' ∈ (D2.take j).drop k)) s')
    (fun t => ∃ (j : Int) (s' : Int × Int × Int × List (Int × Int)), t = (r, D1, D2, s', i, (k : Int), j) ∧ BestS r.1 r.2 (fun a' b' => V a' b' ∨ (a' = a ∧ pw b' ∈ D2.drop k ∧ ∃ y, D2[k]? = some y ∧ prodW b' = y.1)) s')
    (fun t => t.2.2.1.length - t.2.2.2.2.2.2.toNat) ?_ (searchS1_fuel (r, D1, D2, s, i, (k : Int), (k : Int))) (r, D1, D2, s, i, (k : Int), (k : Int)) ⟨k, s, rfl, by omega, hk, by rw [List.drop_eq_nil_of_le (by rw [List.length_take]; omega)]; simp, hs.congr fun a' b' => by rw [List.drop_eq_nil_of_le (by rw [List.length_take]; omega)]; simp⟩ (by show _ < _ + 1; omega)
  · obtain ⟨_, e, j, s', rfl, hb⟩ := this
    exact ⟨s', j, e, hb⟩
  · rintro _ ⟨j, s', rfl, hkj, hj, hall, hb⟩
    have hfin : (∀ (z y : Int × List Int) (m : Nat), j ≤ m → D2[m]? = some z → D2[k]? = some y → y.1 < z.1) → BestS r.1 r.2 (fun a' b' => V a' b' ∨ (a' = a ∧ pw b' ∈ D2.drop k ∧ ∃ y, D2[k]? = some y ∧ prodW b' = y.1)) s' := fun hhi => hb.congr fun a' b' => by
      constructor
      · rintro (h | ⟨h1, h2, y, h3, h4⟩)
        · exact .inl h
        · refine .inr ⟨h1, ?_⟩
          obtain ⟨m, hm, e⟩ := List.mem_iff_getElem.1 h2
          rw [List.length_drop] at hm
          rw [List.getElem_drop] at e
          by_cases hmj : k + m < j
          · refine List.mem_iff_getElem.2 ⟨m, by rw [List.length_drop, List.length_take]; omega, ?_⟩
            rw [List.getElem_drop, List.getElem_take, e]
          · have := hhi (pw b') y (k + m) (by omega) (by rw [← e]; exact List.getElem?_eq_getElem _) h3
            have : (pw b').1 = y.1 := h4
            omega
      · rintro (h | ⟨h1, h2⟩)
        · exact .inl h
        · refine .inr ⟨h1, ?_, hall _ h2⟩
          rw [List.drop_take] at h2
          exact List.take_subset _ _ h2
    by_cases hlt : j < D2.length
    · have hkl : k < D2.length := by omega
      obtain ⟨b, hbm, hbe⟩ := hD _ (List.getElem_mem hlt)
      by_cases hev : (D2[j]).1 = (D2[k]).1
      · obtain ⟨s2, e2, b2⟩ := takeS_eq (V := fun a' b' => V a' b' ∨ (a' = a ∧ pw b' ∈ (D2.take j).drop k)) h (fun a' b' hv' => by
          rcases hv' with hv' | ⟨rfl, hv'⟩
          · exact hV _ _ hv'
          · obtain ⟨b3, hb3, e3⟩ := hD _ (List.take_subset _ _ (List.drop_subset _ _ hv'))
            have : b' = b3 := congrArg Prod.snd e3
            subst this
            exact ⟨ha, hb3⟩) ha hbm hb
        have hdj : (D2.take (j + 1)).drop k = (D2.take j).drop k ++ [D2[j]] := by
          rw [List.take_add_one, List.getElem?_eq_getElem hlt, Option.toList_some, List.drop_append_of_le_length (by rw [List.length_take]; omega)]
        refine ⟨.next, (r, D1, D2, s2, i, (k : Int), ((j + 1 : Nat) : Int)), ?_, fun _ => ⟨⟨j + 1, s2, rfl, by omega, by omega, fun z hz => ?_, b2.congr fun a' b' => ?_⟩, ?_⟩, fun h => (by cases h), by intro h; cases h⟩
        · unfold searchS1_step
          dsimp only
          rw [br_t (by simp; omega), get_idx hlt, ob_s, get_idx hkl, ob_s, br_t (by simpa using hev), hi, ob_s, ob_s, hbe, show takeS ((s'.1, s'.2.1, s'.2.2.1, s'.2.2.2), (r.1, r.2), pw a, pw b) = _ from e2, ob_s]
          dsimp only
          rw [w64 (by omega) (by omega)]
          rfl
        · rw [hdj] at hz
          rcases List.mem_append.1 hz with hz | hz
          · exact hall z hz
          · simp at hz; subst hz
            exact ⟨_, List.getElem?_eq_getElem hkl, hev⟩
        · rw [hdj, List.mem_append, List.mem_singleton, hbe]
          constructor
          · rintro (h | ⟨h1, h2 | h2⟩)
            · exact .inl (.inl h)
            · exact .inl (.inr ⟨h1, h2⟩)
            · exact .inr ⟨h1, congrArg Prod.snd h2⟩
          · rintro ((h | ⟨h1, h2⟩) | ⟨h1, rfl⟩)
            · exact .inl h
            · exact .inr ⟨h1, .inl h2⟩
            · exact .inr ⟨h1, .inr rfl⟩
        · show D2.length - ((j + 1 : Nat) : Int).toNat < D2.length - (j : Int).toNat
          omega
      · refine ⟨.out, (r, D1, D2, s', i, (k : Int), (j : Int)), ?_, fun h => (by cases h), fun _ => ⟨_, s', rfl, hfin fun z y m hm hz hy => ?_⟩, by intro h; cases h⟩
        · unfold searchS1_step
          dsimp only
          rw [br_t (by simp; omega), get_idx hlt, ob_s, get_idx hkl, ob_s, br_f (by simpa using hev)]
        · have hml : m < D2.length := (List.getElem?_eq_some_iff.1 hz).1
          rw [List.getElem?_eq_getElem hml] at hz
          cases hz
          rw [List.getElem?_eq_getElem hkl] at hy
          cases hy
          have hkj2 : k ≠ j := by rintro rfl; exact hev rfl
          have h1 := List.pairwise_iff_getElem.1 hs2 k j hkl hlt (by omega)
          rcases (by omega : m = j ∨ j < m) with rfl | hm
          · omega
          · have := List.pairwise_iff_getElem.1 hs2 j m hlt hml hm
            omega
    · refine ⟨.out, (r, D1, D2, s', i, (k : Int), (j : Int)), ?_, fun h => (by cases h), fun _ => ⟨_, s', rfl, hfin fun z y m hm hz hy => ?_⟩, by intro h; cases h⟩
      · unfold searchS1_step
        dsimp only
        rw [br_f (by simp; omega)]
      · have := (List.getElem?_eq_some_iff.1 hz).1
        omega
theorem BestS.cover {N D : Int} (hV : ∀ a b, V a b → 0 < prodW b) {V' : List Int → List Int → Prop} {s : Int × Int × Int × List (Int × Int)} (h : BestS N D V s) (hV' : ∀ a b, V' a b → 0 < prodW b) (h1 : ∀ a b, V a b → V' a b)
    (h2 : ∀ a b, V' a b → V a b ∨ ∃ b', V a b' ∧ farQ N D (prodW a) (prodW b') * prodW b < farQ N D (prodW a) (prodW b) * prodW b') : BestS N D V' s := by
  rcases h with ⟨rfl, hn⟩ | ⟨a, b, v, rfl, hle⟩
  · refine .inl ⟨rfl, fun a b hv => ?_⟩
    rcases h2 a b hv with h | ⟨b', h, _⟩
    · exact hn _ _ h
    · exact hn _ _ h
  · refine .inr ⟨a, b, h1 _ _ v, rfl, fun a' b' hv => ?_⟩
    rcases h2 a' b' hv with h | ⟨b2, h, hlt⟩
    · exact hle _ _ h
    · have hh := hle _ _ h
      have p1 := hV _ _ v; have p2 := hV _ _ h; have p3 := hV' _ _ hv
      refine .inl (cross_lt2 p1 p2 p3 ?_ hlt)
      rcases hh with hh | ⟨hh, _⟩ <;> omega
end
end
end Rx
end Go.Proofs.YthfgpnpoocepeaaGreat

namespace Go.Proofs.YthfgpnpoocepeaaGreat
namespace Rx
open Go

noncomputable section
section
variable {r : Int × Int} {x : Int × Int × Int × Int × Int}
theorem searchS_law (h : Asked r x) : ∃ t, searchS (r, x) = some t ∧ IsBest r x t := by
  have hx := h.lim
  obtain ⟨e, h3, hn1⟩ := hx.stg
  obtain ⟨l1, l2⟩ := wh_len hx
  have a1 := hx.a1; have b1 := hx.b1
  have n1 := h.n1; have n2 := h.n2; have d1 := h.d1; have d2 := h.d2
  have e1 := productsS_eq (lo := x.1) (hi := x.2.1) (by omega) hx.a3 hx.a4 h3
  have e2 := productsS_eq (lo := x.2.2.1) (hi := x.2.2.2.1) (by omega) hx.b3 hx.b4 h3
  rw [e] at e1 e2
  obtain ⟨D2, e3, p3, s3⟩ := sortPS_eq (l := (wh2 x).map pw) (by rw [List.length_map]; exact l2)
  have hD : ∀ y ∈ D2, ∃ b ∈ wh2 x, y = pw b := fun y hy => by
    obtain ⟨b, hb, rfl⟩ := List.mem_map.1 (p3.mem_iff.1 hy)
    exact ⟨b, hb, rfl⟩
  have hDl : D2.length ≤ 100000 := by rw [p3.length_eq, List.length_map]; exact l2
  have hmem : ∀ b ∈ wh2 x, pw b ∈ D2 := fun b hb => p3.mem_iff.2 (List.mem_map.2 ⟨b, hb, rfl⟩)
  have := iterP_end (step := searchSL_step) (fun s => ∃ (k : Nat) (o : Int × Int × Int × List (Int × Int)), s = (r, (wh1 x).map pw, D2, o, (k : Int)) ∧ k ≤ (wh1 x).length ∧ BestS r.1 r.2 (fun a b => a ∈ (wh1 x).take k ∧ b ∈ wh2 x) o)
    (fun s => ∃ (k : Int) (o : Int × Int × Int × List (Int × Int)), s = (r, (wh1 x).map pw, D2, o, k) ∧ BestS r.1 r.2 (fun a b => a ∈ wh1 x ∧ b ∈ wh2 x) o)
    (fun s => s.2.1.length - s.2.2.2.2.toNat) ?_ (searchSL_fuel (r, (wh1 x).map pw, D2, (0, 0, 0, []), 0)) (r, (wh1 x).map pw, D2, (0, 0, 0, []), 0)
    ⟨0, (0, 0, 0, []), rfl, by omega, .inl ⟨rfl, fun a b => by simp⟩⟩ (by show ((wh1 x).map pw).length - (0 : Int).toNat < (((wh1 x).map pw).length - (0 : Int).toNat) + 1; omega)
  · obtain ⟨_, e4, k, o, rfl, hb⟩ := this
    obtain ⟨a0, ha0⟩ := wh1_some hx
    obtain ⟨b0, hb0⟩ := wh2_some hx
    rcases hb with ⟨_, hn⟩ | ⟨a, b, ⟨ha, hb⟩, rfl, hle⟩
    · exact absurd ⟨ha0, hb0⟩ (hn _ _)
    · refine ⟨canonF a b, ?_, a, ha, b, hb, rfl, fun a' ha' b' hb' => hle a' b' ⟨ha', hb'⟩⟩
      unfold searchS
      dsimp only
      rw [show productsS (x.1, x.2.1, x.2.2.2.2) = _ from e1, ob_s, show productsS (x.2.2.1, x.2.2.2.1, x.2.2.2.2) = _ from e2, ob_s]
      rw [show sortPS (List.map pw (wheels x.2.2.1 x.2.2.2.1 (stg x))) = _ from e3, ob_s]
      rw [show searchSL ((r.1, r.2), List.map pw (wheels x.1 x.2.1 (stg x)), D2, (0, 0, 0, []), 0) = _ from e4, ob_s]
  · rintro _ ⟨k, o, rfl, hk, hb⟩
    by_cases hlt : k < (wh1 x).length
    · have ham := List.getElem_mem hlt
      generalize hae : (wh1 x)[k] = a at ham
      have hi : idx ((wh1 x).map pw) (k : Int) = some (pw a) := by rw [← hae]; exact map_idx (get_idx hlt)
      have htk : (wh1 x).take (k + 1) = (wh1 x).take k ++ [a] := by rw [List.take_add_one, List.getElem?_eq_getElem hlt, Option.toList_some, hae]
      have pa := wh1_bd hx ham
      have m1 := mul_bd (a := prodW a) (b := r.2) (by omega) (by omega) pa.2 d2
      have hdiv : (prodW a * r.2).tdiv r.1 = prodW a * r.2 / r.1 := Int.tdiv_eq_ediv_of_nonneg m1.1
      have hw0 : 0 ≤ prodW a * r.2 / r.1 := Int.ediv_nonneg m1.1 (by omega)
      have hw1 : prodW a * r.2 / r.1 ≤ prodW a * r.2 := Int.ediv_le_self _ m1.1
      have ewant : IntKind.i64.wrap (IntKind.i64.wrap ((IntKind.i64.wrap ((pw a).1 * r.2)).tdiv r.1) + 1) = prodW a * r.2 / r.1 + 1 := by
        rw [show IntKind.i64.wrap ((pw a).1 * r.2) = prodW a * r.2 from w64 (by show _ ≤ prodW a * r.2; omega) (by show prodW a * r.2 ≤ _; omega), hdiv, w64 (x := prodW a * r.2 / r.1) (by omega) (by omega), w64 (by omega) (by omega)]
      obtain ⟨k0, ek, hk0, f1, f2⟩ := firstS_eq hDl s3 (prodW a * r.2 / r.1 + 1)
      have g1 : ∀ y ∈ D2.take k0, y.1 * r.1 ≤ prodW a * r.2 := fun y hy => by
        have := f1 y hy
        exact (Int.le_ediv_iff_mul_le (by omega)).1 (by omega)
      have g2 : ∀ y ∈ D2.drop k0, prodW a * r.2 ≤ y.1 * r.1 := fun y hy => by
        have := f2 y hy
        refine Int.not_lt.1 fun hc => ?_
        have := (Int.le_ediv_iff_mul_le (a := y.1) (b := prodW a * r.2) (c := r.1) (by omega)).2 (by omega)
        omega
      have hV0 : ∀ a b, (a ∈ (wh1 x).take k ∧ b ∈ wh2 x) → a ∈ wh1 x ∧ b ∈ wh2 x := fun a b h => ⟨List.take_subset _ _ h.1, h.2⟩
      have hof : ∀ b', pw b' ∈ D2 → b' ∈ wh2 x := fun b' hm => by
        obtain ⟨b3, hb3, e3⟩ := hD _ hm
        have : b' = b3 := congrArg Prod.snd e3
        subst this; exact hb3
      -- what is seen below, then above
      have hlow : ∃ o1, BestS r.1 r.2 (fun a' b' => (a' ∈ (wh1 x).take k ∧ b' ∈ wh2 x) ∨ (a' = a ∧ pw b' ∈ D2.take k0 ∧ ∃ y, D2[k0 - 1]? = some y ∧ prodW b' = y.1)) o1 ∧
          searchSL_step (r, (wh1 x).map pw, D2, o, (k : Int)) = ob (searchS1 (r, (wh1 x).map pw, D2, o1, (k : Int), (k0 : Int), (k0 : Int))) fun q => some (LRes.next, q.1, q.2.1, q.2.2.1, q.2.2.2.1, IntKind.i64.wrap (q.2.2.2.2.1 + 1)) := by
        by_cases hz : k0 = 0
        · subst hz
          refine ⟨o, hb.congr fun a' b' => ⟨fun h => ?_, .inl⟩, ?_⟩
          · rcases h with h | ⟨_, h, _⟩
            · exact h
            · simp at h
          · unfold searchSL_step
            dsimp only
            rw [br_t (by simp; omega), hi, ob_s, br_f (by simp; omega), ewant, ek, ob_s, br_f (by simp)]
        · have hkl : k0 - 1 < D2.length := by omega
          have hij : idx D2 (IntKind.i64.wrap ((k0 : Int) - 1)) = some D2[k0 - 1] := by
            rw [w64 (by omega) (by omega), show (k0 : Int) - 1 = ((k0 - 1 : Nat) : Int) by omega]; exact get_idx hkl
          obtain ⟨o1, j, e5, b5⟩ := searchS0_eq h hV0 hD s3 hDl ham (i := (k : Int)) hi hk0 (v := (D2[k0 - 1]).1) (fun y hy => by
            obtain ⟨m, hm, rfl⟩ := List.mem_iff_getElem.1 hy
            rw [List.length_take] at hm
            rw [List.getElem_take]
            rcases (by omega : m = k0 - 1 ∨ m < k0 - 1) with rfl | hm2
            · exact Int.le_refl _
            · exact List.pairwise_iff_getElem.1 s3 m (k0 - 1) (by omega) hkl hm2) hb
          refine ⟨o1, b5.congr fun a' b' => ?_, ?_⟩
          · rw [List.getElem?_eq_getElem hkl]
            simp
          · unfold searchSL_step
            dsimp only
            rw [br_t (by simp; omega), hi, ob_s, br_f (by simp; omega), ewant, ek, ob_s, br_t (by simp; omega), hij, ob_s, show IntKind.i64.wrap ((k0 : Int) - 1) = (k0 : Int) - 1 from w64 (by omega) (by omega),
              show searchS0 ((r.1, r.2), (wh1 x).map pw, D2, (o.1, o.2.1, o.2.2.1, o.2.2.2), (k : Int), (k0 : Int), (D2[k0 - 1]).1, (k0 : Int) - 1) = _ from e5, ob_s]
      obtain ⟨o1, b5, est⟩ := hlow
      have hV1 : ∀ a' b', ((a' ∈ (wh1 x).take k ∧ b' ∈ wh2 x) ∨ (a' = a ∧ pw b' ∈ D2.take k0 ∧ ∃ y, D2[k0 - 1]? = some y ∧ prodW b' = y.1)) → a' ∈ wh1 x ∧ b' ∈ wh2 x := fun a' b' h => by
        rcases h with h | ⟨rfl, h, _⟩
        · exact hV0 _ _ h
        · exact ⟨ham, hof _ (List.take_subset _ _ h)⟩
      obtain ⟨o2, j, e6, b6⟩ := searchS1_eq h hV1 hD s3 hDl ham (i := (k : Int)) hi hk0 b5
      have hV2 : ∀ a' b', (((a' ∈ (wh1 x).take k ∧ b' ∈ wh2 x) ∨ (a' = a ∧ pw b' ∈ D2.take k0 ∧ ∃ y, D2[k0 - 1]? = some y ∧ prodW b' = y.1)) ∨ (a' = a ∧ pw b' ∈ D2.drop k0 ∧ ∃ y, D2[k0]? = some y ∧ prodW b' = y.1)) → a' ∈ wh1 x ∧ b' ∈ wh2 x := fun a' b' h => by
        rcases h with h | ⟨rfl, h, _⟩
        · exact hV1 _ _ h
        · exact ⟨ham, hof _ (List.drop_subset _ _ h)⟩
      refine ⟨.next, (r, (wh1 x).map pw, D2, o2, ((k + 1 : Nat) : Int)), ?_, fun _ => ⟨⟨k + 1, o2, rfl, by omega, b6.cover (fun a b hv => ?_) (fun a b hv => ?_) (fun a' b' hv => ?_) fun a' b' hv => ?_⟩, ?_⟩, fun h => (by cases h), by intro h; cases h⟩
      · rw [est, e6, ob_s]
        dsimp only
        rw [w64 (by omega) (by omega)]
        rfl
      · have := (wh2_bd hx (hV2 _ _ hv).2).1
        omega
      · have := (wh2_bd hx hv.2).1
        omega
      · rw [htk]
        rcases hv with (h | ⟨rfl, h, _⟩) | ⟨rfl, h, _⟩
        · exact ⟨List.mem_append_left _ h.1, h.2⟩
        · exact ⟨by simp, hof _ (List.take_subset _ _ h)⟩
        · exact ⟨by simp, hof _ (List.drop_subset _ _ h)⟩
      · rw [htk] at hv
        obtain ⟨hv1, hv2⟩ := hv
        rcases List.mem_append.1 hv1 with hv1 | hv1
        · exact .inl (.inl (.inl ⟨hv1, hv2⟩))
        · obtain rfl : a' = a := by simpa using hv1
          have pb := wh2_bd hx hv2
          obtain ⟨m, hm, em⟩ := List.mem_iff_getElem.1 (hmem _ hv2)
          by_cases hmk : m < k0
          · have hkl : k0 - 1 < D2.length := by omega
            have hmt : pw b' ∈ D2.take k0 := List.mem_iff_getElem.2 ⟨m, by rw [List.length_take]; omega, by rw [List.getElem_take]; exact em⟩
            have hle : (pw b').1 ≤ (D2[k0 - 1]).1 := by
              rcases (by omega : m = k0 - 1 ∨ m < k0 - 1) with rfl | hm2
              · rw [em]; exact Int.le_refl _
              · rw [← em]; exact List.pairwise_iff_getElem.1 s3 m (k0 - 1) hm hkl hm2
            have hle : prodW b' ≤ (D2[k0 - 1]).1 := hle
            by_cases heq : prodW b' = (D2[k0 - 1]).1
            · exact .inl (.inl (.inr ⟨rfl, hmt, _, List.getElem?_eq_getElem hkl, heq⟩))
            · obtain ⟨b2, hb2, e2⟩ := hD _ (List.getElem_mem hkl)
              have hmt2 : D2[k0 - 1] ∈ D2.take k0 := List.mem_iff_getElem.2 ⟨k0 - 1, by rw [List.length_take]; omega, by rw [List.getElem_take]⟩
              have hb2e : (D2[k0 - 1]).1 = prodW b2 := by rw [e2]; rfl
              refine .inr ⟨b2, .inl (.inr ⟨rfl, by rw [← e2]; exact hmt2, _, List.getElem?_eq_getElem hkl, hb2e.symm⟩), ?_⟩
              exact near_left (by omega) (by omega) (by omega) (by omega) (by omega) (by rw [← hb2e]; exact g1 _ hmt2)
          · have hkl : k0 < D2.length := by omega
            have hmt : pw b' ∈ D2.drop k0 := List.mem_iff_getElem.2 ⟨m - k0, by rw [List.length_drop]; omega, by rw [List.getElem_drop, ← em]; congr 1; omega⟩
            have hle : (D2[k0]).1 ≤ (pw b').1 := by
              rcases (by omega : m = k0 ∨ k0 < m) with rfl | hm2
              · rw [em]; exact Int.le_refl _
              · rw [← em]; exact List.pairwise_iff_getElem.1 s3 k0 m hkl hm hm2
            have hle : (D2[k0]).1 ≤ prodW b' := hle
            by_cases heq : prodW b' = (D2[k0]).1
            · exact .inl (.inr ⟨rfl, hmt, _, List.getElem?_eq_getElem hkl, heq⟩)
            · obtain ⟨b2, hb2, e2⟩ := hD _ (List.getElem_mem hkl)
              have hb2e : (D2[k0]).1 = prodW b2 := by rw [e2]; rfl
              have pb2 := wh2_bd hx hb2
              refine .inr ⟨b2, .inr ⟨rfl, by rw [← e2]; exact drop_head hkl, _, List.getElem?_eq_getElem hkl, hb2e.symm⟩, ?_⟩
              exact near_right (by omega) (by omega) (by omega) (by omega) (by omega) (by rw [← hb2e]; exact g2 _ (drop_head hkl))
      · show ((wh1 x).map pw).length - ((k + 1 : Nat) : Int).toNat < ((wh1 x).map pw).length - (k : Int).toNat
        rw [List.length_map]; omega
    · obtain rfl : k = (wh1 x).length := by omega
      refine ⟨.out, (r, (wh1 x).map pw, D2, o, ((wh1 x).length : Int)), ?_, fun h => (by cases h), fun _ => ⟨_, o, rfl, hb.congr fun a b => by rw [List.take_length]⟩, by intro h; cases h⟩
      unfold searchSL_step
      dsimp only
      rw [br_f (by simp)]
theorem best_len (hx : LimOk x) {t : List (Int × Int)} (h : IsBest r x t) : t.length = stg x := by
  obtain ⟨a, ha, b, hb, rfl, _⟩ := h
  exact canon_len hx ha hb
end
end
end Rx
end Go.Proofs.YthfgpnpoocepeaaGreat
