/- The canonical train of ascending wheels, on both sides. No program in sight. -/
import Derived.Test.YthfgpnpoocepeaaGreatRxSearch
import Derived.Test.YthfgpnpoocepeaaGreatRxSearchS
import Derived.Test.YthfgpnpoocepeaaGreatRxSetsLaw
namespace Go.Proofs.YthfgpnpoocepeaaGreat
namespace Rx
open Go

noncomputable section
def canonF (a b : List Int) : List (Int × Int) := a.reverse.zip b
theorem revX3 {l : List Int} (h : l.length ≤ 3) : revX l = some ((), l.reverse) := by
  match l, h with
  | [], _ => rfl
  | [x], _ => rfl
  | [x, y], _ => rfl
  | [x, y, z], _ => rfl
theorem paird3 {a b : List Int} (h : a.length ≤ 3) (hb : b.length = a.length) : pairdI (a, b) = some (a.zip b) := by
  match a, b, h, hb with
  | [], [], _, _ => rfl
  | [x], [u], _, _ => rfl
  | [x, y], [u, v], _, _ => rfl
  | [x, y, z], [u, v, w], _, _ => rfl
theorem canonI_eq {lo hi lo' hi' : Int} {n : Nat} (hn : n ≤ 3) {a b : List Int} (ha : IsW lo hi n a) (hb : IsW lo' hi' n b) : canonI6 (a, b) = some (canonF a b) := by
  have h1 := ha.len; have h2 := hb.len
  unfold canonI6
  dsimp only
  rw [cloneB_eq (by omega), ob_s, revX3 (by omega), ob_s]
  dsimp only
  rw [paird3 (by simp; omega) (by simp; omega), ob_s]
  rfl
/-- Where the reference's sort puts a number in. -/
theorem sortSL0_eq {l o : List Int} {i : Nat} {y : Int} (hy : l[i]? = some y) (hi : i ≤ 1000) (ho : o.length ≤ 1000) :
    ∃ k : Nat, sortSL0 (l, o, (i : Int), (o.length : Int)) = some (l, o, (i : Int), (k : Int)) ∧ k ≤ o.length ∧ (∀ j z, k ≤ j → o[j]? = some z → y < z) ∧ (∀ z, 0 < k → o[k - 1]? = some z → z ≤ y) := by
  have := iterP_end (step := sortSL0_step) (fun x => ∃ k : Nat, x = (l, o, (i : Int), (k : Int)) ∧ k ≤ o.length ∧ ∀ j z, k ≤ j → o[j]? = some z → y < z)
    (fun x => ∃ k : Nat, x = (l, o, (i : Int), (k : Int)) ∧ k ≤ o.length ∧ (∀ j z, k ≤ j → o[j]? = some z → y < z) ∧ (∀ z, 0 < k → o[k - 1]? = some z → z ≤ y))
    (fun x => x.2.2.2.toNat) ?_ (sortSL0_fuel (l, o, (i : Int), (o.length : Int))) (l, o, (i : Int), (o.length : Int)) ⟨o.length, rfl, by omega, fun j z h1 h2 => ?_⟩ (by show _ < _ + 1; omega)
  · obtain ⟨_, h, k, rfl, h1, h2, h3⟩ := this
    exact ⟨k, h, h1, h2, h3⟩
  · rintro _ ⟨k, rfl, h1, h2⟩
    by_cases hk : 0 < k
    · obtain ⟨z, hz⟩ : ∃ z, o[k - 1]? = some z := ⟨_, List.getElem?_eq_getElem (by omega)⟩
      have e1 : idx o ((k : Int) - 1) = some z := idx_nat (by omega) (by rw [show ((k : Int) - 1).toNat = k - 1 by omega]; exact hz)
      have e2 : idx l (i : Int) = some y := idx_nat (by omega) (by simpa using hy)
      by_cases hlt : y < z
      · refine ⟨.next, (l, o, (i : Int), ((k - 1 : Nat) : Int)), ?_, fun _ => ⟨⟨k - 1, rfl, by omega, fun j u hj hu => ?_⟩, ?_⟩, fun h => (by cases h), by intro h; cases h⟩
        · unfold sortSL0_step
          dsimp only
          rw [br_t (by simp; omega), w64 (by omega) (by omega), e1, ob_s, gi, show ((k : Int) - 1).toNat = k - 1 by omega, hz, ob_s, e2, ob_s, br_t (by simpa using hlt), show ((k - 1 : Nat) : Int) = (k : Int) - 1 by omega]
        · rcases (by omega : j = k - 1 ∨ k ≤ j) with rfl | hj
          · rw [hz] at hu; cases hu; exact hlt
          · exact h2 j u hj hu
        · show ((k - 1 : Nat) : Int).toNat < (k : Int).toNat
          omega
      · refine ⟨.out, (l, o, (i : Int), (k : Int)), ?_, fun h => (by cases h), fun _ => ⟨k, rfl, h1, h2, fun u _ hu => ?_⟩, by intro h; cases h⟩
        · unfold sortSL0_step
          dsimp only
          rw [br_t (by simp; omega), w64 (by omega) (by omega), e1, ob_s, gi, show ((k : Int) - 1).toNat = k - 1 by omega, hz, ob_s, e2, ob_s, br_f (by simpa using hlt)]
        · rw [hz] at hu; cases hu; omega
    · refine ⟨.out, (l, o, (i : Int), (k : Int)), ?_, fun h => (by cases h), fun _ => ⟨k, rfl, h1, h2, fun u h => absurd h hk⟩, by intro h; cases h⟩
      unfold sortSL0_step
      dsimp only
      rw [br_f (by simp; omega)]
  · have := (List.getElem?_eq_some_iff.1 h2).1
    omega
theorem ownS_eq {l : List Int} (h : l.length ≤ 4294967296) : ownIntS l = some l := by
  unfold ownIntS
  rw [br_t (by simpa using h)]
  rfl
/-- The numbers before a place are at most what stands ahead of it. -/
theorem le_take {o : List Int} (hs : o.Pairwise (· ≤ ·)) {k : Nat} {y : Int} (hk : k ≤ o.length) (h : ∀ z, 0 < k → o[k - 1]? = some z → z ≤ y) : ∀ z ∈ o.take k, z ≤ y := by
  intro z hz
  obtain ⟨j, hj, rfl⟩ := List.mem_iff_getElem.1 hz
  rw [List.length_take] at hj
  rw [List.getElem_take]
  have hk' : k - 1 < o.length := by omega
  have h1 := h o[k - 1] (by omega) (List.getElem?_eq_getElem hk')
  rcases (by omega : j = k - 1 ∨ j < k - 1) with e | hlt
  · subst e; exact h1
  · exact Int.le_trans (List.pairwise_iff_getElem.1 hs j (k - 1) (by omega) hk' hlt) h1
theorem sortS_ex {l : List Int} (hl : l.length ≤ 1000) : ∃ l', sortS l = some l' ∧ l'.Perm l ∧ l'.Pairwise (· ≤ ·) := by
  have := iterP_end (step := sortSL_step) (fun x => ∃ (i : Nat) (o : List Int), x = (l, o, (i : Int)) ∧ i ≤ l.length ∧ o.Perm (l.take i) ∧ o.Pairwise (· ≤ ·))
    (fun x => ∃ (i : Int) (o : List Int), x = (l, o, i) ∧ o.Perm l ∧ o.Pairwise (· ≤ ·)) (fun x => l.length - x.2.2.toNat) ?_ (sortSL_fuel (l, [], 0)) (l, [], 0) ⟨0, [], rfl, by omega, by simp, List.Pairwise.nil⟩ (by show l.length - (0 : Int).toNat < (l.length - (0 : Int).toNat) + 1; omega)
  · obtain ⟨_, h, i, o, rfl, h1, h2⟩ := this
    refine ⟨o, ?_, h1, h2⟩
    unfold sortS
    rw [show sortSL (l, [], 0) = _ from h, ob_s]
  · rintro _ ⟨i, o, rfl, hi, hp, hs⟩
    by_cases hlt : i < l.length
    · have hlen : o.length = i := by rw [hp.length_eq, List.length_take]; omega
      have hy : l[i]? = some l[i] := List.getElem?_eq_getElem hlt
      obtain ⟨k, e, k1, k2, k3⟩ := sortSL0_eq (o := o) hy (by omega) (by omega)
      refine ⟨.next, (l, o.take k ++ [l[i]] ++ o.drop k, ((i + 1 : Nat) : Int)), ?_, fun _ => ⟨⟨i + 1, _, rfl, by omega, ?_, ?_⟩, ?_⟩, fun h => (by cases h), by intro h; cases h⟩
      · unfold sortSL_step
        dsimp only
        rw [br_t (by simp; omega), e, ob_s]
        dsimp only
        rw [br_t (by simp; omega), show Int.toNat (0 : Int) = 0 from rfl, List.drop_zero, Int.toNat_natCast, ownS_eq (by rw [List.length_take]; omega), ob_s, idx_nat (l := l) (y := l[i]) (i := (i : Int)) (by omega) (by rw [Int.toNat_natCast]; exact hy), ob_s,
          br_t (by simp only [List.length_take, List.length_cons, List.length_nil, decide_eq_true_eq]; omega), br_t (by simp; omega), Int.toNat_natCast, List.take_length,
          br_t (by simp only [List.length_append, List.length_drop, List.length_take, List.length_cons, List.length_nil, decide_eq_true_eq]; omega), w64 (by omega) (by omega)]
        rfl
      · rw [List.take_add_one, hy]
        have : (o.take k ++ [l[i]] ++ o.drop k).Perm (o ++ [l[i]]) := by
          rw [List.append_assoc]
          refine (List.Perm.append_left _ List.perm_append_comm).trans ?_
          rw [← List.append_assoc, List.take_append_drop]
        exact this.trans (hp.append_right _)
      · rw [List.append_assoc, List.pairwise_append]
        refine ⟨hs.sublist (List.take_sublist _ _), ?_, ?_⟩
        · rw [List.singleton_append, List.pairwise_cons]
          refine ⟨fun z hz => ?_, hs.sublist (List.drop_sublist _ _)⟩
          obtain ⟨j, hj, rfl⟩ := List.mem_iff_getElem.1 hz
          rw [List.length_drop] at hj
          rw [List.getElem_drop]
          have := k2 (k + j) _ (by omega) (List.getElem?_eq_getElem (by omega))
          omega
        · intro a ha b hb
          have h1 := le_take hs k1 k3 a ha
          rcases List.mem_append.1 hb with hb | hb
          · simp at hb; subst hb; exact h1
          · obtain ⟨j, hj, rfl⟩ := List.mem_iff_getElem.1 hb
            rw [List.length_drop] at hj
            rw [List.getElem_drop]
            have := k2 (k + j) _ (by omega) (List.getElem?_eq_getElem (by omega))
            omega
      · show l.length - ((i + 1 : Nat) : Int).toNat < l.length - (i : Int).toNat
        omega
    · obtain rfl : i = l.length := by omega
      refine ⟨.out, (l, o, (l.length : Int)), ?_, fun h => (by cases h), fun _ => ⟨_, _, rfl, by rw [List.take_length] at hp; exact hp, hs⟩, by intro h; cases h⟩
      unfold sortSL_step
      dsimp only
      rw [br_f (by simp)]
theorem sorted_eq {l l' : List Int} (hp : l.Perm l') (h1 : l.Pairwise (· ≤ ·)) (h2 : l'.Pairwise (· ≤ ·)) : l = l' :=
  List.Perm.eq_of_pairwise (le := fun a b => a ≤ b) (fun a b _ _ h1 h2 => Int.le_antisymm h1 h2) h1 h2 hp
theorem sortS_asc {l : List Int} (hl : l.length ≤ 1000) (hs : l.Pairwise (· ≤ ·)) : sortS l = some l := by
  obtain ⟨l', e, hp, hs'⟩ := sortS_ex hl
  rw [e, sorted_eq hp hs' hs]
theorem canonS3 {a b : List Int} (h : a.length ≤ 3) (hb : b.length = a.length) : ∃ i, canonSL (a, b, [], 0) = some (a, b, canonF a b, i) := by
  match a, b, h, hb with
  | [], [], _, _ => exact ⟨_, rfl⟩
  | [x], [u], _, _ => exact ⟨_, rfl⟩
  | [x, y], [u, v], _, _ => exact ⟨_, rfl⟩
  | [x, y, z], [u, v, w], _, _ => exact ⟨_, rfl⟩
theorem canonS_ex {a b : List Int} (h : a.length ≤ 3) (hb : b.length = a.length) : ∃ a' b', canonS6 (a, b) = some (canonF a' b') ∧ (a'.Perm a ∧ a'.Pairwise (· ≤ ·)) ∧ b'.Perm b ∧ b'.Pairwise (· ≤ ·) := by
  obtain ⟨a', e1, p1, s1⟩ := sortS_ex (l := a) (by omega)
  obtain ⟨b', e2, p2, s2⟩ := sortS_ex (l := b) (by omega)
  have l1 := p1.length_eq; have l2 := p2.length_eq
  obtain ⟨i, e3⟩ := canonS3 (a := a') (b := b') (by omega) (by omega)
  refine ⟨a', b', ?_, ⟨p1, s1⟩, p2, s2⟩
  unfold canonS6
  dsimp only
  rw [e1, ob_s, e2, ob_s, e3, ob_s]
theorem canonS_eq {lo hi lo' hi' : Int} {n : Nat} (hn : n ≤ 3) {a b : List Int} (ha : IsW lo hi n a) (hb : IsW lo' hi' n b) : canonS6 (a, b) = some (canonF a b) := by
  have h1 := ha.len; have h2 := hb.len
  obtain ⟨a', b', e, ⟨p1, s1⟩, p2, s2⟩ := canonS_ex (a := a) (b := b) (by omega) (by omega)
  rw [e, sorted_eq p1 s1 ha.asc, sorted_eq p2 s2 hb.asc]
theorem canonF_len {a b : List Int} (h : a.length = b.length) : (canonF a b).length = a.length := by
  unfold canonF
  rw [List.length_zip, List.length_reverse]; omega
end
end Rx
end Go.Proofs.YthfgpnpoocepeaaGreat
