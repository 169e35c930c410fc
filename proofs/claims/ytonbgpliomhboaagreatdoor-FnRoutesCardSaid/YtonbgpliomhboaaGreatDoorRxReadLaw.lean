/- Numbers read from texts, and texts cut at a byte: both programs alike. No program in sight. No conditions. -/
import Derived.Test.YtonbgpliomhboaaGreatDoorRxRead
namespace Go.Proofs.YtonbgpliomhboaaGreatDoor
namespace Rx
open Go

/-! ### Digits -/
def isD (b : UInt8) : Bool := decide (48 ≤ b.toNat) && decide (b.toNat ≤ 57)
@[irreducible] def nxt (a : Nat) (b : UInt8) : Nat := 10 * a + (b.toNat - 48)
theorem nxt_eq (a : Nat) (b : UInt8) : nxt a b = 10 * a + (b.toNat - 48) := by unfold nxt; rfl
def dval : Nat → List UInt8 → Nat
  | a, [] => a
  | a, b :: l => dval (nxt a b) l
theorem dval_cons (a : Nat) (b : UInt8) (l : List UInt8) : dval a (b :: l) = dval (nxt a b) l := rfl
theorem all_yes {b : UInt8} (l : List UInt8) (hb : isD b = true) : (b :: l).all isD = l.all isD := by rw [List.all_cons, hb]; exact Bool.true_and _
theorem dg_cons (a : Nat) {b : UInt8} (l : List UInt8) (hb : isD b = true) : (if (b :: l).all isD = true then Lib.NumEnd.ok (dval a (b :: l)) else Lib.NumEnd.syntax) = if l.all isD = true then .ok (dval (nxt a b) l) else Lib.NumEnd.syntax := by
  have e := all_yes l hb
  by_cases h : l.all isD = true
  · exact (if_pos (e.trans h)).trans (if_pos h).symm
  · exact (if_neg (fun h' => h (e.symm.trans h'))).trans (if_neg h).symm
theorem parseM_cons (M a : Nat) (b : UInt8) (l : List UInt8) : Lib.parseUintM M a (b :: l) = if 48 ≤ b.toNat ∧ b.toNat ≤ 57 then
      if 1844674407370955162 ≤ a then .range
      else if M < a * 10 + (b.toNat - 48) then .range
      else Lib.parseUintM M (a * 10 + (b.toNat - 48)) l
    else Lib.NumEnd.syntax := rfl
theorem parseM_dig {M a : Nat} {b : UInt8} {l : List UInt8} (hd : 48 ≤ b.toNat ∧ b.toNat ≤ 57) (k1 : ¬ 1844674407370955162 ≤ a) (k2 : ¬ M < a * 10 + (b.toNat - 48)) : Lib.parseUintM M a (b :: l) = Lib.parseUintM M (nxt a b) l := by
  rw [parseM_cons, if_pos hd, if_neg k1, if_neg k2, Nat.mul_comm a 10, nxt_eq]
theorem isD_yes {b : UInt8} (hd : 48 ≤ b.toNat ∧ b.toNat ≤ 57) : isD b = true := by simp [isD, hd.1, hd.2]
theorem nxt_lt {a j : Nat} {b : UInt8} (ha : a < 10 ^ j) (hb : b.toNat ≤ 57) : nxt a b < 10 ^ (j + 1) := by
  rw [nxt_eq, Nat.pow_succ]
  revert ha
  generalize 10 ^ j = P
  intro ha
  omega
theorem parseM_eq {M : Nat} (hM : 999999999999999999 ≤ M) : ∀ (l : List UInt8) (a j : Nat), a < 10 ^ j → j + l.length ≤ 18 →
    Lib.parseUintM M a l = if l.all isD = true then .ok (dval a l) else Lib.NumEnd.syntax
  | [], a, j, _, _ => rfl
  | b :: l, a, j, ha, hj => by
    have hA : a < 100000000000000000 := Nat.lt_of_lt_of_le ha (Nat.pow_le_pow_right (n := 10) (j := 17) (by decide) (by simp at hj; omega))
    by_cases hd : 48 ≤ b.toNat ∧ b.toNat ≤ 57
    · have hb : isD b = true := isD_yes hd
      have k1 : ¬ 1844674407370955162 ≤ a := by omega
      have k2 : ¬ M < a * 10 + (b.toNat - 48) := by omega
      have k3 := nxt_lt (b := b) ha hd.2
      have k4 : j + 1 + l.length ≤ 18 := by rw [List.length_cons] at hj; omega
      have k5 := parseM_eq hM l _ (j + 1) k3 k4
      refine (parseM_dig hd k1 k2).trans (k5.trans ?_)
      exact (dg_cons a l hb).symm
    · have hb : isD b = false := by
        unfold isD
        rcases Nat.lt_or_ge b.toNat 48 with h | h
        · simp; omega
        · simp; omega
      rw [parseM_cons, if_neg hd, List.all_cons, hb]; rfl
theorem parseB_eq {l : List UInt8} (h : l.length ≤ 18) (h0 : l ≠ []) : Lib.parseUintB 64 l = if l.all isD = true then .ok (dval 0 l) else Lib.NumEnd.syntax := by
  unfold Lib.parseUintB
  rw [if_neg h0, parseM_eq (by decide) l 0 0 (by decide) (by omega)]
theorem dval_lt : ∀ (l : List UInt8) (a j : Nat), a < 10 ^ j → l.all isD = true → dval a l < 10 ^ (j + l.length)
  | [], a, j, h, _ => h
  | b :: l, a, j, h, hd => by
    rw [List.all_cons, Bool.and_eq_true] at hd
    have hb : b.toNat ≤ 57 ∧ 48 ≤ b.toNat := by have := hd.1; simp [isD] at this; omega
    have := dval_lt l (nxt a b) (j + 1) (nxt_lt h hb.1) hd.2
    rw [show j + (b :: l).length = j + 1 + l.length by simp; omega, dval_cons]
    exact this
theorem dval_18 {l : List UInt8} (h : l.length ≤ 18) (hd : l.all isD = true) : dval 0 l < 1000000000000000000 := by
  have h1 := dval_lt l 0 0 (by decide) hd
  have h2 : 10 ^ (0 + l.length) ≤ 10 ^ 18 := Nat.pow_le_pow_right (by decide) (by omega)
  have h3 : (10 : Nat) ^ 18 = 1000000000000000000 := by decide
  omega

/-! ### What both come to -/
def negL (l : List UInt8) : Bool := l.head? == some 45
def tailL (l : List UInt8) : List UInt8 := if negL l then l.tail else l
def numV (l : List UInt8) : Int := if negL l then -(dval 0 (tailL l) : Int) else dval 0 (tailL l)
open Classical in
noncomputable def numF (s : BA) : Int × Bool :=
  if (1 ≤ (tailL s.data.toList).length ∧ (tailL s.data.toList).length ≤ 18) ∧ (tailL s.data.toList).all isD = true ∧ decB (numV s.data.toList) = s then (numV s.data.toList, true) else (0, false)
theorem dig_is : ∀ (u : Nat) (b : UInt8), b ∈ Lib.decDigits u → isD b = true := by
  intro u
  induction u using Nat.strongRecOn with
  | ind u ih =>
    intro b hb
    have hD : ∀ m, m < 10 → isD (UInt8.ofNat (48 + m)) = true := by
      intro m hm
      have : (UInt8.ofNat (48 + m)).toNat = 48 + m := by simp [UInt8.toNat_ofNat]; omega
      simp [isD]; omega
    by_cases h : u < 10
    · rw [dec_small h] at hb
      rw [List.mem_singleton.1 hb]
      exact hD u h
    · rw [dec_big h] at hb
      rcases List.mem_append.1 hb with hb | hb
      · exact ih (u / 10) (by omega) b hb
      · rw [List.mem_singleton.1 hb]
        exact hD _ (Nat.mod_lt _ (by omega))
theorem trim_list (l : List UInt8) : Lib.trimPrefix l [45] = tailL l := by
  unfold Lib.trimPrefix tailL negL
  cases l with
  | nil => rfl
  | cons c r =>
    by_cases h : c = 45
    · subst h; rfl
    · have h2 : ((45 : UInt8) == c) = false := by rw [beq_eq_false_iff_ne]; exact fun e => h e.symm
      have h3 : (c == (45 : UInt8)) = false := by rw [beq_eq_false_iff_ne]; exact h
      simp [Lib.hasPrefix, h3]
      try (intro e; exact (h e.symm).elim)
theorem parse_neg {r : List UInt8} (h0 : r ≠ []) (h : r.length ≤ 18) : Lib.parseIntB 64 (45 :: r) = if r.all isD = true then .ok (-(dval 0 r : Int)) else Lib.NumEnd.syntax := by
  unfold Lib.parseIntB
  simp only
  rw [if_pos (.inr rfl), parseB_eq h h0]
  by_cases hd : r.all isD = true
  · have h18 := dval_18 h hd
    simp only [if_pos hd]
    rw [if_neg (fun h => h.1 rfl), if_neg (by intro h; have := h.2; omega)]
    rfl
  · simp only [if_neg hd]
theorem parse_pos {c : UInt8} {r : List UInt8} (h1 : c.toNat ≠ 43) (h2 : c.toNat ≠ 45) (h : (c :: r).length ≤ 18) : Lib.parseIntB 64 (c :: r) = if (c :: r).all isD = true then .ok (dval 0 (c :: r) : Int) else Lib.NumEnd.syntax := by
  unfold Lib.parseIntB
  simp only
  rw [if_neg (by rintro (h | h); exact h1 h; exact h2 h), parseB_eq h (by simp)]
  by_cases hd : (c :: r).all isD = true
  · have h18 := dval_18 h hd
    simp only [if_pos hd]
    rw [if_neg (by intro h; have := h.2; omega), if_neg (fun h => h2 h.1), if_neg h2]
  · simp only [if_neg hd]
theorem parse_plus {c : UInt8} {r : List UInt8} (h1 : c.toNat = 43) (h : r.length ≤ 18) : Lib.parseIntB 64 (c :: r) = Lib.NumEnd.syntax ∨ ∃ u : Nat, Lib.parseIntB 64 (c :: r) = .ok (u : Int) := by
  unfold Lib.parseIntB
  simp only
  rw [if_pos (.inl h1)]
  by_cases h0 : r = []
  · subst h0; exact .inl rfl
  · rw [parseB_eq h h0]
    by_cases hd : r.all isD = true
    · have h18 := dval_18 h hd
      simp only [if_pos hd]
      right
      refine ⟨dval 0 r, ?_⟩
      rw [if_neg (by intro h; have := h.2; omega), if_neg (by intro h; omega), if_neg (by omega)]
    · simp only [if_neg hd]
      exact .inl trivial
theorem readD_eq (s : BA) : readD s = numF s := by
  unfold readD numF digOf
  rw [ba_len, trim_list]
  generalize hl : s.data.toList = l
  by_cases h1 : 1 ≤ (tailL l).length ∧ (tailL l).length ≤ 18
  · rw [if_pos h1]
    cases l with
    | nil => simp [tailL, negL] at h1
    | cons c r =>
      by_cases hc : c.toNat = 45
      · have hc' : c = 45 := UInt8.toNat_inj.1 hc
        subst hc'
        have ht : tailL (45 :: r) = r := rfl
        have hn : numV (45 :: r) = -(dval 0 r : Int) := rfl
        rw [ht] at h1
        rw [parse_neg (by intro e; rw [e] at h1; simp at h1) h1.2, hn, ht]
        by_cases hd : r.all isD = true
        · rw [if_pos hd]
          by_cases he : decB (-(dval 0 r : Int)) = s
          · rw [if_pos ⟨h1, hd, he⟩]; exact if_pos he
          · rw [if_neg (fun h => he h.2.2)]; exact if_neg he
        · rw [if_neg hd, if_neg (fun h => hd h.2.1)]
      · have hc' : ¬ c = 45 := fun e => hc (by rw [e]; rfl)
        have hn : negL (c :: r) = false := by simp [negL, hc']
        have ht : tailL (c :: r) = c :: r := by unfold tailL; rw [hn]; rfl
        have hv : numV (c :: r) = (dval 0 (c :: r) : Int) := by unfold numV; rw [hn, ht]; rfl
        rw [ht] at h1
        rw [ht, hv]
        by_cases hp : c.toNat = 43
        · have hcd : isD c = false := by simp [isD, hp]
          have hall : ¬ (c :: r).all isD = true := by rw [List.all_cons, hcd]; simp
          rw [if_neg (fun h => hall h.2.1)]
          rcases parse_plus (c := c) (r := r) hp (by simp at h1; omega) with e | ⟨u, e⟩
          · rw [e]
          · rw [e]
            have he : ¬ decB (u : Int) = s := by
              intro e
              have e1 : Lib.itoa (u : Int) = c :: r := (congrArg (fun x : BA => x.data.toList) e).trans hl
              have e2 : Lib.itoa (u : Int) = Lib.decDigits u := by unfold Lib.itoa; rw [if_neg (by omega)]; simp
              have := dig_is u c (by rw [← e2, e1]; simp)
              rw [hcd] at this; cases this
            exact if_neg he
        · rw [parse_pos hp hc h1.2]
          by_cases hd : (c :: r).all isD = true
          · rw [if_pos hd]
            by_cases he : decB (dval 0 (c :: r) : Int) = s
            · rw [if_pos ⟨h1, hd, he⟩]; exact if_pos he
            · rw [if_neg (fun h => he h.2.2)]; exact if_neg he
          · rw [if_neg hd, if_neg (fun h => hd h.2.1)]
  · rw [if_neg h1, if_neg (fun h => h1 h.1)]

/-! ### The reference's number -/
theorem beq_list {a b : BA} : (ByteArray.toList a == ByteArray.toList b) = true ↔ a = b := by
  rw [beq_iff_eq]
  exact ⟨toList_inj, fun h => by rw [h]⟩
theorem ext_list (s : BA) (a b : Nat) : (s.extract a b).data.toList = (s.data.toList.drop a).take (b - a) := by
  rw [← ByteArray.toList_eq, Lib.extract_toList]
end Rx
end Go.Proofs.YtonbgpliomhboaaGreatDoor

namespace Go.Proofs.YtonbgpliomhboaaGreatDoor
namespace Rx
open Go

/-! ### Texts cut at a byte -/
def cutL (c : UInt8) : List UInt8 → List (List UInt8)
  | [] => [[]]
  | b :: l => if b = c then [] :: cutL c l else (b :: (cutL c l).headD []) :: (cutL c l).tail
theorem cutL_no {c : UInt8} : ∀ {l : List UInt8}, c ∉ l → cutL c l = [l]
  | [], _ => rfl
  | b :: l, h => by
    have hb : ¬ b = c := fun e => h (by rw [e]; simp)
    have hl : c ∉ l := fun e => h (by simp [e])
    rw [cutL, if_neg hb, cutL_no hl]; rfl
theorem cutL_hit {c : UInt8} : ∀ {a : List UInt8} (b : List UInt8), c ∉ a → cutL c (a ++ c :: b) = a :: cutL c b
  | [], b, _ => by
    rw [List.nil_append, cutL, if_pos rfl]
  | x :: a, b, h => by
    have hb : ¬ x = c := fun e => h (by rw [e]; simp)
    have hl : c ∉ a := fun e => h (by simp [e])
    rw [List.cons_append, cutL, if_neg hb, cutL_hit b hl]; rfl
def glueL (c : UInt8) : List (List UInt8) → List UInt8
  | [] => []
  | [x] => x
  | x :: y :: r => x ++ c :: glueL c (y :: r)
theorem cutL_ne (c : UInt8) : ∀ (l : List UInt8), cutL c l ≠ []
  | [] => by simp [cutL]
  | b :: l => by
    unfold cutL
    split <;> simp
theorem glue_cut (c : UInt8) : ∀ (l : List UInt8), glueL c (cutL c l) = l
  | [] => rfl
  | b :: l => by
    have ih := glue_cut c l
    rw [cutL]
    obtain ⟨x, r, e⟩ := List.exists_cons_of_ne_nil (cutL_ne c l)
    rw [e] at ih ⊢
    by_cases h : b = c
    · rw [if_pos h, h]
      show [] ++ c :: glueL c (x :: r) = _
      rw [ih]; rfl
    · rw [if_neg h]
      cases r with
      | nil =>
        have ih : x = l := ih
        show b :: x = _
        rw [ih]
      | cons y r =>
        show (b :: x) ++ c :: glueL c (y :: r) = _
        rw [List.cons_append]
        exact congrArg (List.cons b) ih
theorem split_at {c : UInt8} {l : List UInt8} {i : Nat} (h : l[i]? = some c) : l = l.take i ++ c :: l.drop (i + 1) := by
  have hi : i < l.length := by
    rcases Nat.lt_or_ge i l.length with h' | h'
    · exact h'
    · rw [List.getElem?_eq_none h'] at h; cases h
  rw [List.getElem?_eq_getElem hi] at h
  have h := Option.some.inj h
  conv => lhs; rw [← List.take_append_drop i l, List.drop_eq_getElem_cons hi, h]
theorem splitB_cut (c : UInt8) : ∀ (k : Nat) (s : BA), s.size ≤ k → Lib.splitB ⟨#[c]⟩ 0 (Lib.countB s ⟨#[c]⟩) s = (cutL c s.data.toList).map ba := by
  intro k
  induction k with
  | zero =>
    intro s hs
    have hl : s.data.toList = [] := List.length_eq_zero_iff.1 (by rw [← ba_size]; omega)
    have hm : Lib.indexB s ⟨#[c]⟩ = -1 := by
      show Lib.index s.data.toList [c] = -1
      rw [Lib.index_one, hl]; rfl
    rw [Lib.splitB_miss _ _ _ _ hm, hl]
    show [s] = [ba []]
    rw [← hl, ba_of]
  | succ k ih =>
    intro s hs
    have hidx : Lib.indexB s ⟨#[c]⟩ = Lib.indexByte s.data.toList c := Lib.index_one _ _
    rcases Lib.indexB_cases s ⟨#[c]⟩ with hm | ⟨i, hi, hle⟩
    · have hno : c ∉ s.data.toList := by
        intro hc
        obtain ⟨j, hj⟩ := List.mem_iff_getElem?.1 hc
        exact Lib.indexByte_none (hidx.symm.trans hm) j hj
      rw [Lib.splitB_miss _ _ _ _ hm, cutL_no hno]
      show [s] = [ba s.data.toList]
      rw [ba_of]
    · have h1 : (⟨#[c]⟩ : ByteArray).size = 1 := rfl
      rw [h1] at hle
      obtain ⟨g1, g2⟩ := Lib.indexByte_some (hidx.symm.trans hi)
      have hno : c ∉ s.data.toList.take i := by
        intro hc
        obtain ⟨j, hj⟩ := List.mem_iff_getElem?.1 hc
        have hji : j < i := by
          rcases Nat.lt_or_ge j i with h' | h'
          · exact h'
          · rw [List.getElem?_eq_none (by simp; omega)] at hj; cases hj
        rw [List.getElem?_take_of_lt hji] at hj
        exact g2 j hji hj
      rw [Lib.countB_hit s _ i (by rw [h1]; omega) hi, Nat.add_comm 1, Lib.splitB_hit _ _ _ _ i hi, h1]
      have e := split_at g1
      have hd : (s.extract (i + 1) s.size).data.toList = s.data.toList.drop (i + 1) := by
        rw [ext_list]
        exact List.take_of_length_le (by rw [List.length_drop, ← ba_size]; omega)
      have ht : (s.extract 0 (i + 0)).data.toList = s.data.toList.take i := by
        rw [ext_list]; rfl
      rw [ih _ (by rw [ba_size, hd, List.length_drop, ← ba_size]; omega), hd]
      conv => rhs; rw [e, cutL_hit _ hno]
      rw [List.map_cons, ← ht, ba_of]
theorem splitX_eq (c : UInt8) {s : BA} (h : s.size < 4294967281) : splitX (s, ⟨#[c]⟩) = some ((cutL c s.data.toList).map ba) := by
  unfold splitX
  rw [if_pos ⟨h, Nat.le_refl 1⟩, splitB_cut c s.size s (Nat.le_refl _)]

/-! ### Planetary gears -/
theorem numF_canon {s : BA} (h : (numF s).2 = true) : decB (numF s).1 = s := by
  unfold numF at h ⊢
  split at h
  · rename_i h1
    rw [if_pos h1]
    exact h1.2.2
  · cases h
theorem readX_eq {s : BA} (h : s.size ≤ 281474976710656) : readX s = some (numF s) := by
  unfold readX
  rw [if_pos h, readD_eq]
/-- Behind three numbers. -/
theorem wordsI_eq {s : BA} (h : s.size ≤ 1048576) : wordsI s = some ((cutL 32 s.data.toList).map ba) := by
  unfold wordsI
  rw [ob_some' (splitX_eq 32 (s := s) (by omega))]
end Rx
end Go.Proofs.YtonbgpliomhboaaGreatDoor
