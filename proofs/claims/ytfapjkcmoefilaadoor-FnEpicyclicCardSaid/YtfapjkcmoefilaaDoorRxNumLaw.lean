/- Numbers read from texts, and texts cut at a byte: both programs alike. No program in sight. No conditions. -/
import Derived.Test.YtfapjkcmoefilaaDoorRxRead
namespace Go.Proofs.YtfapjkcmoefilaaDoor
namespace Rx
open Go

/-! ### Digits -/
def isD (b : UInt8) : Bool := decide (48 ≤ b.toNat) && decide (b.toNat ≤ 57)
@[irreducible] def nxt (a : Nat) (b : UInt8) : Nat := 10 * a + (b.toNat - 48)
theorem nxt_eq (a : Nat) (b : UInt8) : nxt a b = 10 * a + (b.toNat - 48) := by unfold nxt; rfl
def dval : Nat → List UInt8 → Nat
  | a, [] => a
  | a, b :: l => dval (nxt a b) l
theorem dval_cons (a : Nat) (b : UInt8) (l : List UInt8) : dval a (b :: l) = dval (nxt a b) l := rfl
theorem all_yes {b : UInt8} (l : List UInt8) (hb : isD b = true) : (b :: l).all isD = l.all isD := by rw [List.all_cons, hb]; exact Bool.true_and _
theorem dg_cons (a : Nat) {b : UInt8} (l : List UInt8) (hb : isD b = true) : (if (b :: l).all isD = true then Lib.NumEnd.ok (dval a (b :: l)) else Lib.NumEnd.syntax) = if l.all isD = true then .ok (dval (nxt a b) l) else Lib.NumEnd.syntax := by
  have e := all_yes l hb
  by_cases h : l.all isD = true
  · exact (if_pos (e.trans h)).trans (if_pos h).symm
  · exact (if_neg (fun h' => h (e.symm.trans h'))).trans (if_neg h).symm
theorem parseM_cons (M a : Nat) (b : UInt8) (l : List UInt8) : Lib.parseUintM M a (b :: l) = if 48 ≤ b.toNat ∧ b.toNat ≤ 57 then
      if 1844674407370955162 ≤ a then .range
      else if M < a * 10 + (b.toNat - 48) then .range
      else Lib.parseUintM M (a * 10 + (b.toNat - 48)) l
    else Lib.NumEnd.syntax := rfl
theorem parseM_dig {M a : Nat} {b : UInt8} {l : List UInt8} (hd : 48 ≤ b.toNat ∧ b.toNat ≤ 57) (k1 : ¬ 1844674407370955162 ≤ a) (k2 : ¬ M < a * 10 + (b.toNat - 48)) : Lib.parseUintM M a (b :: l) = Lib.parseUintM M (nxt a b) l := by
  rw [parseM_cons, if_pos hd, if_neg k1, if_neg k2, Nat.mul_comm a 10, nxt_eq]
theorem isD_yes {b : UInt8} (hd : 48 ≤ b.toNat ∧ b.toNat ≤ 57) : isD b = true := by simp [isD, hd.1, hd.2]
theorem nxt_lt {a j : Nat} {b : UInt8} (ha : a < 10 ^ j) (hb : b.toNat ≤ 57) : nxt a b < 10 ^ (j + 1) := by
  rw [nxt_eq, Nat.pow_succ]
  revert ha
  generalize 10 ^ j = P
  intro ha
  omega
theorem parseM_eq {M : Nat} (hM : 999999999999999999 ≤ M) : ∀ (l : List UInt8) (a j : Nat), a < 10 ^ j → j + l.length ≤ 18 →
    Lib.parseUintM M a l = if l.all isD = true then .ok (dval a l) else Lib.NumEnd.syntax
  | [], a, j, _, _ => rfl
  | b :: l, a, j, ha, hj => by
    have hA : a < 100000000000000000 := Nat.lt_of_lt_of_le ha (Nat.pow_le_pow_right (n := 10) (j := 17) (by decide) (by simp at hj; omega))
    by_cases hd : 48 ≤ b.toNat ∧ b.toNat ≤ 57
    · have hb : isD b = true := isD_yes hd
      have k1 : ¬ 1844674407370955162 ≤ a := by omega
      have k2 : ¬ M < a * 10 + (b.toNat - 48) := by omega
      have k3 := nxt_lt (b := b) ha hd.2
      have k4 : j + 1 + l.length ≤ 18 := by rw [List.length_cons] at hj; omega
      have k5 := parseM_eq hM l _ (j + 1) k3 k4
      refine (parseM_dig hd k1 k2).trans (k5.trans ?_)
      exact (dg_cons a l hb).symm
    · have hb : isD b = false := by
        unfold isD
        rcases Nat.lt_or_ge b.toNat 48 with h | h
        · simp; omega
        · simp; omega
      rw [parseM_cons, if_neg hd, List.all_cons, hb]; rfl
theorem parseB_eq {l : List UInt8} (h : l.length ≤ 18) (h0 : l ≠ []) : Lib.parseUintB 64 l = if l.all isD = true then .ok (dval 0 l) else Lib.NumEnd.syntax := by
  unfold Lib.parseUintB
  rw [if_neg h0, parseM_eq (by decide) l 0 0 (by decide) (by omega)]
theorem dval_lt : ∀ (l : List UInt8) (a j : Nat), a < 10 ^ j → l.all isD = true → dval a l < 10 ^ (j + l.length)
  | [], a, j, h, _ => h
  | b :: l, a, j, h, hd => by
    rw [List.all_cons, Bool.and_eq_true] at hd
    have hb : b.toNat ≤ 57 ∧ 48 ≤ b.toNat := by have := hd.1; simp [isD] at this; omega
    have := dval_lt l (nxt a b) (j + 1) (nxt_lt h hb.1) hd.2
    rw [show j + (b :: l).length = j + 1 + l.length by simp; omega, dval_cons]
    exact this
theorem dval_18 {l : List UInt8} (h : l.length ≤ 18) (hd : l.all isD = true) : dval 0 l < 1000000000000000000 := by
  have h1 := dval_lt l 0 0 (by decide) hd
  have h2 : 10 ^ (0 + l.length) ≤ 10 ^ 18 := Nat.pow_le_pow_right (by decide) (by omega)
  have h3 : (10 : Nat) ^ 18 = 1000000000000000000 := by decide
  omega

/-! ### What both come to -/
def negL (l : List UInt8) : Bool := l.head? == some 45
def tailL (l : List UInt8) : List UInt8 := if negL l then l.tail else l
def numV (l : List UInt8) : Int := if negL l then -(dval 0 (tailL l) : Int) else dval 0 (tailL l)
open Classical in
noncomputable def numF (s : BA) : Int × Bool :=
  if (1 ≤ (tailL s.data.toList).length ∧ (tailL s.data.toList).length ≤ 18) ∧ (tailL s.data.toList).all isD = true ∧ decB (numV s.data.toList) = s then (numV s.data.toList, true) else (0, false)
theorem decB_list (n : Int) : (decB n).data.toList = Lib.itoa n := rfl
theorem dig_is : ∀ (u : Nat) (b : UInt8), b ∈ Lib.decDigits u → isD b = true := by
  intro u
  induction u using Nat.strongRecOn with
  | ind u ih =>
    intro b hb
    have hD : ∀ m, m < 10 → isD (UInt8.ofNat (48 + m)) = true := by
      intro m hm
      have : (UInt8.ofNat (48 + m)).toNat = 48 + m := by simp [UInt8.toNat_ofNat]; omega
      simp [isD]; omega
    by_cases h : u < 10
    · rw [dec_small h] at hb
      rw [List.mem_singleton.1 hb]
      exact hD u h
    · rw [dec_big h] at hb
      rcases List.mem_append.1 hb with hb | hb
      · exact ih (u / 10) (by omega) b hb
      · rw [List.mem_singleton.1 hb]
        exact hD _ (Nat.mod_lt _ (by omega))
theorem trim_list (l : List UInt8) : Lib.trimPrefix l [45] = tailL l := by
  unfold Lib.trimPrefix tailL negL
  cases l with
  | nil => rfl
  | cons c r =>
    by_cases h : c = 45
    · subst h; rfl
    · have h2 : ((45 : UInt8) == c) = false := by rw [beq_eq_false_iff_ne]; exact fun e => h e.symm
      have h3 : (c == (45 : UInt8)) = false := by rw [beq_eq_false_iff_ne]; exact h
      simp [Lib.hasPrefix, h3]
      try (intro e; exact (h e.symm).elim)
theorem parse_neg {r : List UInt8} (h0 : r ≠ []) (h : r.length ≤ 18) : Lib.parseIntB 64 (45 :: r) = if r.all isD = true then .ok (-(dval 0 r : Int)) else Lib.NumEnd.syntax := by
  unfold Lib.parseIntB
  simp only
  rw [if_pos (.inr rfl), parseB_eq h h0]
  by_cases hd : r.all isD = true
  · have h18 := dval_18 h hd
    simp only [if_pos hd]
    rw [if_neg (fun h => h.1 rfl), if_neg (by intro h; have := h.2; omega)]
    rfl
  · simp only [if_neg hd]
theorem parse_pos {c : UInt8} {r : List UInt8} (h1 : c.toNat ≠ 43) (h2 : c.toNat ≠ 45) (h : (c :: r).length ≤ 18) : Lib.parseIntB 64 (c :: r) = if (c :: r).all isD = true then .ok (dval 0 (c :: r) : Int) else Lib.NumEnd.syntax := by
  unfold Lib.parseIntB
  simp only
  rw [if_neg (by rintro (h | h); exact h1 h; exact h2 h), parseB_eq h (by simp)]
  by_cases hd : (c :: r).all isD = true
  · have h18 := dval_18 h hd
    simp only [if_pos hd]
    rw [if_neg (by intro h; have := h.2; omega), if_neg (fun h => h2 h.1), if_neg h2]
  · simp only [if_neg hd]
theorem parse_plus {c : UInt8} {r : List UInt8} (h1 : c.toNat = 43) (h : r.length ≤ 18) : Lib.parseIntB 64 (c :: r) = Lib.NumEnd.syntax ∨ ∃ u : Nat, Lib.parseIntB 64 (c :: r) = .ok (u : Int) := by
  unfold Lib.parseIntB
  simp only
  rw [if_pos (.inl h1)]
  by_cases h0 : r = []
  · subst h0; exact .inl rfl
  · rw [parseB_eq h h0]
    by_cases hd : r.all isD = true
    · have h18 := dval_18 h hd
      simp only [if_pos hd]
      right
      refine ⟨dval 0 r, ?_⟩
      rw [if_neg (by intro h; have := h.2; omega), if_neg (by intro h; omega), if_neg (by omega)]
    · simp only [if_neg hd]
      exact .inl trivial
theorem readD_eq (s : BA) : readD s = numF s := by
  unfold readD numF digOf
  rw [ba_len, trim_list]
  generalize hl : s.data.toList = l
  by_cases h1 : 1 ≤ (tailL l).length ∧ (tailL l).length ≤ 18
  · rw [if_pos h1]
    cases l with
    | nil => simp [tailL, negL] at h1
    | cons c r =>
      by_cases hc : c.toNat = 45
      · have hc' : c = 45 := UInt8.toNat_inj.1 hc
        subst hc'
        have ht : tailL (45 :: r) = r := rfl
        have hn : numV (45 :: r) = -(dval 0 r : Int) := rfl
        rw [ht] at h1
        rw [parse_neg (by intro e; rw [e] at h1; simp at h1) h1.2, hn, ht]
        by_cases hd : r.all isD = true
        · rw [if_pos hd]
          by_cases he : decB (-(dval 0 r : Int)) = s
          · rw [if_pos ⟨h1, hd, he⟩]; exact if_pos he
          · rw [if_neg (fun h => he h.2.2)]; exact if_neg he
        · rw [if_neg hd, if_neg (fun h => hd h.2.1)]
      · have hc' : ¬ c = 45 := fun e => hc (by rw [e]; rfl)
        have hn : negL (c :: r) = false := by simp [negL, hc']
        have ht : tailL (c :: r) = c :: r := by unfold tailL; rw [hn]; rfl
        have hv : numV (c :: r) = (dval 0 (c :: r) : Int) := by unfold numV; rw [hn, ht]; rfl
        rw [ht] at h1
        rw [ht, hv]
        by_cases hp : c.toNat = 43
        · have hcd : isD c = false := by simp [isD, hp]
          have hall : ¬ (c :: r).all isD = true := by rw [List.all_cons, hcd]; simp
          rw [if_neg (fun h => hall h.2.1)]
          rcases parse_plus (c := c) (r := r) hp (by simp at h1; omega) with e | ⟨u, e⟩
          · rw [e]
          · rw [e]
            have he : ¬ decB (u : Int) = s := by
              intro e
              have e1 : Lib.itoa (u : Int) = c :: r := (congrArg (fun x : BA => x.data.toList) e).trans hl
              have e2 : Lib.itoa (u : Int) = Lib.decDigits u := by unfold Lib.itoa; rw [if_neg (by omega)]; simp
              have := dig_is u c (by rw [← e2, e1]; simp)
              rw [hcd] at this; cases this
            exact if_neg he
        · rw [parse_pos hp hc h1.2]
          by_cases hd : (c :: r).all isD = true
          · rw [if_pos hd]
            by_cases he : decB (dval 0 (c :: r) : Int) = s
            · rw [if_pos ⟨h1, hd, he⟩]; exact if_pos he
            · rw [if_neg (fun h => he h.2.2)]; exact if_neg he
          · rw [if_neg hd, if_neg (fun h => hd h.2.1)]
  · rw [if_neg h1, if_neg (fun h => h1 h.1)]

/-! ### The reference's number -/
theorem sidx_get {t : BA} {i : Nat} {b : UInt8} (h : t.data.toList[i]? = some b) : sidx t (i : Int) = some b := by
  unfold sidx
  rw [if_pos (by omega)]
  have hi : i < t.data.toList.length := by
    rcases Nat.lt_or_ge i t.data.toList.length with h' | h'
    · exact h'
    · rw [List.getElem?_eq_none h'] at h; cases h
  have hs : i < t.size := by rw [ba_size]; exact hi
  have e : ((i : Int)).toNat = i := by omega
  rw [e, getElem?_pos t i hs]
  rw [List.getElem?_eq_getElem hi] at h
  exact h
theorem digitS_eq (b : UInt8) : digitS (b.toNat : Int) = some (isD b) := by
  unfold digitS isD
  by_cases h : 48 ≤ b.toNat
  · rw [br_t (by simp; omega)]
    simp [h]
    omega
  · rw [br_f (by simp; omega)]
    simp [h]
theorem number_step {s0 t : BA} {r0 : Int} {b0 : Bool} {a i j : Nat} {b : UInt8} (hb : t.data.toList[i]? = some b) (ha : a < 10 ^ j) (hj : j ≤ 17) (hi : t.data.toList.length ≤ 18) :
    numberSL_step (s0, r0, b0, t, (a : Int), (i : Int)) = if isD b = true then some (.next, s0, r0, b0, t, (nxt a b : Int), ((i + 1 : Nat) : Int)) else some (.ret, s0, 0, false, t, (a : Int), (i : Int)) := by
  have hlt : i < t.data.toList.length := by
    rcases Nat.lt_or_ge i t.data.toList.length with h' | h'
    · exact h'
    · rw [List.getElem?_eq_none h'] at hb; cases hb
  have hA : a < 100000000000000000 := Nat.lt_of_lt_of_le ha (Nat.pow_le_pow_right (n := 10) (j := 17) (by decide) hj)
  unfold numberSL_step
  dsimp only
  rw [br_t (by have := ba_size t; simp; omega), ob_some' (sidx_get hb), ob_some' (digitS_eq b)]
  by_cases hd : isD b = true
  · rw [if_pos hd, br_f (by rw [hd]; rfl), ob_some' (sidx_get hb)]
    have hd' : 48 ≤ b.toNat ∧ b.toNat ≤ 57 := by simpa [isD] using hd
    have e1 : IntKind.u8.wrap ((b.toNat : Int) - 48) = (b.toNat : Int) - 48 := by
      unfold IntKind.wrap
      simp [IntKind.bits, IntKind.signed]
      omega
    rw [e1, w64 (x := 10 * (a : Int)) (by omega) (by omega), w64 (x := (b.toNat : Int) - 48) (by omega) (by omega), w64 (by omega) (by omega), w64 (by omega) (by omega)]
    have e2 : (10 * (a : Int) + ((b.toNat : Int) - 48)) = (nxt a b : Int) := by rw [nxt_eq]; omega
    have e3 : (i : Int) + 1 = ((i + 1 : Nat) : Int) := by omega
    rw [e2, e3]
  · rw [if_neg hd, br_t (by simp [hd])]
theorem number_stop {s0 t : BA} {r0 n : Int} {b0 : Bool} {i : Nat} (hi : t.data.toList.length ≤ i) :
    numberSL_step (s0, r0, b0, t, n, (i : Int)) = some (.out, s0, r0, b0, t, n, (i : Int)) := by
  unfold numberSL_step
  dsimp only
  rw [br_f (by have := ba_size t; simp; omega)]
theorem number_run {s0 t : BA} {r0 : Int} {b0 : Bool} (ht : t.data.toList.length ≤ 18) : ∀ (l : List UInt8) (i fuel a j : Nat), t.data.toList.drop i = l → l.length < fuel → a < 10 ^ j → j + l.length ≤ 18 →
    (l.all isD = true → ∃ i' : Int, iter numberSL_step fuel (s0, r0, b0, t, (a : Int), (i : Int)) = some (true, s0, r0, b0, t, (dval a l : Int), i')) ∧
    (l.all isD = false → ∃ n i' : Int, iter numberSL_step fuel (s0, r0, b0, t, (a : Int), (i : Int)) = some (false, s0, 0, false, t, n, i'))
  | _, _, 0, _, _, _, h, _, _ => by omega
  | [], i, fuel + 1, a, j, hl, _, _, _ => by
    have hi : t.data.toList.length ≤ i := List.drop_eq_nil_iff.1 hl
    refine ⟨fun _ => ⟨(i : Int), ?_⟩, fun h => by simp at h⟩
    simp only [iter, number_stop hi]
    rfl
  | b :: l, i, fuel + 1, a, j, hl, hf, ha, hj => by
    have hb : t.data.toList[i]? = some b := by
      have := congrArg List.head? hl
      rw [List.head?_drop] at this
      exact this
    have hl' : t.data.toList.drop (i + 1) = l := by
      have := congrArg List.tail hl
      rw [List.tail_drop] at this
      exact this
    have hst := number_step (s0 := s0) (r0 := r0) (b0 := b0) hb ha (by simp at hj; omega) ht
    by_cases hd : isD b = true
    · rw [if_pos hd] at hst
      have hb57 : b.toNat ≤ 57 := by have : 48 ≤ b.toNat ∧ b.toNat ≤ 57 := by simpa [isD] using hd
                                     exact this.2
      obtain ⟨k1, k2⟩ := number_run (s0 := s0) (r0 := r0) (b0 := b0) ht l (i + 1) fuel (nxt a b) (j + 1) hl' (by simp at hf; omega) (nxt_lt ha hb57) (by simp at hj; omega)
      refine ⟨fun h => ?_, fun h => ?_⟩
      · rw [all_yes l hd] at h
        obtain ⟨i', e⟩ := k1 h
        refine ⟨i', ?_⟩
        simp only [iter, hst, ob, dval_cons]
        exact e
      · rw [all_yes l hd] at h
        obtain ⟨n, i', e⟩ := k2 h
        refine ⟨n, i', ?_⟩
        simp only [iter, hst, ob]
        exact e
    · rw [if_neg hd] at hst
      refine ⟨fun h => ?_, fun _ => ⟨(a : Int), (i : Int), ?_⟩⟩
      · rw [List.all_cons, Bool.and_eq_true] at h
        exact (hd h.1).elim
      · simp only [iter, hst, ob]
noncomputable def numTail (s t : BA) : Option (Int × Bool) :=
  br (decide ((↑t.size : Int) < (1 : Int))) (some ((0 : Int), false))
    (br (decide ((18 : Int) < (↑t.size : Int))) (some ((0 : Int), false))
      (ob (numberSL (s, (0 : Int), false, t, (0 : Int), (0 : Int))) fun r =>
        br r.1
          (br (decide ((↑(ByteArray.size r.snd.snd.snd.snd.1) : Int) < (↑(ByteArray.size r.snd.1) : Int)))
            (ob (decT (IntKind.i64.wrap ((0 : Int) - r.snd.snd.snd.snd.snd.1))) fun y =>
              br (!ByteArray.toList y == ByteArray.toList r.snd.1) (some ((0 : Int), false))
                (some (IntKind.i64.wrap ((0 : Int) - r.snd.snd.snd.snd.snd.1), true)))
            (ob (decT r.snd.snd.snd.snd.snd.1) fun y =>
              br (!ByteArray.toList y == ByteArray.toList r.snd.1) (some ((0 : Int), false))
                (some (r.snd.snd.snd.snd.snd.1, true))))
          (some (r.snd.snd.1, r.snd.snd.snd.1))))
theorem numberS_def (x : BA) : numberS x = br (!x.toList == (⟨⟨[]⟩⟩ : ByteArray).toList)
    (ob (sidx x (0 : Int)) fun b =>
      br ((↑b.toNat : Int) == (45 : Int))
        (br (decide ((0 : Int) ≤ (1 : Int) ∧ (1 : Int) ≤ (↑x.size : Int) ∧ (↑x.size : Int) ≤ (↑x.size : Int)))
          (numTail x (x.extract (Int.toNat (1 : Int)) (↑x.size : Int).toNat)) none)
        (numTail x x)) (numTail x x) := rfl
theorem beq_list {a b : BA} : (ByteArray.toList a == ByteArray.toList b) = true ↔ a = b := by
  rw [beq_iff_eq]
  exact ⟨toList_inj, fun h => by rw [h]⟩
theorem numTail_eq {s t : BA} (ht : t.data.toList = tailL s.data.toList) (hn : (t.size < s.size) ↔ negL s.data.toList = true) : numTail s t = some (numF s) := by
  unfold numTail numF
  have hsz := ba_size t
  rw [← ht]
  by_cases h1 : t.size < 1
  · rw [br_t (by simp; omega), if_neg (by intro h; omega)]
  · rw [br_f (by simp; omega)]
    by_cases h2 : 18 < t.size
    · rw [br_t (by simp; omega), if_neg (by intro h; omega)]
    · rw [br_f (by simp; omega)]
      have hlen : t.data.toList.length ≤ 18 := by omega
      obtain ⟨k1, k2⟩ := number_run (s0 := s) (t := t) (r0 := 0) (b0 := false) hlen t.data.toList 0 (t.size - Int.toNat 0 + 1) 0 0 rfl (by simp; try omega) (by decide) (by omega)
      cases hd : t.data.toList.all isD with
      | false =>
        obtain ⟨n, i', e⟩ := k2 hd
        have e : numberSL (s, (0 : Int), false, t, (0 : Int), (0 : Int)) = some (false, s, 0, false, t, n, i') := e
        rw [ob_some' e, br_f rfl, if_neg (by intro h; exact absurd h.2.1 (by simp))]
      | true =>
        obtain ⟨i', e⟩ := k1 hd
        have e : numberSL (s, (0 : Int), false, t, (0 : Int), (0 : Int)) = some (true, s, 0, false, t, (dval 0 t.data.toList : Int), i') := e
        have h18 := dval_18 hlen hd
        have hlen2 : 1 ≤ t.data.toList.length ∧ t.data.toList.length ≤ 18 := by omega
        rw [ob_some' e, br_t (c := true) rfl]
        dsimp only
        by_cases hneg : negL s.data.toList = true
        · have hv : numV s.data.toList = -(dval 0 t.data.toList : Int) := by unfold numV; rw [if_pos hneg, ← ht]
          rw [br_t (by have := hn.2 hneg; simp; omega), w64 (x := 0 - (dval 0 t.data.toList : Int)) (by omega) (by omega), show 0 - (dval 0 t.data.toList : Int) = -(dval 0 t.data.toList : Int) by omega, ← hv, ob_some' (decT_eq ⟨by omega, by omega⟩)]
          by_cases he : decB (numV s.data.toList) = s
          · rw [br_f (by rw [beq_list.2 he]; rfl), if_pos ⟨hlen2, rfl, he⟩]
          · rw [br_t (by rw [Bool.eq_false_iff.2 (fun h => he (beq_list.1 h))]; rfl), if_neg (fun h => he h.2.2)]
        · have hv : numV s.data.toList = (dval 0 t.data.toList : Int) := by unfold numV; rw [if_neg hneg, ← ht]
          rw [br_f (by have : ¬ t.size < s.size := fun h => hneg (hn.1 h); simp; omega), ← hv, ob_some' (decT_eq ⟨by omega, by omega⟩)]
          by_cases he : decB (numV s.data.toList) = s
          · rw [br_f (by rw [beq_list.2 he]; rfl), if_pos ⟨hlen2, rfl, he⟩]
          · rw [br_t (by rw [Bool.eq_false_iff.2 (fun h => he (beq_list.1 h))]; rfl), if_neg (fun h => he h.2.2)]
theorem ext_list (s : BA) (a b : Nat) : (s.extract a b).data.toList = (s.data.toList.drop a).take (b - a) := by
  rw [← ByteArray.toList_eq, Lib.extract_toList]
theorem numberS_eq (s : BA) : numberS s = some (numF s) := by
  rw [numberS_def]
  cases hl : s.data.toList with
  | nil =>
    have hs : s = ⟨⟨[]⟩⟩ := ba_ext hl
    rw [br_f (by rw [beq_list.2 hs]; rfl)]
    exact numTail_eq (by rw [hl]; rfl) (by rw [hl]; simp [negL])
  | cons c r =>
    have hne : ¬ s = ⟨⟨[]⟩⟩ := fun e => by rw [e] at hl; cases hl
    have hsz : s.size = r.length + 1 := by rw [ba_size, hl]; rfl
    rw [br_t (by rw [Bool.eq_false_iff.2 (fun h => hne (beq_list.1 h))]; rfl), ob_some' (show sidx s 0 = some c from sidx_get (i := 0) (b := c) (by rw [hl]; rfl))]
    by_cases hc : c = 45
    · subst hc
      have hx : (s.extract (Int.toNat 1) ((s.size : Int)).toNat).data.toList = r := by
        rw [ext_list, hl]
        have e1 : Int.toNat 1 = 1 := rfl
        have e2 : ((s.size : Int)).toNat = s.size := by omega
        rw [e1, e2, hsz]
        simp
      rw [br_t (by rfl), br_t (by simp; omega)]
      refine numTail_eq (by rw [hx, hl]; rfl) ?_
      rw [hl, ba_size, hx, hsz]
      exact ⟨fun _ => rfl, fun _ => by omega⟩
    · have hn : negL (c :: r) = false := by simp [negL, hc]
      have hc' : ¬ c.toNat = 45 := fun e => hc (UInt8.toNat_inj.1 e)
      rw [br_f (by rw [beq_eq_false_iff_ne]; omega)]
      refine numTail_eq (by rw [hl]; unfold tailL; rw [hn]; rfl) ?_
      rw [hl, hn]
      simp
end Rx
end Go.Proofs.YtfapjkcmoefilaaDoor
