/- Texts cut at a byte, and texts of planetary gears read: both programs alike. No program in sight. No conditions. -/
import Derived.Test.YtfapjkcmoefilaaDoorRxNumLaw
namespace Go.Proofs.YtfapjkcmoefilaaDoor
namespace Rx
open Go

/-! ### Texts cut at a byte -/
def cutL (c : UInt8) : List UInt8 → List (List UInt8)
  | [] => [[]]
  | b :: l => if b = c then [] :: cutL c l else (b :: (cutL c l).headD []) :: (cutL c l).tail
theorem cutL_no {c : UInt8} : ∀ {l : List UInt8}, c ∉ l → cutL c l = [l]
  | [], _ => rfl
  | b :: l, h => by
    have hb : ¬ b = c := fun e => h (by rw [e]; simp)
    have hl : c ∉ l := fun e => h (by simp [e])
    rw [cutL, if_neg hb, cutL_no hl]; rfl
theorem cutL_hit {c : UInt8} : ∀ {a : List UInt8} (b : List UInt8), c ∉ a → cutL c (a ++ c :: b) = a :: cutL c b
  | [], b, _ => by
    rw [List.nil_append, cutL, if_pos rfl]
  | x :: a, b, h => by
    have hb : ¬ x = c := fun e => h (by rw [e]; simp)
    have hl : c ∉ a := fun e => h (by simp [e])
    rw [List.cons_append, cutL, if_neg hb, cutL_hit b hl]; rfl
def glueL (c : UInt8) : List (List UInt8) → List UInt8
  | [] => []
  | [x] => x
  | x :: y :: r => x ++ c :: glueL c (y :: r)
theorem cutL_ne (c : UInt8) : ∀ (l : List UInt8), cutL c l ≠ []
  | [] => by simp [cutL]
  | b :: l => by
    unfold cutL
    split <;> simp
theorem glue_cut (c : UInt8) : ∀ (l : List UInt8), glueL c (cutL c l) = l
  | [] => rfl
  | b :: l => by
    have ih := glue_cut c l
    rw [cutL]
    obtain ⟨x, r, e⟩ := List.exists_cons_of_ne_nil (cutL_ne c l)
    rw [e] at ih ⊢
    by_cases h : b = c
    · rw [if_pos h, h]
      show [] ++ c :: glueL c (x :: r) = _
      rw [ih]; rfl
    · rw [if_neg h]
      cases r with
      | nil =>
        have ih : x = l := ih
        show b :: x = _
        rw [ih]
      | cons y r =>
        show (b :: x) ++ c :: glueL c (y :: r) = _
        rw [List.cons_append]
        exact congrArg (List.cons b) ih
theorem split_at {c : UInt8} {l : List UInt8} {i : Nat} (h : l[i]? = some c) : l = l.take i ++ c :: l.drop (i + 1) := by
  have hi : i < l.length := by
    rcases Nat.lt_or_ge i l.length with h' | h'
    · exact h'
    · rw [List.getElem?_eq_none h'] at h; cases h
  rw [List.getElem?_eq_getElem hi] at h
  have h := Option.some.inj h
  conv => lhs; rw [← List.take_append_drop i l, List.drop_eq_getElem_cons hi, h]
theorem splitB_cut (c : UInt8) : ∀ (k : Nat) (s : BA), s.size ≤ k → Lib.splitB ⟨#[c]⟩ 0 (Lib.countB s ⟨#[c]⟩) s = (cutL c s.data.toList).map ba := by
  intro k
  induction k with
  | zero =>
    intro s hs
    have hl : s.data.toList = [] := List.length_eq_zero_iff.1 (by rw [← ba_size]; omega)
    have hm : Lib.indexB s ⟨#[c]⟩ = -1 := by
      show Lib.index s.data.toList [c] = -1
      rw [Lib.index_one, hl]; rfl
    rw [Lib.splitB_miss _ _ _ _ hm, hl]
    show [s] = [ba []]
    rw [← hl, ba_of]
  | succ k ih =>
    intro s hs
    have hidx : Lib.indexB s ⟨#[c]⟩ = Lib.indexByte s.data.toList c := Lib.index_one _ _
    rcases Lib.indexB_cases s ⟨#[c]⟩ with hm | ⟨i, hi, hle⟩
    · have hno : c ∉ s.data.toList := by
        intro hc
        obtain ⟨j, hj⟩ := List.mem_iff_getElem?.1 hc
        exact Lib.indexByte_none (hidx.symm.trans hm) j hj
      rw [Lib.splitB_miss _ _ _ _ hm, cutL_no hno]
      show [s] = [ba s.data.toList]
      rw [ba_of]
    · have h1 : (⟨#[c]⟩ : ByteArray).size = 1 := rfl
      rw [h1] at hle
      obtain ⟨g1, g2⟩ := Lib.indexByte_some (hidx.symm.trans hi)
      have hno : c ∉ s.data.toList.take i := by
        intro hc
        obtain ⟨j, hj⟩ := List.mem_iff_getElem?.1 hc
        have hji : j < i := by
          rcases Nat.lt_or_ge j i with h' | h'
          · exact h'
          · rw [List.getElem?_eq_none (by simp; omega)] at hj; cases hj
        rw [List.getElem?_take_of_lt hji] at hj
        exact g2 j hji hj
      rw [Lib.countB_hit s _ i (by rw [h1]; omega) hi, Nat.add_comm 1, Lib.splitB_hit _ _ _ _ i hi, h1]
      have e := split_at g1
      have hd : (s.extract (i + 1) s.size).data.toList = s.data.toList.drop (i + 1) := by
        rw [ext_list]
        exact List.take_of_length_le (by rw [List.length_drop, ← ba_size]; omega)
      have ht : (s.extract 0 (i + 0)).data.toList = s.data.toList.take i := by
        rw [ext_list]; rfl
      rw [ih _ (by rw [ba_size, hd, List.length_drop, ← ba_size]; omega), hd]
      conv => rhs; rw [e, cutL_hit _ hno]
      rw [List.map_cons, ← ht, ba_of]
theorem splitX_eq (c : UInt8) {s : BA} (h : s.size < 4294967281) : splitX (s, ⟨#[c]⟩) = some ((cutL c s.data.toList).map ba) := by
  unfold splitX
  rw [if_pos ⟨h, Nat.le_refl 1⟩, splitB_cut c s.size s (Nat.le_refl _)]

theorem extract_ba (s : BA) (a b : Nat) : s.extract a b = ba ((s.data.toList.drop a).take (b - a)) := by
  rw [← ext_list, ba_of]
theorem split_run {s : BA} {c : UInt8} (hs : s.size ≤ 1048576) : ∀ (m from_ i fuel : Nat) (out : List BA), i + m = s.size → m < fuel → from_ ≤ i → out.length ≤ from_ → c ∉ (s.data.toList.drop from_).take (i - from_) →
    ∃ (out' : List BA) (from' : Nat), iterP splitSL_step fuel (s, (c.toNat : Int), out, (from_ : Int), (i : Int)) = some (s, (c.toNat : Int), out', (from' : Int), (s.size : Int)) ∧ from' ≤ s.size ∧ out'.length ≤ s.size ∧ out' ++ [ba (s.data.toList.drop from')] = out ++ (cutL c (s.data.toList.drop from_)).map ba
  | _, _, _, 0, _, _, h, _, _, _ => by omega
  | 0, from_, i, fuel + 1, out, hi, _, hf, ho, hc => by
    have hi : i = s.size := by omega
    subst hi
    have hstep : splitSL_step (s, (c.toNat : Int), out, (from_ : Int), (s.size : Int)) = some (.out, s, (c.toNat : Int), out, (from_ : Int), (s.size : Int)) := by
      unfold splitSL_step
      dsimp only
      rw [br_f (by simp)]
    refine ⟨out, from_, by simp only [iterP, hstep]; rfl, hf, by omega, ?_⟩
    rw [List.take_of_length_le (by rw [List.length_drop, ← ba_size]; omega)] at hc
    rw [cutL_no hc]; rfl
  | m + 1, from_, i, fuel + 1, out, hi, hfu, hf, ho, hc => by
    have hlt : i < s.data.toList.length := by rw [← ba_size]; omega
    have hget := List.getElem?_eq_getElem hlt
    generalize s.data.toList[i] = b at hget
    by_cases hb : b = c
    · subst hb
      have hstep : splitSL_step (s, (b.toNat : Int), out, (from_ : Int), (i : Int)) = some (.next, s, (b.toNat : Int), out ++ [s.extract from_ i], ((i + 1 : Nat) : Int), ((i + 1 : Nat) : Int)) := by
        unfold splitSL_step
        dsimp only
        rw [br_t (by simp; omega), ob_some' (sidx_get hget), br_t (by simp), br_t (by simp; omega), br_t (by simp; omega), w64 (by omega) (by omega)]
        rfl
      have hsp : s.data.toList.drop from_ = (s.data.toList.drop from_).take (i - from_) ++ b :: s.data.toList.drop (i + 1) := by
        have := split_at (l := s.data.toList.drop from_) (i := i - from_) (c := b) (by rw [List.getElem?_drop, show from_ + (i - from_) = i by omega]; exact hget)
        rw [List.drop_drop, show from_ + (i - from_ + 1) = i + 1 by omega] at this
        exact this
      obtain ⟨out', from', e1, e2, e3, e4⟩ := split_run hs m (i + 1) (i + 1) fuel (out ++ [s.extract from_ i]) (by omega) (by omega) (by omega) (by simp; omega) (by simp)
      refine ⟨out', from', by simp only [iterP, hstep, ob]; exact e1, e2, e3, ?_⟩
      rw [e4, extract_ba]
      conv => rhs; rw [hsp, cutL_hit _ hc]
      simp
    · have hstep : splitSL_step (s, (c.toNat : Int), out, (from_ : Int), (i : Int)) = some (.next, s, (c.toNat : Int), out, (from_ : Int), ((i + 1 : Nat) : Int)) := by
        have hne : ¬ b.toNat = c.toNat := fun e => hb (UInt8.toNat_inj.1 e)
        unfold splitSL_step
        dsimp only
        rw [br_t (by simp; omega), ob_some' (sidx_get hget), br_f (by rw [beq_eq_false_iff_ne]; omega), w64 (by omega) (by omega)]
        rfl
      obtain ⟨out', from', e1, e2, e3, e4⟩ := split_run (c := c) hs m from_ (i + 1) fuel out (by omega) (by omega) (by omega) ho (by
        rw [show i + 1 - from_ = i - from_ + 1 by omega, List.take_add_one, List.mem_append]
        rintro (h | h)
        · exact hc h
        · rw [List.getElem?_drop, show from_ + (i - from_) = i by omega, hget] at h
          simp at h
          exact hb h.symm)
      exact ⟨out', from', by simp only [iterP, hstep, ob]; exact e1, e2, e3, e4⟩
theorem splitS_eq (c : UInt8) {s : BA} (hs : s.size ≤ 1048576) : splitS (s, (c.toNat : Int)) = some ((cutL c s.data.toList).map ba) := by
  obtain ⟨out', from', e1, e2, e3, e4⟩ := split_run (c := c) hs s.size 0 0 (s.size - Int.toNat 0 + 1) [] (by omega) (by simp) (by omega) (by simp) (by simp)
  have e1 : splitSL (s, (c.toNat : Int), [], (0 : Int), (0 : Int)) = some (s, (c.toNat : Int), out', (from' : Int), (s.size : Int)) := e1
  unfold splitS
  rw [ob_some' e1]
  dsimp only
  rw [br_t (by simp; omega), br_t (by simp; omega)]
  have e5 : ByteArray.extract s (Int.toNat (from' : Int)) ((s.size : Int)).toNat = ba (s.data.toList.drop from') := by
    rw [extract_ba]
    congr 1
    have e6 : Int.toNat (from' : Int) = from' := by omega
    have e7 : ((s.size : Int)).toNat = s.size := by omega
    rw [e6, e7]
    exact List.take_of_length_le (by rw [List.length_drop, ← ba_size]; omega)
  rw [e5, e4]
  rfl

/-! ### Planetary gears -/
theorem numF_bd (s : BA) : -1000000000000000000 < (numF s).1 ∧ (numF s).1 < 1000000000000000000 := by
  unfold numF
  split
  · rename_i h
    obtain ⟨h1, h2, _⟩ := h
    have := dval_18 h1.2 h2
    show -1000000000000000000 < numV s.data.toList ∧ numV s.data.toList < 1000000000000000000
    unfold numV
    split <;> omega
  · simp
theorem numF_canon {s : BA} (h : (numF s).2 = true) : decB (numF s).1 = s := by
  unfold numF at h ⊢
  split at h
  · rename_i h1
    rw [if_pos h1]
    exact h1.2.2
  · cases h
theorem readX_eq {s : BA} (h : s.size ≤ 281474976710656) : readX s = some (numF s) := by
  unfold readX
  rw [if_pos h, readD_eq]
theorem rd_step {s : BA} {e : Int × Int × Int × Int} {o : Bool} {nums : List Int} {ws : List BA} {w : BA} {k : Nat} (hw : ws[k]? = some w) (hk : k < 3) (hn : nums.length = 3) (hs : w.size ≤ 281474976710656) :
    readEpiIL_step (s, e, o, nums, ws, 3, (k : Int)) = if (numF w).2 = true then some (.next, s, e, o, nums.set k (numF w).1, ws, 3, ((k + 1 : Nat) : Int)) else some (.ret, s, (0, 0, 0, 0), false, nums, ws, 3, (k : Int)) := by
  have e0 : ((k : Int)).toNat = k := by omega
  have e1 : idx ws (k : Int) = some w := by unfold idx; rw [if_pos (by omega), e0]; exact hw
  have e2 : List.get?Internal ws ((k : Int)).toNat = some w := by rw [e0]; exact (List.get?Internal_eq_getElem? ..).trans hw
  obtain ⟨y, hy⟩ : ∃ y, nums[k]? = some y := ⟨nums[k]'(by omega), List.getElem?_eq_getElem (by omega)⟩
  have e3 : idx nums (k : Int) = some y := by unfold idx; rw [if_pos (by omega), e0]; exact hy
  have e4 : List.get?Internal nums ((k : Int)).toNat = some y := by rw [e0]; exact (List.get?Internal_eq_getElem? ..).trans hy
  unfold readEpiIL_step
  dsimp only
  rw [br_t (by simp; omega), ob_some' e1, ob_some' e2, ob_some' (readX_eq hs)]
  by_cases h : (numF w).2 = true
  · rw [if_pos h, br_f (by rw [h]; rfl), ob_some' e3, ob_some' e4, w64 (by omega) (by omega), e0]
    rfl
  · rw [if_neg h, br_t (by simp [h])]
theorem rd_stop {s : BA} {e : Int × Int × Int × Int} {o : Bool} {nums : List Int} {ws : List BA} : readEpiIL_step (s, e, o, nums, ws, 3, 3) = some (.out, s, e, o, nums, ws, 3, 3) := rfl
theorem rd_run {s a b c : BA} (ha : a.size ≤ 281474976710656) (hb : b.size ≤ 281474976710656) (hc : c.size ≤ 281474976710656) :
    ((numF a).2 = true ∧ (numF b).2 = true ∧ (numF c).2 = true → readEpiIL (s, (0, 0, 0, 0), false, [0, 0, 0], [a, b, c], 3, 0) = some (true, s, (0, 0, 0, 0), false, [(numF a).1, (numF b).1, (numF c).1], [a, b, c], 3, 3)) ∧
    (¬ ((numF a).2 = true ∧ (numF b).2 = true ∧ (numF c).2 = true) → ∃ nums i, readEpiIL (s, (0, 0, 0, 0), false, [0, 0, 0], [a, b, c], 3, 0) = some (false, s, (0, 0, 0, 0), false, nums, [a, b, c], 3, i)) := by
  have hdef : readEpiIL (s, (0, 0, 0, 0), false, [0, 0, 0], [a, b, c], 3, 0) = iter readEpiIL_step 4 (s, (0, 0, 0, 0), false, [0, 0, 0], [a, b, c], 3, 0) := rfl
  have s0 := rd_step (s := s) (e := (0, 0, 0, 0)) (o := false) (nums := [0, 0, 0]) (ws := [a, b, c]) (w := a) (k := 0) rfl (by decide) rfl ha
  have s1 := rd_step (s := s) (e := (0, 0, 0, 0)) (o := false) (nums := [(numF a).1, 0, 0]) (ws := [a, b, c]) (w := b) (k := 1) rfl (by decide) rfl hb
  have s2 := rd_step (s := s) (e := (0, 0, 0, 0)) (o := false) (nums := [(numF a).1, (numF b).1, 0]) (ws := [a, b, c]) (w := c) (k := 2) rfl (by decide) rfl hc
  have s3 := rd_stop (s := s) (e := (0, 0, 0, 0)) (o := false) (nums := [(numF a).1, (numF b).1, (numF c).1]) (ws := [a, b, c])
  have s0 : readEpiIL_step (s, (0, 0, 0, 0), false, [0, 0, 0], [a, b, c], 3, 0) = if (numF a).2 = true then some (.next, s, (0, 0, 0, 0), false, [(numF a).1, 0, 0], [a, b, c], 3, 1) else some (.ret, s, (0, 0, 0, 0), false, [0, 0, 0], [a, b, c], 3, 0) := s0
  have s1 : readEpiIL_step (s, (0, 0, 0, 0), false, [(numF a).1, 0, 0], [a, b, c], 3, 1) = if (numF b).2 = true then some (.next, s, (0, 0, 0, 0), false, [(numF a).1, (numF b).1, 0], [a, b, c], 3, 2) else some (.ret, s, (0, 0, 0, 0), false, [(numF a).1, 0, 0], [a, b, c], 3, 1) := s1
  have s2 : readEpiIL_step (s, (0, 0, 0, 0), false, [(numF a).1, (numF b).1, 0], [a, b, c], 3, 2) = if (numF c).2 = true then some (.next, s, (0, 0, 0, 0), false, [(numF a).1, (numF b).1, (numF c).1], [a, b, c], 3, 3) else some (.ret, s, (0, 0, 0, 0), false, [(numF a).1, (numF b).1, 0], [a, b, c], 3, 2) := s2
  rw [hdef]
  refine ⟨fun ⟨h1, h2, h3⟩ => ?_, fun h => ?_⟩
  · rw [if_pos h1] at s0
    rw [if_pos h2] at s1
    rw [if_pos h3] at s2
    simp only [iter, s0, s1, s2, s3, ob]
  · by_cases h1 : (numF a).2 = true
    · rw [if_pos h1] at s0
      by_cases h2 : (numF b).2 = true
      · rw [if_pos h2] at s1
        have h3 : ¬ (numF c).2 = true := fun h3 => h ⟨h1, h2, h3⟩
        rw [if_neg h3] at s2
        exact ⟨_, _, by simp only [iter, s0, s1, s2, ob]; rfl⟩
      · rw [if_neg h2] at s1
        exact ⟨_, _, by simp only [iter, s0, s1, ob]; rfl⟩
    · rw [if_neg h1] at s0
      exact ⟨_, _, by simp only [iter, s0, ob]; rfl⟩

def zeroE : (Int × Int × Int × Int) × Bool := ((0, 0, 0, 0), false)
/-- Behind three numbers. -/
theorem wordsI_eq {s : BA} (h : s.size ≤ 1048576) : wordsI s = some ((cutL 32 s.data.toList).map ba) := by
  unfold wordsI
  rw [ob_some' (splitX_eq 32 (s := s) (by omega))]
def tooth (v : Int) : Bool := decide (6 ≤ v) && decide (v ≤ 240)
def mkE (x y z : Int) : Int × Int × Int × Int := (x, x + 2 * y, y, z)
theorem wrapE {x y : Int} (hx : tooth x = true) (hy : tooth y = true) : IntKind.i64.wrap (x + IntKind.i64.wrap (2 * y)) = x + 2 * y := by
  simp [tooth] at hx hy
  rw [w64 (x := 2 * y) (by omega) (by omega), w64 (by omega) (by omega)]
theorem readEpiS_eq {s a b c : BA} (h : s.size ≤ 1048576) (hw : (cutL 32 s.data.toList).map ba = [a, b, c]) {v : Bool} (hv : validEpiI (mkE (numF a).1 (numF b).1 (numF c).1) = some v) :
    readEpiS s = some (if ((numF a).2 = true ∧ (numF b).2 = true ∧ (numF c).2 = true) ∧ tooth (numF a).1 = true ∧ tooth (numF b).1 = true ∧ v = true then (mkE (numF a).1 (numF b).1 (numF c).1, true) else zeroE) := by
  have h0 : splitS (s, (32 : Int)) = some [a, b, c] := (splitS_eq 32 h).trans (congrArg some hw)
  unfold readEpiS
  rw [ob_some' h0, br_f (by rfl)]
  have i0 : idx [a, b, c] 0 = some a := rfl
  have i1 : idx [a, b, c] 1 = some b := rfl
  have i2 : idx [a, b, c] 2 = some c := rfl
  have j0 : List.get?Internal [a, b, c] (Int.toNat 0) = some a := rfl
  have j1 : List.get?Internal [a, b, c] (Int.toNat 1) = some b := rfl
  have j2 : List.get?Internal [a, b, c] (Int.toNat 2) = some c := rfl
  rw [ob_some' i0, ob_some' j0, ob_some' (numberS_eq a), ob_some' i1, ob_some' j1, ob_some' (numberS_eq b), ob_some' i2, ob_some' j2, ob_some' (numberS_eq c)]
  by_cases h1 : (numF a).2 = true
  · rw [br_f (by rw [h1]; rfl)]
    by_cases h2 : (numF b).2 = true
    · rw [br_f (by rw [h2]; rfl)]
      by_cases h3 : (numF c).2 = true
      · rw [br_f (by rw [h3]; rfl), teeth_eq, ob_some' (toothed_eq _)]
        by_cases t1 : tooth (numF a).1 = true
        · rw [br_f (by show (!tooth (numF a).1) = false; rw [t1]; rfl), ob_some' (toothed_eq _)]
          by_cases t2 : tooth (numF b).1 = true
          · rw [br_f (by show (!tooth (numF b).1) = false; rw [t2]; rfl), wrapE t1 t2, okEpiS_same]
            rw [ob_some' (show validEpiI ((numF a).1, (numF a).1 + 2 * (numF b).1, (numF b).1, (numF c).1) = some v from hv)]
            cases v with
            | true => rw [br_f (c := !true) rfl, if_pos ⟨⟨h1, h2, h3⟩, t1, t2, rfl⟩]; rfl
            | false => rw [br_t (c := !false) rfl, if_neg (fun h => by cases h.2.2.2)]; rfl
          · rw [br_t (by show (!tooth (numF b).1) = true; simp [t2]), if_neg (fun h => t2 h.2.2.1)]; rfl
        · rw [br_t (by show (!tooth (numF a).1) = true; simp [t1]), if_neg (fun h => t1 h.2.1)]; rfl
      · rw [br_t (by simp [h3]), if_neg (fun h => h3 h.1.2.2)]; rfl
    · rw [br_t (by simp [h2]), if_neg (fun h => h2 h.1.2.1)]; rfl
  · rw [br_t (by simp [h1]), if_neg (fun h => h1 h.1.1)]; rfl
theorem glue3 {s a b c : BA} (hw : (cutL 32 s.data.toList).map ba = [a, b, c]) : s.data.toList = a.data.toList ++ 32 :: (b.data.toList ++ 32 :: c.data.toList) := by
  have hg := glue_cut 32 s.data.toList
  generalize cutL 32 s.data.toList = W at hw hg
  match W, hw with
  | [x, y, z], hw =>
    simp only [List.map_cons, List.map_nil, List.cons.injEq, and_true] at hw
    obtain ⟨rfl, rfl, rfl⟩ := hw
    exact hg.symm
theorem max3 (x y z : Int) : maxX [x, y, z] = some (max (max x y) z) := by
  unfold maxX
  rw [if_pos ⟨by simp, by simp⟩]
  show some (max (max (max x x) y) z) = _
  rw [show max x x = x by omega]
theorem readEpiI_eq {s a b c : BA} (h : s.size ≤ 1048576) (hw : (cutL 32 s.data.toList).map ba = [a, b, c]) {v : Bool} (hv : validEpiI (mkE (numF a).1 (numF b).1 (numF c).1) = some v) (hbd : v = true → epiBd (mkE (numF a).1 (numF b).1 (numF c).1)) :
    readEpiI s = some (if ((numF a).2 = true ∧ (numF b).2 = true ∧ (numF c).2 = true) ∧ tooth (numF a).1 = true ∧ tooth (numF b).1 = true ∧ v = true then (mkE (numF a).1 (numF b).1 (numF c).1, true) else zeroE) := by
  have hg := glue3 hw
  have hlen := congrArg List.length hg
  simp only [List.length_append, List.length_cons, ← ba_size] at hlen
  unfold readEpiI
  rw [ob_some' ((wordsI_eq h).trans (congrArg some hw)), br_f (by rfl)]
  obtain ⟨k1, k2⟩ := rd_run (s := s) (a := a) (b := b) (c := c) (by omega) (by omega) (by omega)
  by_cases hall : (numF a).2 = true ∧ (numF b).2 = true ∧ (numF c).2 = true
  · have e := k1 hall
    rw [ob_some' (show readEpiIL (s, ((0 : Int), (0 : Int), (0 : Int), (0 : Int)), false, List.replicate (Int.toNat (3 : Int)) (0 : Int), [a, b, c], ((List.length [a, b, c] : Nat) : Int), (0 : Int)) = _ from e), br_t rfl]
    dsimp only
    have i0 : idx [(numF a).1, (numF b).1, (numF c).1] 0 = some (numF a).1 := rfl
    have i1 : idx [(numF a).1, (numF b).1, (numF c).1] 1 = some (numF b).1 := rfl
    have i2 : idx [(numF a).1, (numF b).1, (numF c).1] 2 = some (numF c).1 := rfl
    have j0 : List.get?Internal [(numF a).1, (numF b).1, (numF c).1] (Int.toNat 0) = some (numF a).1 := rfl
    have j1 : List.get?Internal [(numF a).1, (numF b).1, (numF c).1] (Int.toNat 1) = some (numF b).1 := rfl
    have j2 : List.get?Internal [(numF a).1, (numF b).1, (numF c).1] (Int.toNat 2) = some (numF c).1 := rfl
    rw [ob_some' i0, ob_some' j0, ob_some' (toothed_eq _)]
    by_cases t1 : tooth (numF a).1 = true
    · rw [br_f (by show (!tooth (numF a).1) = false; rw [t1]; rfl), ob_some' i1, ob_some' j1, ob_some' (toothed_eq _)]
      by_cases t2 : tooth (numF b).1 = true
      · rw [br_f (by show (!tooth (numF b).1) = false; rw [t2]; rfl), ob_some' (max3 _ _ _)]
        have t1' : 6 ≤ (numF a).1 ∧ (numF a).1 ≤ 240 := by simpa [tooth] using t1
        have t2' : 6 ≤ (numF b).1 ∧ (numF b).1 ≤ 240 := by simpa [tooth] using t2
        by_cases hm : 240 < max (max (numF a).1 (numF b).1) (numF c).1
        · rw [br_t (by simpa using hm)]
          have : ¬ v = true := by
            intro hv'
            have := (hbd hv').2.2.2.2
            have : (numF c).1 ≤ 8 := this
            omega
          rw [if_neg (fun h => this h.2.2.2)]; rfl
        · rw [br_f (by simpa using hm), ob_some' i0, ob_some' j0, ob_some' i0, ob_some' j0, ob_some' i1, ob_some' j1, ob_some' i1, ob_some' j1, ob_some' i2, ob_some' j2, wrapE t1 t2]
          have b3 := numF_bd c
          obtain ⟨_, q⟩ := textEpi_both (e := mkE (numF a).1 (numF b).1 (numF c).1) ⟨by show _ ≤ (numF a).1; omega, by show (numF a).1 ≤ _; omega⟩ ⟨by show _ ≤ (numF b).1; omega, by show (numF b).1 ≤ _; omega⟩ ⟨by show _ ≤ (numF c).1; omega, by show (numF c).1 ≤ _; omega⟩
          rw [ob_some' (show epiTextI ((numF a).1, (numF a).1 + 2 * (numF b).1, (numF b).1, (numF c).1) = _ from q v hv)]
          have hs : epiB (mkE (numF a).1 (numF b).1 (numF c).1) = s := by
            apply ba_ext
            rw [hg]
            show (decB (numF a).1 ++ ba [32] ++ decB (numF b).1 ++ ba [32] ++ decB (numF c).1).data.toList = _
            rw [numF_canon hall.1, numF_canon hall.2.1, numF_canon hall.2.2, ba_app, ba_app, ba_app, ba_app]
            simp [ba_list]
          cases v with
          | true =>
            rw [if_pos rfl, hs, br_f (by rw [beq_list.2 rfl]; rfl), if_pos ⟨hall, t1, t2, rfl⟩]; rfl
          | false =>
            have hne : (ByteArray.toList (⟨⟨[]⟩⟩ : ByteArray) == ByteArray.toList s) = false := Bool.eq_false_iff.2 (fun h => by
              have := beq_list.1 h
              rw [← this] at hlen
              have e0 : (⟨⟨[]⟩⟩ : ByteArray).size = 0 := rfl
              rw [e0] at hlen; omega)
            rw [if_neg (by simp), br_t (by rw [hne]; rfl), if_neg (fun h => by cases h.2.2.2)]; rfl
      · rw [br_t (by show (!tooth (numF b).1) = true; simp [t2]), if_neg (fun h => t2 h.2.2.1)]; rfl
    · rw [br_t (by show (!tooth (numF a).1) = true; simp [t1]), if_neg (fun h => t1 h.2.1)]; rfl
  · obtain ⟨nums, i, e⟩ := k2 hall
    rw [ob_some' (show readEpiIL (s, ((0 : Int), (0 : Int), (0 : Int), (0 : Int)), false, List.replicate (Int.toNat (3 : Int)) (0 : Int), [a, b, c], ((List.length [a, b, c] : Nat) : Int), (0 : Int)) = _ from e), br_f rfl, if_neg (fun h => hall h.1)]
    rfl
theorem readEpi_both {s : BA} (h : s.size ≤ 1048576) : ∃ r, readEpiI s = some r ∧ readEpiS s = some r := by
  by_cases h3 : ((cutL 32 s.data.toList).map ba).length = 3
  · match hW : (cutL 32 s.data.toList).map ba, h3 with
    | [a, b, c], _ =>
      obtain ⟨v, hv, hbd⟩ := validEpiI_out (mkE (numF a).1 (numF b).1 (numF c).1)
      exact ⟨_, readEpiI_eq h hW hv hbd, readEpiS_eq h hW hv⟩
  · refine ⟨zeroE, ?_, ?_⟩
    · unfold readEpiI
      rw [ob_some' (wordsI_eq h), br_t (by rw [bne_iff_ne]; omega)]; rfl
    · unfold readEpiS
      rw [ob_some' (show splitS (s, (32 : Int)) = some ((cutL 32 s.data.toList).map ba) from splitS_eq 32 h), br_t (by rw [bne_iff_ne]; omega)]; rfl
theorem eqEpi_self' (e : Int × Int × Int × Int) : eqEpiL (e, e) = some true := by
  unfold eqEpiL
  simp [br_if]
theorem lawReadEpi_holds (s : BA) : lawReadEpi s = some true := by
  unfold lawReadEpi
  by_cases h : 1048576 < s.size
  · rw [br_t (by simp; omega)]
  · obtain ⟨r, e1, e2⟩ := readEpi_both (s := s) (by omega)
    rw [br_f (by simp; omega), ob_some' e2, ob_some' e1, ob_some' (eqEpi_self' _), br_f (c := !true) rfl, br_f (by simp)]
end Rx
end Go.Proofs.YtfapjkcmoefilaaDoor
