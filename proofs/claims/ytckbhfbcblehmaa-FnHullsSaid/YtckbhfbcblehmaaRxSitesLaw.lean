/- Plates and their sites: what the laws make of them, when two are the same, when one is valid. No program in sight. -/
import Derived.Test.YtckbhfbcblehmaaRxPlain
import Derived.Test.YtckbhfbcblehmaaRxSites
import Derived.Laws.Strings
namespace Go.Proofs.Ytckbhfbcblehmaa
namespace Rx
open Go

abbrev SiteT : Ty := .pair .str (.pair (.pair (i64) (i64)) (.pair (i64) (i64)))
abbrev PlateT : Ty := .pair (i64) (.pair (i64) (.pair (i64) (.pair (i64) (.slice SiteT))))
abbrev SiteD := ByteArray × (Int × Int) × Int × Int
abbrev PlateD := Int × Int × Int × Int × List SiteD

theorem maxLen_le {n : Nat} (h : n ≤ maxLen) : n ≤ 9223372036854775807 := by simp only [maxLen] at h; omega

/-! ### Copies -/
theorem toSiteL_eq (y : SiteD) : toSiteL y = some y := rfl
theorem toSiteS_eq {l : List SiteD} (h : l.length ≤ 1048576) : toSiteS l = some l := by
  have hc := copy_loop (step := toSiteSL_step) (f := fun y => y) (l := l) (by omega) (fun o i y z hol h0 h1 hy hz hz2 => by
    show br (decide (i < (l.length : Int))) (ob (idx l i) fun y => ob (idx o i) fun x_1 => ob (o[i.toNat]?) fun x_2 => some (LRes.next, l, o.set i.toNat y, IntKind.i64.wrap (i + 1))) _ = _
    rw [br_t (by simpa using h1), hy, hz, hz2]
    show some (LRes.next, l, o.set i.toNat y, IntKind.i64.wrap (i + 1)) = _
    rw [w64 (by omega) (by omega)]) (fun o i _ hi => by
    show br (decide (i < (l.length : Int))) _ _ = _
    rw [br_f (by simpa using hi)]) (o := List.replicate (l.length : Int).toNat ((⟨⟨[]⟩⟩ : ByteArray), ((0 : Int), (0 : Int)), (0 : Int), (0 : Int))) (by simp)
  have hc' : toSiteSL (l, List.replicate (l.length : Int).toNat ((⟨⟨[]⟩⟩ : ByteArray), ((0 : Int), (0 : Int)), (0 : Int), (0 : Int)), 0) = some (l, l.map (fun y => y), (l.length : Int)) := hc
  unfold toSiteS
  rw [br_t (by simp; omega), hc']
  show some (l.map fun y => y) = some l
  rw [List.map_id']
theorem toPlateD_eq {p : PlateD} (h : p.2.2.2.2.length ≤ 1048576) : toPlateD p = some p := by
  unfold toPlateD
  rw [toSiteS_eq h]; rfl
theorem toPlateR_eq {p : PlateD} (h : p.2.2.2.2.length ≤ 1048576) : toPlateR p = some p := by
  unfold toPlateR
  rw [toSiteS_eq h]; rfl

/-! ### Sizes -/
theorem szSiteS_cases {l : List SiteD} (h : l.length ≤ maxLen) (hs : ∀ y ∈ l, y.1.size ≤ maxLen) {k : Int} (h0 : 0 ≤ k) (h1 : k ≤ 1048576) :
    szSiteS (l, k) = some (-1) ∨ ∃ r, szSiteS (l, k) = some r ∧ l.length ≤ 1048576 ∧ 0 ≤ r ∧ r ≤ 1048576 := by
  have hm := maxLen_le h
  show br (decide (IntKind.i64.wrap (k - (l.length : Int)) < 0)) (some (-1)) (ob (szSiteSL (l, IntKind.i64.wrap (k - (l.length : Int)), 0, 0)) _) = _ ∨ ∃ r, br (decide (IntKind.i64.wrap (k - (l.length : Int)) < 0)) (some (-1)) (ob (szSiteSL (l, IntKind.i64.wrap (k - (l.length : Int)), 0, 0)) _) = _ ∧ _
  rw [w64 (by omega) (by omega)]
  by_cases hl : (l.length : Int) ≤ k
  · rw [br_f (by simp; omega)]
    obtain ⟨b, s, e, h2, h3⟩ := iter_end (step := szSiteSL_step) (fun s => s.1 = l ∧ (0 ≤ s.2.1 ∧ s.2.1 ≤ 1048576) ∧ 0 ≤ s.2.2.2 ∧ s.2.2.2 ≤ l.length) (fun s => 0 ≤ s.2.1 ∧ s.2.1 ≤ 1048576) (fun s => s.2.2.1 = -1) (fun s => l.length - s.2.2.2.toNat) (by
      rintro ⟨l', k', r', i⟩ ⟨rfl, ⟨k0, k1⟩, i0, i1⟩
      dsimp only at k0 k1 i0 i1
      show ∃ r s', br (decide (i < (l'.length : Int))) (ob (idx l' i) fun y => ob (szSiteL (y, k')) fun y => br (decide (y < 0)) (some (LRes.ret, l', y, -1, i)) (some (LRes.next, l', y, r', IntKind.i64.wrap (i + 1)))) (some (LRes.out, l', k', r', i)) = some (r, s') ∧ _
      by_cases hi : i < l'.length
      · obtain ⟨y, hy, hy2⟩ := idx_get i0 hi
        have hsz := maxLen_le (hs y (List.mem_of_getElem? hy2))
        have hm' : l'.length ≤ 9223372036854775807 := hm
        have e1 : szSiteL (y, k') = some (if k' - y.1.size < 0 then -1 else k' - y.1.size) := by
          show br (decide (IntKind.i64.wrap (k' - (y.1.size : Int)) < 0)) (some (-1)) (some (IntKind.i64.wrap (k' - (y.1.size : Int)))) = _
          rw [w64 (by omega) (by omega), br_if]
          simp only [decide_eq_true_eq]
          split <;> rfl
        rw [br_t (by simpa using hi), hy]
        simp only [ob_s, e1]
        by_cases hk : k' - y.1.size < 0
        · rw [if_pos hk]
          exact ⟨.ret, _, rfl, fun h => (by cases h), fun h => (by cases h), fun _ => rfl⟩
        · rw [if_neg hk, br_f (by simpa using hk), w64 (by omega) (by omega)]
          exact ⟨.next, _, rfl, fun _ => ⟨⟨rfl, ⟨by dsimp only; omega, by dsimp only; omega⟩, by dsimp only; omega, by dsimp only; omega⟩, by dsimp only; omega⟩, fun h => (by cases h), fun h => (by cases h)⟩
      · rw [br_f (by simpa using hi)]
        exact ⟨.out, _, rfl, fun h => (by cases h), fun _ => ⟨k0, k1⟩, fun h => (by cases h)⟩) (l.length - (0 : Int).toNat + 1) (l, k - (l.length : Int), 0, 0) ⟨rfl, ⟨by dsimp only; omega, by dsimp only; omega⟩, by dsimp only; omega, by dsimp only; omega⟩ (by dsimp only; omega)
    have e' : szSiteSL (l, k - (l.length : Int), 0, 0) = some (b, s) := e
    rw [e']
    cases b with
    | true =>
      right
      refine ⟨s.2.1, rfl, by omega, h2 rfl⟩
    | false =>
      left
      show some s.2.2.1 = _
      rw [h3 rfl]
  · left
    rw [br_t (by simp; omega)]
theorem sites_wf {p : PlateD} (h : Wf PlateT p) : p.2.2.2.2.length ≤ maxLen ∧ ∀ y ∈ p.2.2.2.2, y.1.size ≤ maxLen := ⟨h.2.2.2.2.1, fun y hy => (h.2.2.2.2.2 y hy).1⟩
theorem szPlateL_cases {p : PlateD} (hw : Wf PlateT p) {k : Int} (h0 : 0 ≤ k) (h1 : k ≤ 1048576) :
    szPlateL (p, k) = some (-1) ∨ ∃ r, szPlateL (p, k) = some r ∧ p.2.2.2.2.length ≤ 1048576 ∧ 0 ≤ r ∧ r ≤ 1048576 := by
  obtain ⟨w1, w2⟩ := sites_wf hw
  show ob (szSiteS (p.2.2.2.2, k)) (fun y => br (decide (y < 0)) (some (-1)) (some y)) = _ ∨ ∃ r, ob (szSiteS (p.2.2.2.2, k)) (fun y => br (decide (y < 0)) (some (-1)) (some y)) = _ ∧ _
  rcases szSiteS_cases w1 w2 h0 h1 with e | ⟨r, e, r1, r2, r3⟩
  · left; rw [e]; rfl
  · right; rw [e]
    exact ⟨r, by rw [ob_s, br_f (by simpa using r2)], r1, r2, r3⟩

/-! ### Each is itself -/
theorem eqSiteL_self (y : SiteD) : eqSiteL (y, y) = some true := by
  have e : eqPointL ((y.2.1.1, y.2.1.2), (y.2.1.1, y.2.1.2)) = some true := by
    unfold eqPointL
    simp only [bne_self_eq_false, br]
  unfold eqSiteL
  simp only [e, ob_s, bne_self_eq_false, beq_self_eq_true, Bool.not_true, br]
theorem eqSiteS_self {l : List SiteD} (hl : l.length ≤ 4294967296) : eqSiteS (l, l) = some true := by
  obtain ⟨i', h⟩ := eq_loop (step := eqSiteSL_step) hl (fun i b y h0 h1 hy => by
    show br (decide (i < (l.length : Int))) (ob (idx l i) fun y => ob (idx l i) fun y_1 => ob (eqSiteL (y, y_1)) fun y => br (!y) _ (some (LRes.next, l, l, b, IntKind.i64.wrap (i + 1)))) _ = _
    rw [br_t (by simpa using h1), hy]
    show ob (eqSiteL (y, y)) _ = _
    rw [eqSiteL_self]
    show some (LRes.next, l, l, b, IntKind.i64.wrap (i + 1)) = _
    rw [w64 (by omega) (by omega)]) (fun i b h => by
    show br (decide (i < (l.length : Int))) _ _ = _
    rw [br_f (by simpa using h)]) false
  have h' : eqSiteSL (l, l, false, 0) = some (true, (l, l, false, i')) := h
  show br ((l.length : Int) != (l.length : Int)) _ (ob (eqSiteSL (l, l, false, 0)) _) = _
  rw [br_f (by simp), h']
  rfl
theorem eqPlateL_self {p : PlateD} (h : p.2.2.2.2.length ≤ 1048576) : eqPlateL (p, p) = some true := by
  unfold eqPlateL
  simp only [bne_self_eq_false, br, eqSiteS_self (l := p.2.2.2.2) (by omega), ob_s, Bool.not_true]

/-! ### The same plate -/
def siteEq (y z : SiteD) : Bool := y.1 == z.1 && (y.2.1.1 == z.2.1.1 && (y.2.1.2 == z.2.1.2 && (y.2.2.1 == z.2.2.1 && y.2.2.2 == z.2.2.2)))
def atEq (m : List SiteD) (i : Nat) (y : SiteD) : Bool := match m[i]? with | some z => siteEq y z | none => false
theorem sameSL_eq {p q : PlateD} (hl : p.2.2.2.2.length ≤ 4294967296) (hlm : p.2.2.2.2.length = q.2.2.2.2.length) : ∃ s, sameSL (p, q, false, 0) = some (allI (atEq q.2.2.2.2) p.2.2.2.2 0, s) ∧ (allI (atEq q.2.2.2.2) p.2.2.2.2 0 = false → s.2.2.1 = false) := by
  obtain ⟨s, h, h1, h2⟩ := all_loopI (step := sameSL_step) (l := p.2.2.2.2) (fun i => (p, q, false, i)) (atEq q.2.2.2.2) (fun _ => True) (fun s => s.2.2.1 = false)
      (fun i y h0 h1 hy _ hp => by
        obtain ⟨z, hz, hz2⟩ := idx_get (l := q.2.2.2.2) h0 (by omega)
        unfold atEq at hp; rw [hz2] at hp
        show br (decide (i < (p.2.2.2.2.length : Int))) (ob (idx p.2.2.2.2 i) fun y => ob (idx q.2.2.2.2 i) fun z => br (!siteEq y z) _ (some (LRes.next, p, q, false, IntKind.i64.wrap (i + 1)))) _ = _
        rw [br_t (by simpa using h1), hy, hz, ob_s, ob_s, br_f (by simp [hp]), w64 (by omega) (by omega)])
      (fun i y h0 h1 hy _ hp => by
        obtain ⟨z, hz, hz2⟩ := idx_get (l := q.2.2.2.2) h0 (by omega)
        unfold atEq at hp; rw [hz2] at hp
        refine ⟨(p, q, false, i), ?_, rfl⟩
        show br (decide (i < (p.2.2.2.2.length : Int))) (ob (idx p.2.2.2.2 i) fun y => ob (idx q.2.2.2.2 i) fun z => br (!siteEq y z) (some (LRes.ret, p, q, false, i)) _) _ = _
        rw [br_t (by simpa using h1), hy, hz, ob_s, ob_s, br_t (by simp [hp])])
      ⟨_, by
        show br (decide ((p.2.2.2.2.length : Int) < (p.2.2.2.2.length : Int))) _ _ = _
        rw [br_f (by simp)], trivial⟩ (n := p.2.2.2.2.length - (0 : Int).toNat + 1) (by omega)
  exact ⟨s, h, h2⟩
def sameF (p q : PlateD) : Bool := p.1 == q.1 && (p.2.1 == q.2.1 && (p.2.2.1 == q.2.2.1 && (p.2.2.2.1 == q.2.2.2.1 && (decide (p.2.2.2.2.length = q.2.2.2.2.length) && allI (atEq q.2.2.2.2) p.2.2.2.2 0))))
theorem sameS_eq {p q : PlateD} (hl : p.2.2.2.2.length ≤ 4294967296) : sameS (p, q) = some (sameF p q) := by
  have key : br ((p.2.2.2.2.length : Int) != (q.2.2.2.2.length : Int)) (some false) (ob (sameSL (p, q, false, 0)) fun r => br r.1 (some true) (some r.2.2.2.1)) = some (decide (p.2.2.2.2.length = q.2.2.2.2.length) && allI (atEq q.2.2.2.2) p.2.2.2.2 0) := by
    by_cases hlm : p.2.2.2.2.length = q.2.2.2.2.length
    · obtain ⟨s, h, h2⟩ := sameSL_eq hl hlm
      rw [br_f (by simp [hlm]), h, show decide (p.2.2.2.2.length = q.2.2.2.2.length) = true by simpa using hlm, Bool.true_and]
      cases hb : allI (atEq q.2.2.2.2) p.2.2.2.2 0 with
      | true => rfl
      | false =>
        show some s.2.2.1 = _
        rw [h2 hb]
    · rw [br_t (by simp; omega), show decide (p.2.2.2.2.length = q.2.2.2.2.length) = false by simpa using hlm, Bool.false_and]
  unfold sameS sameF
  show br (p.1 != q.1) _ (br (p.2.1 != q.2.1) _ (br (p.2.2.1 != q.2.2.1) _ (br (p.2.2.2.1 != q.2.2.2.1) _ (br ((p.2.2.2.2.length : Int) != (q.2.2.2.2.length : Int)) (some false) (ob (sameSL (p, q, false, 0)) fun r => br r.1 (some true) (some r.2.2.2.1)))))) = _
  rw [key]
  simp only [bne]
  cases p.1 == q.1 <;> cases p.2.1 == q.2.1 <;> cases p.2.2.1 == q.2.2.1 <;> cases p.2.2.2.1 == q.2.2.2.1 <;> rfl
/-! ### Names -/
def smallF (c : Int) : Bool := decide (97 ≤ c) && decide (c ≤ 122)
def digitF (c : Int) : Bool := decide (48 ≤ c) && decide (c ≤ 57)
def restF (c : Int) : Bool := smallF c || digitF c || c == 45
def nameP (i : Nat) (c : Int) : Bool := if i = 0 then smallF c else restF c
def nameF (s : ByteArray) : Bool := decide (1 ≤ s.size) && (decide (s.size ≤ 12) && allI nameP (bytesIn s) 0)
theorem smallS_eq (c : Int) : smallS c = some (smallF c) := by
  unfold smallS smallF
  cases decide (97 ≤ c) <;> rfl
theorem digitS_eq (c : Int) : digitS c = some (digitF c) := by
  unfold digitS digitF
  cases decide (48 ≤ c) <;> rfl
theorem is_or_not {x y : Int} : (x = y ∧ (x == y) = true) ∨ (x ≠ y ∧ (x == y) = false) := by
  by_cases h : x = y
  · exact .inl ⟨h, by simpa using h⟩
  · exact .inr ⟨h, by simpa using h⟩
theorem nameIL_eq {s : ByteArray} (hs : s.size ≤ 12) : ∃ t, nameIL (false, bytesIn s, ((bytesIn s).length : Int), 0) = some (allI nameP (bytesIn s) 0, t) ∧ (allI nameP (bytesIn s) 0 = false → t.1 = false) := by
  have hl := bytesIn_len s
  obtain ⟨t, h, _, h2⟩ := all_loopI (step := nameIL_step) (l := bytesIn s) (fun i => (false, bytesIn s, ((bytesIn s).length : Int), i)) nameP (fun _ => True) (fun t => t.1 = false)
      (fun i y h0 h1 hy _ hp => by
        unfold nameIL_step
        dsimp only
        rw [br_t (by simpa using h1), hy, ob_s, w64 (by omega) (by omega)]
        unfold nameP restF smallF digitF at hp
        obtain ⟨c5, e5⟩ | ⟨c5, e5⟩ := is_or_not (x := i) (y := 0) <;> obtain ⟨c6, e6⟩ | ⟨c6, e6⟩ := is_or_not (x := y) (y := 45) <;>
        by_cases c1 : (97 : Int) ≤ y <;> by_cases c2 : (48 : Int) ≤ y <;> by_cases c3 : y ≤ (57 : Int) <;> by_cases c4 : y ≤ (122 : Int) <;>
          first
          | (exfalso; omega)
          | (simp [c1, c2, c3, c4, c5, c6, e5, e6, br, show i.toNat = 0 ↔ i = 0 by omega] at hp ⊢; done)
          | (simp [c1, c2, c3, c4, c5, c6, e5, e6, br, show i.toNat = 0 ↔ i = 0 by omega]; done))
      (fun i y h0 h1 hy _ hp => by
        refine ⟨(false, bytesIn s, ((bytesIn s).length : Int), i), ?_, rfl⟩
        unfold nameIL_step
        dsimp only
        rw [br_t (by simpa using h1), hy, ob_s]
        unfold nameP restF smallF digitF at hp
        obtain ⟨c5, e5⟩ | ⟨c5, e5⟩ := is_or_not (x := i) (y := 0) <;> obtain ⟨c6, e6⟩ | ⟨c6, e6⟩ := is_or_not (x := y) (y := 45) <;>
        by_cases c1 : (97 : Int) ≤ y <;> by_cases c2 : (48 : Int) ≤ y <;> by_cases c3 : y ≤ (57 : Int) <;> by_cases c4 : y ≤ (122 : Int) <;>
          first
          | (exfalso; omega)
          | (simp [c1, c2, c3, c4, c5, c6, e5, e6, br, show i.toNat = 0 ↔ i = 0 by omega] at hp ⊢; done)
          | (simp [c1, c2, c3, c4, c5, c6, e5, e6, br, show i.toNat = 0 ↔ i = 0 by omega]; done))
      ⟨_, by
        show br (decide (((bytesIn s).length : Int) < ((bytesIn s).length : Int))) _ _ = _
        rw [br_f (by simp)], trivial⟩ (n := (((bytesIn s).length : Int) - 0).toNat + 1) (by omega)
  exact ⟨t, h, h2⟩
theorem nameI_eq (s : ByteArray) : nameI s = some (nameF s) := by
  unfold nameI nameF
  by_cases h1 : 1 ≤ s.size
  · rw [br_f (by simp; omega), show decide (1 ≤ s.size) = true by simpa using h1, Bool.true_and]
    by_cases h2 : s.size ≤ 12
    · obtain ⟨t, e, e2⟩ := nameIL_eq h2
      rw [br_f (by simp; omega), br_t (by simp; omega), e, show decide (s.size ≤ 12) = true by simpa using h2, Bool.true_and]
      cases hb : allI nameP (bytesIn s) 0 with
      | true => rfl
      | false =>
        show some t.1 = _
        rw [e2 hb]
    · rw [br_t (by simp; omega), show decide (s.size ≤ 12) = false by simpa using h2, Bool.false_and]
  · rw [br_t (by simp; omega), show decide (1 ≤ s.size) = false by simpa using h1, Bool.false_and]
theorem sidx_of {s : ByteArray} {i y : Int} (h : idx (bytesIn s) i = some y) : ∃ b : UInt8, sidx s i = some b ∧ (b.toNat : Int) = y := by
  rw [idx_bytes] at h
  obtain ⟨b, h1, h2⟩ := Option.map_eq_some_iff.1 h
  exact ⟨b, h1, h2⟩
theorem nameSL_eq {s : ByteArray} (hs : s.size ≤ 12) : ∃ t, nameSL (s, false, 0) = some ((bytesIn s).all restF, t) ∧ ((bytesIn s).all restF = false → t.2.1 = false) := by
  have hl := bytesIn_len s
  obtain ⟨t, h, _, h2⟩ := all_loop (step := nameSL_step) (l := bytesIn s) (fun i => (s, false, i)) restF (fun _ => True) (fun t => t.2.1 = false)
      (fun i y h0 h1 hy hp => by
        obtain ⟨b, hb, rfl⟩ := sidx_of hy
        unfold nameSL_step
        dsimp only
        rw [br_t (by simp; omega), hb]
        simp only [ob_s, smallS_eq, digitS_eq]
        rw [w64 (by omega) (by omega)]
        unfold restF at hp
        cases c1 : smallF (b.toNat : Int) <;> cases c2 : digitF (b.toNat : Int) <;> cases c3 : ((b.toNat : Int) == 45) <;> simp [c1, c2, c3, br, bne] at hp ⊢)
      (fun i y h0 h1 hy hp => by
        obtain ⟨b, hb, rfl⟩ := sidx_of hy
        refine ⟨(s, false, i), ?_, rfl⟩
        unfold nameSL_step
        dsimp only
        rw [br_t (by simp; omega), hb]
        simp only [ob_s, smallS_eq, digitS_eq]
        unfold restF at hp
        cases c1 : smallF (b.toNat : Int) <;> cases c2 : digitF (b.toNat : Int) <;> cases c3 : ((b.toNat : Int) == 45) <;> simp [c1, c2, c3, br, bne] at hp ⊢)
      ⟨_, by
        show br (decide (((bytesIn s).length : Int) < (s.size : Int))) _ _ = _
        rw [br_f (by simp; omega)], trivial⟩ (n := s.size - (0 : Int).toNat + 1) (by omega)
  exact ⟨t, h, h2⟩
theorem allI_rest : ∀ (l : List Int) (k : Nat), 0 < k → allI nameP l k = l.all restF
  | [], _, _ => rfl
  | y :: l, k, h => by
    unfold allI
    rw [allI_rest l (k + 1) (by omega), List.all_cons]
    unfold nameP
    rw [if_neg (by omega)]
theorem nameS_eq (s : ByteArray) : nameS s = some (nameF s) := by
  have hl := bytesIn_len s
  have hempty : (s.toList == (⟨⟨[]⟩⟩ : ByteArray).toList) = decide (s.size < 1) := by
    rw [ByteArray.toList_eq, ByteArray.toList_eq]
    have hsz : s.size = s.data.toList.length := by simp
    rw [hsz]
    cases s.data.toList with
    | nil => rfl
    | cons a b => simp
  unfold nameS nameF
  rw [hempty]
  by_cases h1 : 1 ≤ s.size
  · rw [br_f (decide_eq_false (by omega)), show decide (1 ≤ s.size) = true from decide_eq_true h1, Bool.true_and]
    by_cases h2 : s.size ≤ 12
    · rw [br_f (by simp; omega), show decide (s.size ≤ 12) = true by simpa using h2, Bool.true_and]
      obtain ⟨t, e, e2⟩ := nameSL_eq h2
      cases hb : bytesIn s with
      | nil => rw [hb] at hl; simp at hl; omega
      | cons c r =>
        obtain ⟨b, hb1, hb2⟩ := sidx_of (s := s) (i := 0) (y := c) (by rw [hb]; rfl)
        rw [hb1]
        rw [hb] at e e2
        simp only [ob_s, smallS_eq, hb2, e]
        have e4 : allI nameP (c :: r) 0 = (smallF c && r.all restF) := by
          show (nameP 0 c && allI nameP r (0 + 1)) = _
          rw [allI_rest r 1 (by omega)]; rfl
        rw [e4]
        rw [List.all_cons] at e2 ⊢
        cases hc : smallF c with
        | false => rfl
        | true =>
          have hrc : restF c = true := by unfold restF; rw [hc]; rfl
          rw [hrc, Bool.true_and] at e2 ⊢
          cases hr : r.all restF with
          | true => rfl
          | false =>
            show some t.2.1 = _
            rw [e2 hr]
    · rw [br_t (by simp; omega), show decide (s.size ≤ 12) = false by simpa using h2, Bool.false_and]
  · rw [br_t (decide_eq_true (by omega)), show decide (1 ≤ s.size) = false from decide_eq_false h1, Bool.false_and]

/-! ### A valid plate -/
def inF (x lo hi : Int) : Bool := decide (lo ≤ x) && decide (x ≤ hi)
theorem withinP_eq (x lo hi : Int) : withinP (x, lo, hi) = some (inF x lo hi) := by
  unfold withinP inF
  dsimp only
  cases decide (lo ≤ x) <;> rfl
theorem inP_eq (x lo hi : Int) : inP (x, lo, hi) = some (inF x lo hi) := withinP_eq x lo hi
def named (y z : SiteD) : Bool := z.1.toList == y.1.toList
def siteOk (p : PlateD) (y : SiteD) : Bool := nameF y.1 && (inF y.2.1.1 0 p.1 && (inF y.2.1.2 0 p.2.1 && (inF y.2.2.2 1 1000 && inF y.2.2.1 y.2.2.2 10000)))
theorem validSiteI_eq (p : PlateD) (y : SiteD) : validSiteI (p, y) = some (siteOk p y) := by
  unfold validSiteI siteOk
  simp only [nameI_eq, withinP_eq, ob_s]
  cases nameF y.1 <;> cases inF y.2.1.1 0 p.1 <;> cases inF y.2.1.2 0 p.2.1 <;> cases inF y.2.2.2 1 1000 <;> cases inF y.2.2.1 y.2.2.2 10000 <;> rfl
theorem hasSite_eq {l : List SiteD} (hl : l.length ≤ 4294967296) (y : SiteD) : hasSite (l, y) = some (l.any (named y)) := by
  obtain ⟨s, h, _, h2⟩ := all_loop (step := findSiteL_step) (l := l) (fun i => (l, y, 0, (l.length : Int), i)) (fun z => !named y z) (fun _ => True) (fun s => 0 ≤ s.2.2.1)
      (fun i z h0 h1 hz hp => by
        show br (decide (i < (l.length : Int))) (ob (idx l i) fun z => br (z.1.toList == y.1.toList) _ (some (LRes.next, l, y, 0, (l.length : Int), IntKind.i64.wrap (i + 1)))) _ = _
        rw [br_t (by simpa using h1), hz, ob_s, br_f (by simpa [named] using hp), w64 (by omega) (by omega)])
      (fun i z h0 h1 hz hp => by
        refine ⟨(l, y, i, (l.length : Int), i), ?_, h0⟩
        show br (decide (i < (l.length : Int))) (ob (idx l i) fun z => br (z.1.toList == y.1.toList) (some (LRes.ret, l, y, i, (l.length : Int), i)) _) _ = _
        rw [br_t (by simpa using h1), hz, ob_s, br_t (by simpa [named] using hp)])
      ⟨_, by
        show br (decide ((l.length : Int) < (l.length : Int))) _ _ = _
        rw [br_f (by simp)], trivial⟩ (n := ((l.length : Int) - 0).toNat + 1) (by omega)
  have h' : findSiteL (l, y, 0, (l.length : Int), 0) = some (l.all fun z => !named y z, s) := h
  have ha : l.any (named y) = !(l.all fun z => !named y z) := by
    rw [List.any_eq_not_all_not]
  unfold hasSite findSite
  dsimp only
  rw [h', ha]
  cases hb : l.all fun z => !named y z with
  | true => rfl
  | false =>
    show some (decide (0 ≤ s.2.2.1)) = _
    rw [show decide (0 ≤ s.2.2.1) = true by simpa using h2 hb]; rfl
def placeOk (p : PlateD) (i : Nat) (y : SiteD) : Bool := siteOk p y && !((p.2.2.2.2.take i).any (named y))
theorem validPlateIL_eq {p : PlateD} (hl : p.2.2.2.2.length ≤ 20) : ∃ t, validPlateIL (p, false, p.2.2.2.2, (p.2.2.2.2.length : Int), 0) = some (allI (placeOk p) p.2.2.2.2 0, t) ∧ (allI (placeOk p) p.2.2.2.2 0 = false → t.2.1 = false) := by
  have main : ∀ (i : Int) (y : SiteD), 0 ≤ i → i < p.2.2.2.2.length → idx p.2.2.2.2 i = some y →
      validPlateIL_step (p, false, p.2.2.2.2, (p.2.2.2.2.length : Int), i) = some (if placeOk p i.toNat y then (.next, p, false, p.2.2.2.2, (p.2.2.2.2.length : Int), i + 1) else (.ret, p, false, p.2.2.2.2, (p.2.2.2.2.length : Int), i)) := by
    intro i y h0 h1 hy
    show br (decide (i < (p.2.2.2.2.length : Int))) (ob (idx p.2.2.2.2 i) fun y => ob (validSiteI (p, y)) fun y_1 => br (!y_1) (some (LRes.ret, p, false, p.2.2.2.2, (p.2.2.2.2.length : Int), i)) (br (decide ((0 : Int) ≤ 0 ∧ 0 ≤ i ∧ i ≤ (p.2.2.2.2.length : Int))) (ob (hasSite (p.2.2.2.2.take i.toNat, y)) fun z => br z (some (LRes.ret, p, false, p.2.2.2.2, (p.2.2.2.2.length : Int), i)) (some (LRes.next, p, false, p.2.2.2.2, (p.2.2.2.2.length : Int), IntKind.i64.wrap (i + 1)))) none)) _ = _
    rw [br_t (by simpa using h1), hy, ob_s, validSiteI_eq, ob_s]
    unfold placeOk
    cases siteOk p y with
    | false => rfl
    | true =>
      rw [br_f (c := !true) rfl, br_t (by simp; omega), hasSite_eq (by rw [List.length_take]; omega), ob_s, w64 (by omega) (by omega)]
      cases (p.2.2.2.2.take i.toNat).any (named y) <;> rfl
  obtain ⟨t, h, _, h2⟩ := all_loopI (step := validPlateIL_step) (l := p.2.2.2.2) (fun i => (p, false, p.2.2.2.2, (p.2.2.2.2.length : Int), i)) (placeOk p) (fun _ => True) (fun t => t.2.1 = false)
      (fun i y h0 h1 hy _ hp => by rw [main i y h0 h1 hy, if_pos hp])
      (fun i y h0 h1 hy _ hp => ⟨(p, false, p.2.2.2.2, (p.2.2.2.2.length : Int), i), by rw [main i y h0 h1 hy, if_neg (by simp [hp])], rfl⟩)
      ⟨_, by
        show br (decide ((p.2.2.2.2.length : Int) < (p.2.2.2.2.length : Int))) _ _ = _
        rw [br_f (by simp)], trivial⟩ (n := ((p.2.2.2.2.length : Int) - 0).toNat + 1) (by omega)
  exact ⟨t, h, h2⟩
theorem okPlateSN_eq {p : PlateD} (hl : p.2.2.2.2.length ≤ 20) {i : Int} (y : SiteD) (h0 : 0 ≤ i) (h1 : i ≤ p.2.2.2.2.length) : ∃ t, okPlateSN (p, false, i, y, 0) = some (!((p.2.2.2.2.take i.toNat).any (named y)), t) ∧ t.1 = p ∧ t.2.1 = false ∧ t.2.2.1 = i := by
  have hlen : (p.2.2.2.2.take i.toNat).length = i.toNat := by rw [List.length_take]; omega
  have hat : ∀ (j : Int) z, 0 ≤ j → j < ((p.2.2.2.2.take i.toNat).length : Int) → idx (p.2.2.2.2.take i.toNat) j = some z → idx p.2.2.2.2 j = some z := by
    intro j z j0 j1 hz
    unfold idx at hz ⊢
    rw [if_pos j0] at hz ⊢
    rw [List.getElem?_take_of_lt (by omega)] at hz
    exact hz
  obtain ⟨t, h, h3, h2⟩ := all_loop (step := okPlateSN_step) (l := p.2.2.2.2.take i.toNat) (fun j => (p, false, i, y, j)) (fun z => !named y z) (fun t => t.1 = p ∧ t.2.1 = false ∧ t.2.2.1 = i) (fun t => t.1 = p ∧ t.2.1 = false ∧ t.2.2.1 = i)
      (fun j z j0 j1 hz hp => by
        have hz' := hat j z j0 j1 hz
        show br (decide (j < i)) (ob (idx p.2.2.2.2 j) fun z => br (z.1.toList == y.1.toList) _ (some (LRes.next, p, false, i, y, IntKind.i64.wrap (j + 1)))) _ = _
        rw [br_t (by simp; omega), hz', ob_s, br_f (by simpa [named] using hp), w64 (by omega) (by omega)])
      (fun j z j0 j1 hz hp => by
        have hz' := hat j z j0 j1 hz
        refine ⟨(p, false, i, y, j), ?_, rfl, rfl, rfl⟩
        show br (decide (j < i)) (ob (idx p.2.2.2.2 j) fun z => br (z.1.toList == y.1.toList) (some (LRes.ret, p, false, i, y, j)) _) _ = _
        rw [br_t (by simp; omega), hz', ob_s, br_t (by simpa [named] using hp)])
      ⟨(p, false, i, y, ((p.2.2.2.2.take i.toNat).length : Int)), by
        show br (decide (((p.2.2.2.2.take i.toNat).length : Int) < i)) _ _ = _
        rw [br_f (by simp; omega)], rfl, rfl, rfl⟩ (n := (i - 0).toNat + 1) (by omega)
  have ha : (!((p.2.2.2.2.take i.toNat).any (named y))) = (p.2.2.2.2.take i.toNat).all fun z => !named y z := by
    rw [List.any_eq_not_all_not, Bool.not_not]
  rw [ha]
  refine ⟨t, h, ?_⟩
  cases hb : (p.2.2.2.2.take i.toNat).all fun z => !named y z with
  | true => exact h3 hb
  | false => exact h2 hb
theorem okPlateSL_eq {p : PlateD} (hl : p.2.2.2.2.length ≤ 20) : ∃ t, okPlateSL (p, false, 0) = some (allI (placeOk p) p.2.2.2.2 0, t) ∧ (allI (placeOk p) p.2.2.2.2 0 = false → t.2.1 = false) := by
  have main : ∀ (i : Int) (y : SiteD), 0 ≤ i → i < p.2.2.2.2.length → idx p.2.2.2.2 i = some y →
      okPlateSL_step (p, false, i) = some (if placeOk p i.toNat y then (.next, p, false, i + 1) else (.ret, p, false, i)) := by
    intro i y h0 h1 hy
    obtain ⟨t, e, t1, t2, t3⟩ := okPlateSN_eq hl y h0 (by omega)
    have e' : okPlateSN ((p.1, p.2.1, p.2.2.1, p.2.2.2.1, p.2.2.2.2), false, i, (y.1, (y.2.1.1, y.2.1.2), y.2.2.1, y.2.2.2), 0) = some (!((p.2.2.2.2.take i.toNat).any (named y)), t) := e
    unfold okPlateSL_step
    dsimp only
    rw [br_t (by simpa using h1), hy]
    simp only [ob_s, nameS_eq, inP_eq, e']
    unfold placeOk siteOk
    have et : t = (p, false, i, t.2.2.2) := by rw [← t1, ← t2, ← t3]
    rw [et]
    dsimp only
    rw [w64 (by omega) (by omega)]
    cases nameF y.1 <;> cases inF y.2.1.1 0 p.1 <;> cases inF y.2.1.2 0 p.2.1 <;> cases inF y.2.2.2 1 1000 <;> cases inF y.2.2.1 y.2.2.2 10000 <;> try rfl
    cases (p.2.2.2.2.take i.toNat).any (named y) <;> rfl
  obtain ⟨t, h, _, h2⟩ := all_loopI (step := okPlateSL_step) (l := p.2.2.2.2) (fun i => (p, false, i)) (placeOk p) (fun _ => True) (fun t => t.2.1 = false)
      (fun i y h0 h1 hy _ hp => by rw [main i y h0 h1 hy, if_pos hp])
      (fun i y h0 h1 hy _ hp => ⟨(p, false, i), by rw [main i y h0 h1 hy, if_neg (by simp [hp])], rfl⟩)
      ⟨_, by
        show br (decide ((p.2.2.2.2.length : Int) < (p.2.2.2.2.length : Int))) _ _ = _
        rw [br_f (by simp)], trivial⟩ (n := p.2.2.2.2.length - (0 : Int).toNat + 1) (by omega)
  exact ⟨t, h, h2⟩
def plateOk (p : PlateD) : Bool := inF p.1 1 10000 && (inF p.2.1 1 10000 && (inF p.2.2.1 0 1000 && (inF p.2.2.2.1 0 1000 && (decide (p.2.2.2.2.length ≤ 20) && allI (placeOk p) p.2.2.2.2 0))))
theorem validPlateI_eq (p : PlateD) : validPlateI p = some (plateOk p) := by
  unfold validPlateI plateOk
  simp only [withinP_eq, ob_s]
  have key : br (decide ((20 : Int) < (p.2.2.2.2.length : Int))) (some false) (ob (validPlateIL (p, false, p.2.2.2.2, (p.2.2.2.2.length : Int), 0)) fun r => br r.1 (some true) (some r.2.2.1)) = some (decide (p.2.2.2.2.length ≤ 20) && allI (placeOk p) p.2.2.2.2 0) := by
    by_cases h : p.2.2.2.2.length ≤ 20
    · obtain ⟨t, e, e2⟩ := validPlateIL_eq h
      rw [br_f (by simp; omega), e, show decide (p.2.2.2.2.length ≤ 20) = true by simpa using h, Bool.true_and]
      cases hb : allI (placeOk p) p.2.2.2.2 0 with
      | true => rfl
      | false =>
        show some t.2.1 = _
        rw [e2 hb]
    · rw [br_t (by simp; omega), show decide (p.2.2.2.2.length ≤ 20) = false by simpa using h, Bool.false_and]
  have key' : br (decide ((20 : Int) < (p.2.2.2.2.length : Int))) (some false) (ob (validPlateIL ((p.1, p.2.1, p.2.2.1, p.2.2.2.1, p.2.2.2.2), false, p.2.2.2.2, (p.2.2.2.2.length : Int), 0)) fun r => br r.1 (some true) (some r.2.2.1)) = some (decide (p.2.2.2.2.length ≤ 20) && allI (placeOk p) p.2.2.2.2 0) := key
  rw [key']
  cases inF p.1 1 10000 <;> cases inF p.2.1 1 10000 <;> cases inF p.2.2.1 0 1000 <;> cases inF p.2.2.2.1 0 1000 <;> rfl
theorem okPlateS_eq (p : PlateD) : okPlateS p = some (plateOk p) := by
  unfold okPlateS plateOk
  simp only [inP_eq, ob_s]
  have key : br (decide ((20 : Int) < (p.2.2.2.2.length : Int))) (some false) (ob (okPlateSL (p, false, 0)) fun r => br r.1 (some true) (some r.2.2.1)) = some (decide (p.2.2.2.2.length ≤ 20) && allI (placeOk p) p.2.2.2.2 0) := by
    by_cases h : p.2.2.2.2.length ≤ 20
    · obtain ⟨t, e, e2⟩ := okPlateSL_eq h
      rw [br_f (by simp; omega), e, show decide (p.2.2.2.2.length ≤ 20) = true by simpa using h, Bool.true_and]
      cases hb : allI (placeOk p) p.2.2.2.2 0 with
      | true => rfl
      | false =>
        show some t.2.1 = _
        rw [e2 hb]
    · rw [br_t (by simp; omega), show decide (p.2.2.2.2.length ≤ 20) = false by simpa using h, Bool.false_and]
  have key' : br (decide ((20 : Int) < (p.2.2.2.2.length : Int))) (some false) (ob (okPlateSL ((p.1, p.2.1, p.2.2.1, p.2.2.2.1, p.2.2.2.2), false, 0)) fun r => br r.1 (some true) (some r.2.2.1)) = some (decide (p.2.2.2.2.length ≤ 20) && allI (placeOk p) p.2.2.2.2 0) := key
  rw [key']
  cases inF p.1 1 10000 <;> cases inF p.2.1 1 10000 <;> cases inF p.2.2.1 0 1000 <;> cases inF p.2.2.2.1 0 1000 <;> rfl
end Rx
end Go.Proofs.Ytckbhfbcblehmaa
