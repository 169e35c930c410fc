/- Plates turned over and about, and sites outside of them. No program in sight. -/
import Derived.Test.YtblonadjjbmmnaaRxSitesLaw
import Derived.Test.YtblonadjjbmmnaaRxPlates
namespace Go.Proofs.Ytblonadjjbmmnaa
namespace Rx
open Go

/-! ### Marks -/
theorem bytesOf_one (n : Int) : (bytesOf [n]).size = 1 := rfl
theorem markText_tot (k : Int) (h : k ≤ 1000000000000) : ∃ t, markText k = some t := by
  unfold markText
  by_cases h0 : k ≤ 0
  · rw [br_t (by simpa using h0)]; exact ⟨_, rfl⟩
  · rw [br_f (by simpa using h0)]
    obtain ⟨s, e, hs⟩ := iterP_end (step := markTextL_step) (fun s => (0 ≤ s.1 ∧ s.1 ≤ 1000000000000) ∧ (s.2.size : Int) + s.1 ≤ 1000000000000) (fun s => (s.2.size : Int) ≤ 1000000000000) (fun s => s.1.toNat) (by
      rintro ⟨n, s⟩ ⟨⟨n0, n1⟩, ns⟩
      dsimp only at n0 n1 ns
      unfold markTextL_step
      dsimp only
      by_cases hn : 0 < n
      · have hq : n.tdiv 10 = n / 10 := by rw [Int.tdiv_eq_ediv_of_nonneg n0]
        rw [br_t (by simpa using hn), bytesOf_one, br_t (by simp; omega), hq, w64 (by omega) (by omega)]
        refine ⟨.next, _, rfl, fun _ => ⟨⟨⟨by dsimp only; omega, by dsimp only; omega⟩, ?_⟩, by dsimp only; omega⟩, fun h => (by cases h), fun h => by cases h⟩
        dsimp only
        rw [ByteArray.size_append, bytesOf_one]
        omega
      · rw [br_f (by simpa using hn)]
        exact ⟨.out, _, rfl, fun h => (by cases h), fun _ => (by dsimp only; omega), fun h => by cases h⟩) (k.toNat + 1) (k, (⟨⟨[]⟩⟩ : ByteArray)) ⟨⟨by dsimp only; omega, by dsimp only; omega⟩, by
        have : (⟨⟨[]⟩⟩ : ByteArray).size = 0 := rfl
        dsimp only; omega⟩ (by dsimp only; omega)
    have e' : markTextL (k, (⟨⟨[]⟩⟩ : ByteArray)) = some s := e
    have h1 : (⟨⟨[(109 : UInt8)]⟩⟩ : ByteArray).size = 1 := rfl
    rw [e', ob_s, br_t (by rw [h1]; simp; omega)]
    exact ⟨_, rfl⟩
def textOf (k : Int) : ByteArray := (markText k).getD ⟨⟨[]⟩⟩
theorem markText_eq (k : Int) (h : k ≤ 1000000000000) : markText k = some (textOf k) := by
  obtain ⟨t, e⟩ := markText_tot k h
  unfold textOf
  rw [e]; rfl
def mkSite (k : Int) : SiteD := (textOf k, (k + 1, k + 1 + 1), k + 1 + 1 + 1, k + 1 + 1 + 1 + 1)
theorem markSiteS_out {l : List SiteD} (hl : l.length ≤ 1048576) : ∃ l', markSiteS (l, 1) = some (1 + 5 * (l.length : Int), (l', 1)) ∧ l'.length = l.length ∧ ∀ (j : Nat) y, l'[j]? = some y → y = mkSite (1 + 5 * j) := by
  obtain ⟨l', h1, h2, h3⟩ := mark_loop (step := markSiteSL_step) (mk := mkSite) (c := 5) ⟨by omega, by omega⟩ (l := l) hl (k0 := 1) ⟨by omega, by omega⟩
    (fun l' k i y hl' h0 h1 k0 k1 hy hy2 => by
      have S1 : ∀ y, idx (l'.set i.toNat y) i = some y := fun y => idx_set h0 (by omega)
      have S2 : ∀ y, (l'.set i.toNat y)[i.toNat]? = some y := fun y => get_set (by omega)
      have e1 : IntKind.i64.wrap (k + 1) = k + 1 := w64 (by omega) (by omega)
      have e2 : IntKind.i64.wrap (k + 1 + 1) = k + 1 + 1 := w64 (by omega) (by omega)
      have e3 : IntKind.i64.wrap (k + 1 + 1 + 1) = k + 1 + 1 + 1 := w64 (by omega) (by omega)
      have e4 : IntKind.i64.wrap (k + 1 + 1 + 1 + 1) = k + 1 + 1 + 1 + 1 := w64 (by omega) (by omega)
      have e6 : IntKind.i64.wrap (k + 1 + 1 + 1 + 1 + 1) = k + 5 := by rw [w64 (by omega) (by omega)]; omega
      have e5 : IntKind.i64.wrap (i + 1) = i + 1 := w64 (by omega) (by omega)
      have e7 : markText k = some (textOf k) := markText_eq k (by omega)
      unfold markSiteSL_step
      simp only [gi]
      rw [br_t (by simp; omega)]
      simp only [hy, hy2, ob_s, e1, e2, e3, e4, e5, e6, e7, List.set_set, S1, S2]
      rfl)
    (fun l' k i hl' h => by
      show br (decide (i < (l'.length : Int))) _ _ = _
      rw [br_f (by simp; omega)])
  refine ⟨l', ?_, h2, h3⟩
  have h1' : markSiteSL (l, 1, 0) = some (l', 1 + 5 * (l.length : Int), (l.length : Int)) := h1
  show ob (markSiteSL (l, 1, 0)) _ = _
  rw [h1']
  rfl
theorem heldSiteS_out {l : List SiteD} (hl : l.length ≤ 1048576) (hm : ∀ (j : Nat) y, l[j]? = some y → y = mkSite (1 + 5 * j)) : heldSiteS (l, 1) = some (1 + 5 * (l.length : Int)) := by
  have h1 := held_loop (step := heldSiteSL_step) (mk := mkSite) (c := 5) ⟨by omega, by omega⟩ (l := l) hl (k0 := 1) ⟨by omega, by omega⟩ hm
    (fun k r i h0 h1 k0 k1 hy => by
      have e1 : IntKind.i64.wrap (k + 1) = k + 1 := w64 (by omega) (by omega)
      have e2 : IntKind.i64.wrap (k + 1 + 1) = k + 1 + 1 := w64 (by omega) (by omega)
      have e3 : IntKind.i64.wrap (k + 1 + 1 + 1) = k + 1 + 1 + 1 := w64 (by omega) (by omega)
      have e4 : IntKind.i64.wrap (k + 1 + 1 + 1 + 1) = k + 1 + 1 + 1 + 1 := w64 (by omega) (by omega)
      have e6 : IntKind.i64.wrap (k + 1 + 1 + 1 + 1 + 1) = k + 5 := by rw [w64 (by omega) (by omega)]; omega
      have e5 : IntKind.i64.wrap (i + 1) = i + 1 := w64 (by omega) (by omega)
      have e7 : markText k = some (textOf k) := markText_eq k (by omega)
      unfold heldSiteSL_step
      rw [br_t (by simp; omega)]
      simp only [hy, ob_s, e1, e2, e3, e4, e5, e6, e7, mkSite, bne_self_eq_false, beq_self_eq_true, Bool.not_true, br])
    (fun k r i h => by
      show br (decide (i < (l.length : Int))) _ _ = _
      rw [br_f (by simp; omega)]) 0
  have h1' : heldSiteSL (l, 1, 0, 0) = some (true, (l, 1 + 5 * (l.length : Int), 0, (l.length : Int))) := h1
  show ob (heldSiteSL (l, 1, 0, 0)) _ = _
  rw [h1']
  rfl
theorem markPlate_out {p : PlateD} (hl : p.2.2.2.2.length ≤ 1048576) : ∃ l', markPlate (p, 1) = some (1 + 5 * (p.2.2.2.2.length : Int), ((p.1, p.2.1, p.2.2.1, p.2.2.2.1, l'), 1)) ∧
    ∀ q1 q2 q3 q4, heldPlate ((q1, q2, q3, q4, l'), 1) = some (1 + 5 * (p.2.2.2.2.length : Int)) := by
  obtain ⟨l', h1, h2, h3⟩ := markSiteS_out hl
  refine ⟨l', ?_, fun q1 q2 q3 q4 => ?_⟩
  · unfold markPlate
    rw [h1]; rfl
  · unfold heldPlate
    dsimp only
    rw [heldSiteS_out (by omega) h3, h2, ob_s, br_f (by simp; omega)]

/-! ### Whole numbers in rows -/
theorem eqIntS_self {l : List Int} (hl : l.length ≤ 4294967296) : eqIntS (l, l) = some true := by
  obtain ⟨i', h⟩ := eq_loop (step := eqIntSL_step) hl (fun i b y h0 h1 hy => by
    show br (decide (i < (l.length : Int))) (ob (idx l i) fun y => ob (idx l i) fun y_1 => br (y != y_1) _ (some (LRes.next, l, l, b, IntKind.i64.wrap (i + 1)))) _ = _
    rw [br_t (by simpa using h1), hy]
    show br (y != y) _ _ = _
    rw [br_f (by simp)]
    rw [w64 (by omega) (by omega)]) (fun i b h => by
    show br (decide (i < (l.length : Int))) _ _ = _
    rw [br_f (by simpa using h)]) false
  have h' : eqIntSL (l, l, false, 0) = some (true, (l, l, false, i')) := h
  show br ((l.length : Int) != (l.length : Int)) _ (ob (eqIntSL (l, l, false, 0)) _) = _
  rw [br_f (by simp), h']
  rfl
theorem markIntS_out {l : List Int} (hl : l.length ≤ 1048576) : ∃ l', markIntS (l, 1) = some (1 + (l.length : Int), (l', 1)) ∧ heldIntS (l', 1) = some (1 + (l.length : Int)) := by
  obtain ⟨l', h1, h2, h3⟩ := mark_loop (step := markIntSL_step) (mk := fun k => k) (c := 1) ⟨by omega, by omega⟩ (l := l) hl (k0 := 1) ⟨by omega, by omega⟩
    (fun l' k i y hl' h0 h1 k0 k1 hy hy2 => by
      have e1 : IntKind.i64.wrap (k + 1) = k + 1 := w64 (by omega) (by omega)
      have e5 : IntKind.i64.wrap (i + 1) = i + 1 := w64 (by omega) (by omega)
      unfold markIntSL_step
      simp only [gi]
      rw [br_t (by simp; omega)]
      simp only [hy, hy2, ob_s, e1, e5])
    (fun l' k i hl' h => by
      show br (decide (i < (l'.length : Int))) _ _ = _
      rw [br_f (by simp; omega)])
  have h4 := held_loop (step := heldIntSL_step) (mk := fun k => k) (c := 1) ⟨by omega, by omega⟩ (l := l') (by omega) (k0 := 1) ⟨by omega, by omega⟩ h3
    (fun k r i h0 h1 k0 k1 hy => by
      have e1 : IntKind.i64.wrap (k + 1) = k + 1 := w64 (by omega) (by omega)
      have e5 : IntKind.i64.wrap (i + 1) = i + 1 := w64 (by omega) (by omega)
      unfold heldIntSL_step
      rw [br_t (by simp; omega)]
      simp only [hy, ob_s, e1, e5, bne_self_eq_false, br])
    (fun k r i h => by
      show br (decide (i < (l'.length : Int))) _ _ = _
      rw [br_f (by simp; omega)]) 0
  refine ⟨l', ?_, ?_⟩
  · have h1' : markIntSL (l, 1, 0) = some (l', 1 + 1 * (l.length : Int), (l.length : Int)) := h1
    show ob (markIntSL (l, 1, 0)) _ = _
    rw [h1', Int.one_mul]
    rfl
  · have h1' : heldIntSL (l', 1, 0, 0) = some (true, (l', 1 + 1 * (l'.length : Int), 0, (l'.length : Int))) := h4
    show ob (heldIntSL (l', 1, 0, 0)) _ = _
    rw [h1', Int.one_mul, h2]
    rfl

/-! ### Sites outside -/
theorem minP_eq (a b : Int) : minP (a, b) = some (if a < b then a else b) := by
  unfold minP
  dsimp only
  rw [br_if]
  simp only [decide_eq_true_eq]
  split <;> rfl
theorem outs_same (W H x y r e : Int) :
    decide (br (decide (H < br (decide (y < br (decide (W < x)) W x)) y (br (decide (W < x)) W x))) H (br (decide (y < br (decide (W < x)) W x)) y (br (decide (W < x)) W x)) < r + e)
      = decide ((if (if x < W then x else W) < (if y < H then y else H) then (if x < W then x else W) else (if y < H then y else H)) < r + e) := by
  simp only [br_if, decide_eq_true_eq]
  congr 1
  have : (if H < (if y < (if W < x then W else x) then y else (if W < x then W else x)) then H else (if y < (if W < x then W else x) then y else (if W < x then W else x))) = (if (if x < W then x else W) < (if y < H then y else H) then (if x < W then x else W) else (if y < H then y else H)) := by
    split <;> split <;> split <;> split <;> (try split) <;> (try split) <;> omega
  rw [this]
theorem out_both {p : PlateD} (hl : p.2.2.2.2.length ≤ 1048576) : ∃ a b, outIL (p, [], p.2.2.2.2, (p.2.2.2.2.length : Int), 0) = some a ∧ outSL (p, [], 0) = some b ∧ a.2.1 = b.2.1 ∧ a.2.1.length ≤ 1048576 := by
  obtain ⟨a, b, h1, h2, h3, h4⟩ := iterP_sim (stepA := outIL_step) (stepB := outSL_step)
    (fun a b => ∃ (o : List Int) (i : Int), a = (p, o, p.2.2.2.2, (p.2.2.2.2.length : Int), i) ∧ b = (p, o, i) ∧ (o.length : Int) ≤ i ∧ i ≤ p.2.2.2.2.length)
    (fun a b => a.2.1 = b.2.1 ∧ a.2.1.length ≤ 1048576) (fun a => ((p.2.2.2.2.length : Int) - a.2.2.2.2).toNat)
    (by
      rintro a b ⟨o, i, rfl, rfl, hi0, hi1⟩
      by_cases hi : i < p.2.2.2.2.length
      · obtain ⟨y, hy, hy2⟩ := idx_get (l := p.2.2.2.2) (i := i) (by omega) hi
        have e5 : IntKind.i64.wrap (i + 1) = i + 1 := w64 (by omega) (by omega)
        have hA : outIL_step (p, o, p.2.2.2.2, (p.2.2.2.2.length : Int), i) = br (decide (br (decide (IntKind.i64.wrap (p.2.1 - y.2.1.2) < br (decide (y.2.1.2 < br (decide (IntKind.i64.wrap (p.1 - y.2.1.1) < y.2.1.1)) (IntKind.i64.wrap (p.1 - y.2.1.1)) y.2.1.1)) y.2.1.2 (br (decide (IntKind.i64.wrap (p.1 - y.2.1.1) < y.2.1.1)) (IntKind.i64.wrap (p.1 - y.2.1.1)) y.2.1.1))) (IntKind.i64.wrap (p.2.1 - y.2.1.2)) (br (decide (y.2.1.2 < br (decide (IntKind.i64.wrap (p.1 - y.2.1.1) < y.2.1.1)) (IntKind.i64.wrap (p.1 - y.2.1.1)) y.2.1.1)) y.2.1.2 (br (decide (IntKind.i64.wrap (p.1 - y.2.1.1) < y.2.1.1)) (IntKind.i64.wrap (p.1 - y.2.1.1)) y.2.1.1)) < IntKind.i64.wrap (y.2.2.2 + p.2.2.1)))
            (some (.next, (p, o ++ [i], p.2.2.2.2, (p.2.2.2.2.length : Int), i + 1))) (some (.next, (p, o, p.2.2.2.2, (p.2.2.2.2.length : Int), i + 1))) := by
          unfold outIL_step
          dsimp only
          rw [br_t (by simpa using hi), hy, ob_s, e5]
          rw [br_t (c := decide (o.length + [i].length ≤ 4294967296)) (by simp; omega)]
        have hB : outSL_step (p, o, i) = br (decide ((if (if y.2.1.1 < IntKind.i64.wrap (p.1 - y.2.1.1) then y.2.1.1 else IntKind.i64.wrap (p.1 - y.2.1.1)) < (if y.2.1.2 < IntKind.i64.wrap (p.2.1 - y.2.1.2) then y.2.1.2 else IntKind.i64.wrap (p.2.1 - y.2.1.2)) then (if y.2.1.1 < IntKind.i64.wrap (p.1 - y.2.1.1) then y.2.1.1 else IntKind.i64.wrap (p.1 - y.2.1.1)) else (if y.2.1.2 < IntKind.i64.wrap (p.2.1 - y.2.1.2) then y.2.1.2 else IntKind.i64.wrap (p.2.1 - y.2.1.2))) < IntKind.i64.wrap (y.2.2.2 + p.2.2.1)))
            (some (.next, (p, o ++ [i], i + 1))) (some (.next, (p, o, i + 1))) := by
          unfold outSL_step
          dsimp only
          rw [br_t (by simpa using hi), hy]
          simp only [ob_s, minP_eq, e5]
          rw [br_t (c := decide (o.length + [i].length ≤ 4294967296)) (by simp; omega)]
        have key := outs_same (IntKind.i64.wrap (p.1 - y.2.1.1)) (IntKind.i64.wrap (p.2.1 - y.2.1.2)) y.2.1.1 y.2.1.2 (IntKind.i64.wrap (y.2.2.2 + p.2.2.1)) 0
        rw [Int.add_zero] at key
        rw [hA, hB, key]
        cases decide ((if (if y.2.1.1 < IntKind.i64.wrap (p.1 - y.2.1.1) then y.2.1.1 else IntKind.i64.wrap (p.1 - y.2.1.1)) < (if y.2.1.2 < IntKind.i64.wrap (p.2.1 - y.2.1.2) then y.2.1.2 else IntKind.i64.wrap (p.2.1 - y.2.1.2)) then (if y.2.1.1 < IntKind.i64.wrap (p.1 - y.2.1.1) then y.2.1.1 else IntKind.i64.wrap (p.1 - y.2.1.1)) else (if y.2.1.2 < IntKind.i64.wrap (p.2.1 - y.2.1.2) then y.2.1.2 else IntKind.i64.wrap (p.2.1 - y.2.1.2))) < IntKind.i64.wrap (y.2.2.2 + p.2.2.1)) with
        | true =>
          refine ⟨.next, _, _, rfl, rfl, fun _ => ⟨⟨o ++ [i], i + 1, rfl, rfl, ?_, by omega⟩, by dsimp only; omega⟩, fun h => (by cases h), fun h => by cases h⟩
          simp; omega
        | false =>
          exact ⟨.next, _, _, rfl, rfl, fun _ => ⟨⟨o, i + 1, rfl, rfl, by omega, by omega⟩, by dsimp only; omega⟩, fun h => (by cases h), fun h => by cases h⟩
      · refine ⟨.out, (p, o, p.2.2.2.2, (p.2.2.2.2.length : Int), i), (p, o, i), ?_, ?_, fun h => (by cases h), fun _ => ⟨rfl, by dsimp only; omega⟩, fun h => by cases h⟩
        · show br (decide (i < (p.2.2.2.2.length : Int))) _ _ = _
          rw [br_f (by simpa using hi)]
        · show br (decide (i < (p.2.2.2.2.length : Int))) _ _ = _
          rw [br_f (by simpa using hi)])
    (((p.2.2.2.2.length : Int) - 0).toNat + 1) (p.2.2.2.2.length - (0 : Int).toNat + 1) (p, [], p.2.2.2.2, (p.2.2.2.2.length : Int), 0) (p, [], 0) ⟨[], 0, rfl, rfl, by simp, by omega⟩ (by dsimp only; omega) (by dsimp only; omega)
  exact ⟨a, b, h1, h2, h3, h4⟩
theorem outI_S {p : PlateD} (hl : p.2.2.2.2.length ≤ 1048576) : ∃ v, outI p = some v ∧ outS p = some v ∧ v.1.length ≤ 1048576 := by
  have e1 : validPlateI (p.1, p.2.1, p.2.2.1, p.2.2.2.1, p.2.2.2.2) = some (plateOk p) := validPlateI_eq p
  have e2 : okPlateS (p.1, p.2.1, p.2.2.1, p.2.2.2.1, p.2.2.2.2) = some (plateOk p) := okPlateS_eq p
  obtain ⟨a, b, h1, h2, h3, h4⟩ := out_both hl
  have h1' : outIL ((p.1, p.2.1, p.2.2.1, p.2.2.2.1, p.2.2.2.2), [], p.2.2.2.2, (p.2.2.2.2.length : Int), 0) = some a := h1
  have h2' : outSL ((p.1, p.2.1, p.2.2.1, p.2.2.2.1, p.2.2.2.2), [], 0) = some b := h2
  unfold outI outS
  simp only [e1, e2, ob_s, h1', h2']
  cases plateOk p with
  | false => exact ⟨([], 1), rfl, rfl, by simp⟩
  | true => exact ⟨(a.2.1, 0), rfl, by rw [h3]; rfl, h4⟩
theorem lawOut_holds (p : PlateD) (hw : WfAll [PlateT] p) : lawOut p = some true := by
  have hp : Wf PlateT p := hw
  unfold lawOut
  rcases szPlateL_cases hp (k := 1048576) (by omega) (by omega) with e | ⟨k, e, l1, k0, k1⟩
  · have e' : szPlateL ((p.1, p.2.1, p.2.2.1, p.2.2.2.1, p.2.2.2.2), 1048576) = some (-1) := e
    rw [e']; rfl
  · have e' : szPlateL ((p.1, p.2.1, p.2.2.1, p.2.2.2.1, p.2.2.2.2), 1048576) = some k := e
    have ep : toPlateR (p.1, p.2.1, p.2.2.1, p.2.2.2.1, p.2.2.2.2) = some p := toPlateR_eq l1
    obtain ⟨v, h1, h2, h3⟩ := outI_S l1
    have h1' : outI (p.1, p.2.1, p.2.2.1, p.2.2.2.1, p.2.2.2.2) = some v := h1
    have h2' : outS (p.1, p.2.1, p.2.2.1, p.2.2.2.1, p.2.2.2.2) = some v := h2
    have e3 : eqPlateL ((p.1, p.2.1, p.2.2.1, p.2.2.2.1, p.2.2.2.2), (p.1, p.2.1, p.2.2.1, p.2.2.2.1, p.2.2.2.2)) = some true := eqPlateL_self l1
    obtain ⟨lp, m1, _⟩ := markPlate_out l1
    have m1' : markPlate ((p.1, p.2.1, p.2.2.1, p.2.2.2.1, p.2.2.2.2), 1) = _ := m1
    obtain ⟨lm, m2, m3⟩ := markIntS_out h3
    rw [e', ob_s, br_f (by simpa using k0)]
    simp only [ep, h1', h2', e3, m1', m2, m3, ob_s, eqIntS_self (l := v.1) (by omega), Bool.not_true, bne_self_eq_false,
      show decide (1 + 5 * (p.2.2.2.2.length : Int) < 0) = false by simp; omega, show decide (1 + (v.1.length : Int) < 0) = false by simp; omega, br]

/-! ### Turned -/
theorem cloneS_eq {l : List SiteD} (h : l.length ≤ 4294967296) : cloneS l = some l := by
  show br false (some []) (br (decide (0 + l.length ≤ 4294967296)) (some ([] ++ l)) none) = _
  rw [br_f rfl, br_t (by simpa using h)]; rfl
def mirF (p : PlateD) (y : SiteD) : SiteD := (y.1, (IntKind.i64.wrap (p.1 - y.2.1.1), y.2.1.2), y.2.2.1, y.2.2.2)
def turnF (p : PlateD) (y : SiteD) : SiteD := (y.1, (IntKind.i64.wrap (p.2.1 - y.2.1.2), y.2.1.1), y.2.2.1, y.2.2.2)
theorem mirIL_eq {p : PlateD} (h : p.2.2.2.2.length ≤ 1048576) : mirIL (p, (0, 0, 0, 0, []), (p.2.2.2.2.length : Int), 0) = some ((p.1, p.2.1, p.2.2.1, p.2.2.2.1, p.2.2.2.2.map (mirF p)), (0, 0, 0, 0, []), (p.2.2.2.2.length : Int), (p.2.2.2.2.length : Int)) :=
  map_loop (step := mirIL_step) (l := p.2.2.2.2) (f := mirF p) (fun o i => ((p.1, p.2.1, p.2.2.1, p.2.2.2.1, o), (0, 0, 0, 0, []), (p.2.2.2.2.length : Int), i))
    (fun o i y ho h0 h1 _ hy2 hy => by
      have e5 : IntKind.i64.wrap (i + 1) = i + 1 := w64 (by omega) (by omega)
      unfold mirIL_step
      simp only [gi]
      rw [br_t (by simpa using h1)]
      simp only [hy, hy2, ob_s, e5]
      rfl)
    (fun o ho => by
      show br (decide ((p.2.2.2.2.length : Int) < (p.2.2.2.2.length : Int))) _ _ = _
      rw [br_f (by simp)]) (n := ((p.2.2.2.2.length : Int) - 0).toNat + 1) (by omega)
theorem turnIL_eq {p : PlateD} (h : p.2.2.2.2.length ≤ 1048576) : turnIL (p, (0, 0, 0, 0, []), PUnit.unit, (p.2.2.2.2.length : Int), 0) = some ((p.1, p.2.1, p.2.2.1, p.2.2.2.1, p.2.2.2.2.map (turnF p)), (0, 0, 0, 0, []), PUnit.unit, (p.2.2.2.2.length : Int), (p.2.2.2.2.length : Int)) :=
  map_loop (step := turnIL_step) (l := p.2.2.2.2) (f := turnF p) (fun o i => ((p.1, p.2.1, p.2.2.1, p.2.2.2.1, o), (0, 0, 0, 0, []), PUnit.unit, (p.2.2.2.2.length : Int), i))
    (fun o i y ho h0 h1 _ hy2 hy => by
      have e5 : IntKind.i64.wrap (i + 1) = i + 1 := w64 (by omega) (by omega)
      unfold turnIL_step
      simp only [gi]
      rw [br_t (by simpa using h1)]
      simp only [hy, hy2, ob_s, e5]
      rfl)
    (fun o ho => by
      show br (decide ((p.2.2.2.2.length : Int) < (p.2.2.2.2.length : Int))) _ _ = _
      rw [br_f (by simp)]) (n := ((p.2.2.2.2.length : Int) - 0).toNat + 1) (by omega)
theorem movSL_eq {p : PlateD} {w h u v : Int} (hl : p.2.2.2.2.length ≤ 1048576) {n : Int} {f : SiteD → SiteD} (hf : (n = 1 ∧ f = mirF p) ∨ (n = 2 ∧ f = turnF p)) :
    movSL (n, p, (0, 0, 0, 0, []), (w, h, u, v, []), 0) = some (n, p, (0, 0, 0, 0, []), (w, h, u, v, p.2.2.2.2.map f), (p.2.2.2.2.length : Int)) := by
  obtain ⟨h1, _⟩ := fold_loop (step := movSL_step) (l := p.2.2.2.2) (fun i (a : List SiteD) => (n, p, (0, 0, 0, 0, []), (w, h, u, v, a), i)) (fun a y => a ++ [f y]) (fun i a => (a.length : Int) = i) (fun a => (n, p, (0, 0, 0, 0, []), (w, h, u, v, a), (p.2.2.2.2.length : Int)))
    (fun i a y h0 h1 hy hJ => by
      have e5 : IntKind.i64.wrap (i + 1) = i + 1 := w64 (by omega) (by omega)
      refine ⟨?_, by simp; omega⟩
      unfold movSL_step
      dsimp only
      rw [br_t (by simpa using h1), hy, ob_s, e5]
      rcases hf with ⟨rfl, rfl⟩ | ⟨rfl, rfl⟩
      · rw [br_t (c := (1 : Int) == 1) rfl, br_t (by simp; omega)]
        rfl
      · rw [br_f (c := (2 : Int) == 1) rfl, br_t (c := (2 : Int) == 2) rfl, br_t (by simp; omega)]
        rfl)
    (fun a hJ => by
      show br (decide ((p.2.2.2.2.length : Int) < (p.2.2.2.2.length : Int))) _ _ = _
      rw [br_f (by simp)]) (n := p.2.2.2.2.length - (0 : Int).toNat + 1) (by omega) (a0 := []) rfl
  rw [foldl_append, List.nil_append] at h1
  exact h1
theorem mir_both {p : PlateD} (hl : p.2.2.2.2.length ≤ 1048576) : ∃ v, mirI p = some v ∧ mirS p = some v ∧ v.1.2.2.2.2.length ≤ 1048576 := by
  have e1 : validPlateI (p.1, p.2.1, p.2.2.1, p.2.2.2.1, p.2.2.2.2) = some (plateOk p) := validPlateI_eq p
  have e2 : okPlateS (p.1, p.2.1, p.2.2.1, p.2.2.2.1, p.2.2.2.2) = some (plateOk p) := okPlateS_eq p
  have h1 : mirIL ((p.1, p.2.1, p.2.2.1, p.2.2.2.1, p.2.2.2.2), (0, 0, 0, 0, []), (p.2.2.2.2.length : Int), 0) = _ := mirIL_eq hl
  have h2 : movSL (1, (p.1, p.2.1, p.2.2.1, p.2.2.2.1, p.2.2.2.2), (0, 0, 0, 0, []), (p.1, p.2.1, p.2.2.1, p.2.2.2.1, []), 0) = _ := movSL_eq (p := p) hl (.inl ⟨rfl, rfl⟩)
  have h3 : movS ((p.1, p.2.1, p.2.2.1, p.2.2.2.1, p.2.2.2.2), 1) = some (p.1, p.2.1, p.2.2.1, p.2.2.2.1, p.2.2.2.2.map (mirF p)) := by
    unfold movS
    dsimp only
    rw [br_f (c := (1 : Int) == 2) rfl, h2]; rfl
  unfold mirI mirS
  simp only [e1, e2, ob_s, h3, cloneS_eq (l := p.2.2.2.2) (by omega), h1]
  cases plateOk p with
  | false => exact ⟨((0, 0, 0, 0, []), 1), rfl, rfl, by simp⟩
  | true => exact ⟨((p.1, p.2.1, p.2.2.1, p.2.2.2.1, p.2.2.2.2.map (mirF p)), 0), rfl, rfl, by simpa using hl⟩
theorem turn_both {p : PlateD} (hl : p.2.2.2.2.length ≤ 1048576) : ∃ v, turnPI p = some v ∧ turnPS p = some v ∧ v.1.2.2.2.2.length ≤ 1048576 := by
  have e1 : validPlateI (p.1, p.2.1, p.2.2.1, p.2.2.2.1, p.2.2.2.2) = some (plateOk p) := validPlateI_eq p
  have e2 : okPlateS (p.1, p.2.1, p.2.2.1, p.2.2.2.1, p.2.2.2.2) = some (plateOk p) := okPlateS_eq p
  have h1 : turnIL ((p.1, p.2.1, p.2.2.1, p.2.2.2.1, p.2.2.2.2), (0, 0, 0, 0, []), PUnit.unit, (p.2.2.2.2.length : Int), 0) = _ := turnIL_eq hl
  have h2 : movSL (2, (p.1, p.2.1, p.2.2.1, p.2.2.2.1, p.2.2.2.2), (0, 0, 0, 0, []), (p.2.1, p.1, p.2.2.1, p.2.2.2.1, []), 0) = _ := movSL_eq (p := p) hl (.inr ⟨rfl, rfl⟩)
  have h3 : movS ((p.1, p.2.1, p.2.2.1, p.2.2.2.1, p.2.2.2.2), 2) = some (p.2.1, p.1, p.2.2.1, p.2.2.2.1, p.2.2.2.2.map (turnF p)) := by
    unfold movS
    dsimp only
    rw [br_t (c := (2 : Int) == 2) rfl, h2]; rfl
  unfold turnPI turnPS
  simp only [e1, e2, ob_s, h3, cloneS_eq (l := p.2.2.2.2) (by omega), h1]
  cases plateOk p with
  | false => exact ⟨((0, 0, 0, 0, []), 1), rfl, rfl, by simp⟩
  | true => exact ⟨((p.2.1, p.1, p.2.2.1, p.2.2.2.1, p.2.2.2.2.map (turnF p)), 0), rfl, rfl, by simpa using hl⟩
theorem lawMir_holds (p : PlateD) (hw : WfAll [PlateT] p) : lawMir p = some true := by
  have hp : Wf PlateT p := hw
  unfold lawMir
  rcases szPlateL_cases hp (k := 1048576) (by omega) (by omega) with e | ⟨k, e, l1, k0, k1⟩
  · have e' : szPlateL ((p.1, p.2.1, p.2.2.1, p.2.2.2.1, p.2.2.2.2), 1048576) = some (-1) := e
    rw [e']; rfl
  · have e' : szPlateL ((p.1, p.2.1, p.2.2.1, p.2.2.2.1, p.2.2.2.2), 1048576) = some k := e
    have ep : toPlateR (p.1, p.2.1, p.2.2.1, p.2.2.2.1, p.2.2.2.2) = some p := toPlateR_eq l1
    obtain ⟨v, h1, h2, h3⟩ := mir_both l1
    have h1' : mirI (p.1, p.2.1, p.2.2.1, p.2.2.2.1, p.2.2.2.2) = some v := h1
    have h2' : mirS (p.1, p.2.1, p.2.2.1, p.2.2.2.1, p.2.2.2.2) = some v := h2
    have e3 : eqPlateL ((p.1, p.2.1, p.2.2.1, p.2.2.2.1, p.2.2.2.2), (p.1, p.2.1, p.2.2.1, p.2.2.2.1, p.2.2.2.2)) = some true := eqPlateL_self l1
    have e4 : eqPlateL ((v.1.1, v.1.2.1, v.1.2.2.1, v.1.2.2.2.1, v.1.2.2.2.2), (v.1.1, v.1.2.1, v.1.2.2.1, v.1.2.2.2.1, v.1.2.2.2.2)) = some true := eqPlateL_self h3
    obtain ⟨lp, m1, _⟩ := markPlate_out l1
    have m1' : markPlate ((p.1, p.2.1, p.2.2.1, p.2.2.2.1, p.2.2.2.2), 1) = _ := m1
    obtain ⟨lm, m2, m3⟩ := markPlate_out h3
    have m2' : markPlate ((v.1.1, v.1.2.1, v.1.2.2.1, v.1.2.2.2.1, v.1.2.2.2.2), 1) = _ := m2
    rw [e', ob_s, br_f (by simpa using k0)]
    simp only [ep, h1', h2', e3, e4, m1', m2', m3, ob_s, Bool.not_true, bne_self_eq_false,
      show decide (1 + 5 * (p.2.2.2.2.length : Int) < 0) = false by simp; omega, show decide (1 + 5 * (v.1.2.2.2.2.length : Int) < 0) = false by simp; omega, br]
theorem lawTurn_holds (p : PlateD) (hw : WfAll [PlateT] p) : lawTurn p = some true := by
  have hp : Wf PlateT p := hw
  unfold lawTurn
  rcases szPlateL_cases hp (k := 1048576) (by omega) (by omega) with e | ⟨k, e, l1, k0, k1⟩
  · have e' : szPlateL ((p.1, p.2.1, p.2.2.1, p.2.2.2.1, p.2.2.2.2), 1048576) = some (-1) := e
    rw [e']; rfl
  · have e' : szPlateL ((p.1, p.2.1, p.2.2.1, p.2.2.2.1, p.2.2.2.2), 1048576) = some k := e
    have ep : toPlateR (p.1, p.2.1, p.2.2.1, p.2.2.2.1, p.2.2.2.2) = some p := toPlateR_eq l1
    obtain ⟨v, h1, h2, h3⟩ := turn_both l1
    have h1' : turnPI (p.1, p.2.1, p.2.2.1, p.2.2.2.1, p.2.2.2.2) = some v := h1
    have h2' : turnPS (p.1, p.2.1, p.2.2.1, p.2.2.2.1, p.2.2.2.2) = some v := h2
    have e3 : eqPlateL ((p.1, p.2.1, p.2.2.1, p.2.2.2.1, p.2.2.2.2), (p.1, p.2.1, p.2.2.1, p.2.2.2.1, p.2.2.2.2)) = some true := eqPlateL_self l1
    have e4 : eqPlateL ((v.1.1, v.1.2.1, v.1.2.2.1, v.1.2.2.2.1, v.1.2.2.2.2), (v.1.1, v.1.2.1, v.1.2.2.1, v.1.2.2.2.1, v.1.2.2.2.2)) = some true := eqPlateL_self h3
    obtain ⟨lp, m1, _⟩ := markPlate_out l1
    have m1' : markPlate ((p.1, p.2.1, p.2.2.1, p.2.2.2.1, p.2.2.2.2), 1) = _ := m1
    obtain ⟨lm, m2, m3⟩ := markPlate_out h3
    have m2' : markPlate ((v.1.1, v.1.2.1, v.1.2.2.1, v.1.2.2.2.1, v.1.2.2.2.2), 1) = _ := m2
    rw [e', ob_s, br_f (by simpa using k0)]
    simp only [ep, h1', h2', e3, e4, m1', m2', m3, ob_s, Bool.not_true, bne_self_eq_false,
      show decide (1 + 5 * (p.2.2.2.2.length : Int) < 0) = false by simp; omega, show decide (1 + 5 * (v.1.2.2.2.2.length : Int) < 0) = false by simp; omega, br]
end Rx
end Go.Proofs.Ytblonadjjbmmnaa
