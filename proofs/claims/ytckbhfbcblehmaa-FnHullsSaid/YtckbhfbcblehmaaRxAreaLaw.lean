/- The area of a hull: both programs, the turned plate, the laws. No program in sight. -/
import Derived.Test.YtckbhfbcblehmaaRxHullLaw
import Derived.Test.YtckbhfbcblehmaaRxFnPlatesLaw
namespace Go.Proofs.Ytckbhfbcblehmaa
namespace Rx
open Go Hull

section
variable {q : List (Int × Int)} {s m : Nat}
theorem in4_way (hbd : Bd q) (hB : Begin (pt q) q.length s) (k : Nat) : In4 (pt q (way (pt q) q.length s k)) := hbd _ (way_lt hB k)
theorem xx_bd' (hbd : Bd q) (hB : Begin (pt q) q.length s) (k : Nat) : -200000000 ≤ xx (pt q (way (pt q) q.length s k)) (pt q (way (pt q) q.length s (k + 1))) ∧ xx (pt q (way (pt q) q.length s k)) (pt q (way (pt q) q.length s (k + 1))) ≤ 200000000 := by
  have := xx_bd (in4_way hbd hB k) (in4_way hbd hB (k + 1))
  omega
theorem crs_bd' (hbd : Bd q) (hB : Begin (pt q) q.length s) (k : Nat) : -200000000 ≤ crs (pt q (way (pt q) q.length s 0)) (pt q (way (pt q) q.length s (k + 1))) (pt q (way (pt q) q.length s (k + 2))) ∧ crs (pt q (way (pt q) q.length s 0)) (pt q (way (pt q) q.length s (k + 1))) (pt q (way (pt q) q.length s (k + 2))) ≤ 200000000 :=
  (crs_bd (in4_way hbd hB 0) (in4_way hbd hB (k + 1)) (in4_way hbd hB (k + 2))).1
theorem wayL_mod (hH : HullOf q s m) (j : Nat) : idx (wayL q s m) (((j : Nat) : Int).tmod (m : Int)) = some ((way (pt q) q.length s j : Nat) : Int) := by
  have hm := hH.r.pos
  have e : ((j : Nat) : Int).tmod (m : Int) = ((j % m : Nat) : Int) := by
    rw [Int.tmod_eq_emod_of_nonneg (by omega)]; omega
  rw [e, wayL_get q s m (Nat.mod_lt _ (by omega)), way_mod hH.r.back (by omega)]
theorem site_way {l : List SiteD} (hB : Begin (pt (ptsOf l)) (ptsOf l).length s) (k : Nat) : ∃ y, idx l ((way (pt (ptsOf l)) (ptsOf l).length s k : Nat) : Int) = some y ∧ y.2.1 = pt (ptsOf l) (way (pt (ptsOf l)) (ptsOf l).length s k) ∧ l[way (pt (ptsOf l)) (ptsOf l).length s k]? = some y := by
  have h := way_lt hB k
  have h : way (pt (ptsOf l)) (ptsOf l).length s k < l.length := by simpa using h
  obtain ⟨y, h1, h2⟩ := idx_get (l := l) (i := ((way (pt (ptsOf l)) (ptsOf l).length s k : Nat) : Int)) (by omega) (by omega)
  rw [Int.toNat_natCast] at h2
  exact ⟨y, h1, (pts_get h2).symm, h2⟩
end
theorem ob_some' {α β : Type} {a : α} {x : Option α} {f : α → Option β} (h : x = some a) : ob x f = f a := by rw [h]; rfl

/-! ### Both areas -/
theorem areaIL_eq {p : PlateD} (hl : p.2.2.2.2.length ≤ 1000) (hbd : Bd (ptsOf p.2.2.2.2)) {s m : Nat} (hH : HullOf (ptsOf p.2.2.2.2) s m) :
    areaIL (p, wayL (ptsOf p.2.2.2.2) s m, 0, wayL (ptsOf p.2.2.2.2) s m, (m : Int), 0) = some (p, wayL (ptsOf p.2.2.2.2) s m, areaOf (pt (ptsOf p.2.2.2.2)) (ptsOf p.2.2.2.2).length s m, wayL (ptsOf p.2.2.2.2) s m, (m : Int), (m : Int)) := by
  have hm := hH.r.pos
  have hml := hH.r.le
  have hlen : (ptsOf p.2.2.2.2).length = p.2.2.2.2.length := by simp
  generalize hG : (fun k => xx (pt (ptsOf p.2.2.2.2) (way (pt (ptsOf p.2.2.2.2)) (ptsOf p.2.2.2.2).length s k)) (pt (ptsOf p.2.2.2.2) (way (pt (ptsOf p.2.2.2.2)) (ptsOf p.2.2.2.2).length s (k + 1)))) = G
  have hGk : ∀ k, xx (pt (ptsOf p.2.2.2.2) (way (pt (ptsOf p.2.2.2.2)) (ptsOf p.2.2.2.2).length s k)) (pt (ptsOf p.2.2.2.2) (way (pt (ptsOf p.2.2.2.2)) (ptsOf p.2.2.2.2).length s (k + 1))) = G k := fun k => by rw [← hG]
  have hbd2 : ∀ k, -200000000 ≤ G k ∧ G k ≤ 200000000 := fun k => by rw [← hGk]; exact xx_bd' hbd hH.b k
  have hA : areaOf (pt (ptsOf p.2.2.2.2)) (ptsOf p.2.2.2.2).length s m = sumF G m := by unfold areaOf; rw [← hG]
  rw [hA]
  obtain ⟨s', e, k1⟩ := iterP_end (step := areaIL_step) (fun x => ∃ k : Nat, x = (p, wayL (ptsOf p.2.2.2.2) s m, sumF G k, wayL (ptsOf p.2.2.2.2) s m, (m : Int), (k : Int)) ∧ k ≤ m) (fun x => x = (p, wayL (ptsOf p.2.2.2.2) s m, sumF G m, wayL (ptsOf p.2.2.2.2) s m, (m : Int), (m : Int)))
    (fun x => (m - x.2.2.2.2.2.toNat)) (by
      rintro x ⟨k, rfl, hk⟩
      by_cases hkl : k < m
      · have e5 : IntKind.i64.wrap ((k : Int) + 1) = ((k + 1 : Nat) : Int) := by rw [w64 (by omega) (by omega)]; omega
        obtain ⟨y, y1, y2, _⟩ := site_way hH.b k
        obtain ⟨z, z1, z2, _⟩ := site_way hH.b (k + 1)
        have ba := in4_way hbd hH.b k
        have bb := in4_way hbd hH.b (k + 1)
        rw [← y2] at ba
        rw [← z2] at bb
        obtain ⟨x1, x2, x3, x4⟩ := xx_bd ba bb
        have hb := sumF_bd hbd2 k
        have hg : xx y.2.1 z.2.1 = G k := by rw [y2, z2, hGk]
        have hstep : areaIL_step (p, wayL (ptsOf p.2.2.2.2) s m, sumF G k, wayL (ptsOf p.2.2.2.2) s m, (m : Int), (k : Int)) = some (.next, p, wayL (ptsOf p.2.2.2.2) s m, sumF G (k + 1), wayL (ptsOf p.2.2.2.2) s m, (m : Int), ((k + 1 : Nat) : Int)) := by
          unfold areaIL_step
          dsimp only
          rw [br_t (by simp; omega), ob_some' (wayL_get _ s m hkl), ob_some' y1, br_f (by rw [wayL_len]; simp; omega), wayL_len, e5, ob_some' (wayL_mod hH (k + 1)), ob_some' z1]
          rw [w64 (x := y.2.1.1 * z.2.1.2) (by omega) (by omega), w64 (x := y.2.1.2 * z.2.1.1) (by omega) (by omega)]
          have e6 : y.2.1.1 * z.2.1.2 - y.2.1.2 * z.2.1.1 = G k := by rw [← hg]; rfl
          rw [e6, w64 (x := G k) (by have := hbd2 k; omega) (by have := hbd2 k; omega), w64 (by have := hbd2 k; omega) (by have := hbd2 k; omega)]
          rfl
        exact ⟨.next, _, hstep, fun _ => ⟨⟨k + 1, rfl, by omega⟩, by simp only [Int.toNat_natCast]; omega⟩, fun h => (by cases h), fun h => (by cases h)⟩
      · have : k = m := by omega
        subst this
        refine ⟨.out, _, ?_, fun h => (by cases h), fun _ => rfl, fun h => (by cases h)⟩
        show br (decide ((k : Int) < (k : Int))) _ _ = _
        rw [br_f (by simp)])
    (areaIL_fuel (p, wayL (ptsOf p.2.2.2.2) s m, 0, wayL (ptsOf p.2.2.2.2) s m, (m : Int), 0)) (p, wayL (ptsOf p.2.2.2.2) s m, 0, wayL (ptsOf p.2.2.2.2) s m, (m : Int), 0) ⟨0, rfl, by omega⟩ (by simp [areaIL_fuel])
  subst k1
  exact e
theorem areaSL_eq {q : List (Int × Int)} (hl : q.length ≤ 1000) (hbd : Bd q) {s m : Nat} (hH : HullOf q s m) : ∃ i, areaSL (q, wayL q s m, 0, 1) = some (q, wayL q s m, areaOf (pt q) q.length s m, i) := by
  have hm := hH.r.pos
  have hml := hH.r.le
  generalize hG : (fun k => crs (pt q (way (pt q) q.length s 0)) (pt q (way (pt q) q.length s (k + 1))) (pt q (way (pt q) q.length s (k + 2)))) = G
  have hGk : ∀ k, crs (pt q (way (pt q) q.length s 0)) (pt q (way (pt q) q.length s (k + 1))) (pt q (way (pt q) q.length s (k + 2))) = G k := fun k => by rw [← hG]
  have hbd2 : ∀ k, -200000000 ≤ G k ∧ G k ≤ 200000000 := fun k => by rw [← hGk]; exact crs_bd' hbd hH.b k
  have hA : areaOf (pt q) q.length s m = sumF G (m - 2) := by
    rcases Nat.lt_or_ge 1 m with h | h
    · have := fan_eq (fun k => pt q (way (pt q) q.length s k)) (m := m) (by omega) (by show pt q _ = pt q _; rw [hH.r.back]; rfl)
      rw [← hG]
      exact this.symm
    · have e1 : m = 1 := by omega
      subst e1
      show sumF _ 1 = 0
      simp only [sumF, Nat.zero_add]
      rw [hH.r.back]
      show 0 + xx (pt q s) (pt q s) = 0
      rw [xx_self]; rfl
  rw [hA]
  obtain ⟨s', e, i, k1⟩ := iterP_end (step := areaSL_step) (fun x => ∃ k : Nat, x = (q, wayL q s m, sumF G k, ((k + 1 : Nat) : Int)) ∧ (k = 0 ∨ k + 2 ≤ m)) (fun x => ∃ i, x = (q, wayL q s m, sumF G (m - 2), i))
    (fun x => (m - x.2.2.2.toNat)) (by
      rintro x ⟨k, rfl, hk⟩
      have e5 : IntKind.i64.wrap (((k + 1 : Nat) : Int) + 1) = ((k + 2 : Nat) : Int) := by rw [w64 (by omega) (by omega)]; omega
      by_cases hkl : k + 2 < m
      · have y0 := pt_idx (way_lt hH.b 0)
        have y1 := pt_idx (way_lt hH.b (k + 1))
        have y2 := pt_idx (way_lt hH.b (k + 2))
        have hb := sumF_bd hbd2 k
        have c1 := crossS_eq (in4_way hbd hH.b 0) (in4_way hbd hH.b (k + 1)) (in4_way hbd hH.b (k + 2))
        rw [hGk] at c1
        have g0 : idx (wayL q s m) (0 : Int) = _ := wayL_get q s m (k := 0) (by omega)
        have hstep : areaSL_step (q, wayL q s m, sumF G k, ((k + 1 : Nat) : Int)) = some (.next, q, wayL q s m, sumF G (k + 1), ((k + 2 : Nat) : Int)) := by
          unfold areaSL_step
          dsimp only
          rw [e5, br_t (by rw [wayL_len]; simp; omega), ob_some' g0, ob_some' y0, ob_some' (wayL_get q s m (show k + 1 < m by omega)), ob_some' y1, ob_some' (wayL_get q s m hkl), ob_some' y2, ob_some' c1, w64 (by have := hbd2 k; omega) (by have := hbd2 k; omega)]
          rfl
        exact ⟨.next, _, hstep, fun _ => ⟨⟨k + 1, rfl, .inr (by omega)⟩, by simp only [Int.toNat_natCast]; omega⟩, fun h => (by cases h), fun h => (by cases h)⟩
      · have hkm : k = m - 2 := by omega
        refine ⟨.out, (q, wayL q s m, sumF G k, ((k + 1 : Nat) : Int)), ?_, fun h => (by cases h), fun _ => ⟨_, by rw [hkm]⟩, fun h => (by cases h)⟩
        unfold areaSL_step
        dsimp only
        rw [e5, br_f (by rw [wayL_len]; simp; omega)])
    (areaSL_fuel (q, wayL q s m, 0, 1)) (q, wayL q s m, 0, 1) ⟨0, rfl, .inl rfl⟩ (by simp only [areaSL_fuel, wayL_len]; omega)
  subst k1
  exact ⟨i, e⟩
theorem pointsS_eq {p : PlateD} (hl : p.2.2.2.2.length ≤ 1048576) : pointsS p = some (ptsOf p.2.2.2.2) := by
  have h := fold_loop (step := pointsSL_step) (l := p.2.2.2.2) (fun i (a : List (Int × Int)) => (p, a, i)) (fun a y => a ++ [y.2.1]) (fun i a => (a.length : Int) ≤ i) (fun a => (p, a, (p.2.2.2.2.length : Int)))
    (fun i a y h0 h1 hy hJ => by
      have e5 : IntKind.i64.wrap (i + 1) = i + 1 := w64 (by omega) (by omega)
      refine ⟨?_, by simp; omega⟩
      unfold pointsSL_step
      dsimp only
      rw [br_t (by simpa using h1), hy]
      simp only [ob_s, e5]
      rw [br_t (by simp; omega)])
    (fun a _ => by
      show br (decide ((p.2.2.2.2.length : Int) < (p.2.2.2.2.length : Int))) _ _ = _
      rw [br_f (by simp)]) (n := p.2.2.2.2.length - (0 : Int).toNat + 1) (by omega) (a0 := []) (by simp)
  have h2 : pointsSL (p, [], 0) = _ := h.1
  rw [foldl_append] at h2
  unfold pointsS
  rw [ob_some' (show pointsSL ((p.1, p.2.1, p.2.2.1, p.2.2.2.1, p.2.2.2.2), [], (0 : Int)) = _ from h2)]
  rfl
theorem bd_ok {p : PlateD} (hp : plateOk p = true) : Bd (ptsOf p.2.2.2.2) := by
  intro i hi
  obtain ⟨p1, p2, p3, p4, p5⟩ := plate_bd hp
  have hi : i < p.2.2.2.2.length := by simpa using hi
  have hy := List.getElem?_eq_getElem hi
  rw [pts_get hy]
  obtain ⟨b1, b2, _⟩ := site_bd hp hy
  exact ⟨by omega, by omega⟩
/-- What the hull of a plate comes to. -/
structure HullP (p : PlateD) (h : List Int) (A : Int) : Prop where
  i : hullI p.2.2.2.2 = some h
  s : hullS (ptsOf p.2.2.2.2) = some h
  aI : areaI p = some (A, 0)
  aS : areaS p = some (A, 0)
  how : (p.2.2.2.2 = [] ∧ h = [] ∧ A = 0) ∨ ∃ s m, HullOf (ptsOf p.2.2.2.2) s m ∧ h = wayL (ptsOf p.2.2.2.2) s m ∧ A = areaOf (pt (ptsOf p.2.2.2.2)) (ptsOf p.2.2.2.2).length s m
theorem hull_all {p : PlateD} (hp : plateOk p = true) : ∃ h A, HullP p h A := by
  obtain ⟨p1, p2, p3, p4, p5⟩ := plate_bd hp
  have hbd := bd_ok hp
  have hlen : (ptsOf p.2.2.2.2).length = p.2.2.2.2.length := by simp
  have v1 : validPlateI (p.1, p.2.1, p.2.2.1, p.2.2.2.1, p.2.2.2.2) = some true := by have := validPlateI_eq p; rw [hp] at this; exact this
  have v2 : okPlateS (p.1, p.2.1, p.2.2.1, p.2.2.2.1, p.2.2.2.2) = some true := by have := okPlateS_eq p; rw [hp] at this; exact this
  have v3 : pointsS (p.1, p.2.1, p.2.2.1, p.2.2.2.1, p.2.2.2.2) = _ := pointsS_eq (p := p) (by omega)
  rcases hullI_eq (l := p.2.2.2.2) (by omega) hbd with ⟨e0, e1⟩ | ⟨s, m, hH, e1⟩
  · have e2 : hullS (ptsOf p.2.2.2.2) = some [] := by rw [e0]; rfl
    refine ⟨[], 0, e1, e2, ?_, ?_, .inl ⟨e0, rfl, rfl⟩⟩
    · unfold areaI
      rw [ob_some' v1, br_f (c := !true) rfl, ob_some' e1, ob_some' (a := (p, [], 0, [], 0, 0)) (show areaIL ((p.1, p.2.1, p.2.2.1, p.2.2.2.1, p.2.2.2.2), ([] : List Int), (0 : Int), ([] : List Int), (([] : List Int).length : Int), (0 : Int)) = _ from rfl)]
    · unfold areaS
      rw [ob_some' v2, br_f (c := !true) rfl, ob_some' v3, ob_some' e2, ob_some' (a := (ptsOf p.2.2.2.2, [], 0, 1)) (show areaSL (ptsOf p.2.2.2.2, ([] : List Int), (0 : Int), (1 : Int)) = _ from rfl)]
  · have e2 := hullS_eq (by omega) hbd hH
    refine ⟨_, _, e1, e2, ?_, ?_, .inr ⟨s, m, hH, rfl, rfl⟩⟩
    · have a1 : areaIL ((p.1, p.2.1, p.2.2.1, p.2.2.2.1, p.2.2.2.2), wayL (ptsOf p.2.2.2.2) s m, (0 : Int), wayL (ptsOf p.2.2.2.2) s m, ((wayL (ptsOf p.2.2.2.2) s m).length : Int), (0 : Int)) = some (p, wayL (ptsOf p.2.2.2.2) s m, areaOf (pt (ptsOf p.2.2.2.2)) (ptsOf p.2.2.2.2).length s m, wayL (ptsOf p.2.2.2.2) s m, (m : Int), (m : Int)) := by rw [wayL_len]; exact areaIL_eq (by omega) hbd hH
      unfold areaI
      rw [ob_some' v1, br_f (c := !true) rfl, ob_some' e1, ob_some' a1]
    · obtain ⟨i, a1⟩ := areaSL_eq (by omega) hbd hH
      unfold areaS
      rw [ob_some' v2, br_f (c := !true) rfl, ob_some' v3, ob_some' e2, ob_some' a1]
theorem area_bad {p : PlateD} (hp : plateOk p = false) : areaI p = some (0, 1) ∧ areaS p = some (0, 1) := by
  have v1 : validPlateI (p.1, p.2.1, p.2.2.1, p.2.2.2.1, p.2.2.2.2) = some false := by have := validPlateI_eq p; rw [hp] at this; exact this
  have v2 : okPlateS (p.1, p.2.1, p.2.2.1, p.2.2.2.1, p.2.2.2.2) = some false := by have := okPlateS_eq p; rw [hp] at this; exact this
  constructor
  · unfold areaI
    rw [ob_some' v1]; rfl
  · unfold areaS
    rw [ob_some' v2]; rfl
theorem area_both (p : PlateD) : ∃ v, areaI p = some v ∧ areaS p = some v := by
  cases hp : plateOk p with
  | false => exact ⟨_, area_bad hp⟩
  | true =>
    obtain ⟨h, A, hH⟩ := hull_all hp
    exact ⟨_, hH.aI, hH.aS⟩
theorem lawArea_holds (x : PlateD) (hw : Wf PlateT x) : lawArea x = some true := by
  have hz : szPlateL (x, 1048576) = some (-1) ∨ ∃ r, szPlateL (x, 1048576) = some r ∧ x.2.2.2.2.length ≤ 1048576 ∧ 0 ≤ r ∧ r ≤ 1048576 := szPlateL_cases hw (by decide) (by decide)
  unfold lawArea
  rcases hz with h | ⟨r, h, hl, h0, h1⟩
  · rw [ob_some' (show szPlateL ((x.1, x.2.1, x.2.2.1, x.2.2.2.1, x.2.2.2.2), (1048576 : Int)) = _ from h)]
    rfl
  · rw [ob_some' (show szPlateL ((x.1, x.2.1, x.2.2.1, x.2.2.2.1, x.2.2.2.2), (1048576 : Int)) = _ from h), br_f (by simp; omega)]
    have t1 : toPlateD (x.1, x.2.1, x.2.2.1, x.2.2.2.1, x.2.2.2.2) = some x := toPlateD_eq hl
    obtain ⟨v, a1, a2⟩ := area_both x
    rw [ob_some' t1, ob_some' (show areaS (x.1, x.2.1, x.2.2.1, x.2.2.2.1, x.2.2.2.2) = some v from a2), ob_some' t1, ob_some' (show areaI (x.1, x.2.1, x.2.2.1, x.2.2.2.1, x.2.2.2.2) = some v from a1),
      br_f (by simp), br_f (by simp), ob_some' t1, ob_some' (show eqPlateL ((x.1, x.2.1, x.2.2.1, x.2.2.2.1, x.2.2.2.2), x.1, x.2.1, x.2.2.1, x.2.2.2.1, x.2.2.2.2) = some true from eqPlateL_self hl)]
    rfl
end Rx
end Go.Proofs.Ytckbhfbcblehmaa
