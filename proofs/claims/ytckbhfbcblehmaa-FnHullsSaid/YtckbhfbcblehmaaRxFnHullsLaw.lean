/- Hulls: no site lies outside, the corners turn left, the turned plate has the same area. The law, in plain terms. No program in sight. -/
import Derived.Test.YtckbhfbcblehmaaRxAreaLaw
namespace Go.Proofs.Ytckbhfbcblehmaa
namespace Rx
open Go Hull

theorem hullOf_vals {p : PlateD} (hp : plateOk p = true) {h : List Int} {A : Int} (hH : HullP p h A) (hl : p.2.2.2.2.length ≤ 1048576) : hullOfI p = some (h, 0) ∧ hullOfS p = some (h, 0) := by
  have v1 : validPlateI (p.1, p.2.1, p.2.2.1, p.2.2.2.1, p.2.2.2.2) = some true := by have := validPlateI_eq p; rw [hp] at this; exact this
  have v2 : okPlateS (p.1, p.2.1, p.2.2.1, p.2.2.2.1, p.2.2.2.2) = some true := by have := okPlateS_eq p; rw [hp] at this; exact this
  have v3 : pointsS (p.1, p.2.1, p.2.2.1, p.2.2.2.1, p.2.2.2.2) = _ := pointsS_eq hl
  constructor
  · unfold hullOfI
    rw [ob_some' v1, br_f (c := !true) rfl, ob_some' hH.i]
  · unfold hullOfS
    rw [ob_some' v2, br_f (c := !true) rfl, ob_some' v3, ob_some' hH.s]
theorem hullOf_bad {p : PlateD} (hp : plateOk p = false) : hullOfI p = some ([], 1) ∧ hullOfS p = some ([], 1) := by
  have v1 : validPlateI (p.1, p.2.1, p.2.2.1, p.2.2.2.1, p.2.2.2.2) = some false := by have := validPlateI_eq p; rw [hp] at this; exact this
  have v2 : okPlateS (p.1, p.2.1, p.2.2.1, p.2.2.2.1, p.2.2.2.2) = some false := by have := okPlateS_eq p; rw [hp] at this; exact this
  constructor
  · unfold hullOfI
    rw [ob_some' v1]; rfl
  · unfold hullOfS
    rw [ob_some' v2]; rfl
/-- No site lies outside. -/
theorem leftN_eq {p : PlateD} (hl : p.2.2.2.2.length ≤ 1000) (hbd : Bd (ptsOf p.2.2.2.2)) {h : List Int} {A n S i : Int} {a b : Int × Int} (ha : In4 a) (hb : In4 b) (hc : 1 < n → ∀ j, j < p.2.2.2.2.length → 0 ≤ crs a b (pt (ptsOf p.2.2.2.2) j)) :
    ∃ k, leftN (false, p, h, A, n, S, i, a, b, 0) = some (true, (false, p, h, A, n, S, i, a, b, k)) := by
  obtain ⟨t, s', e, h1, h2⟩ := iter_end (step := leftN_step) (fun x => ∃ k : Nat, x = (false, p, h, A, n, S, i, a, b, (k : Int)) ∧ k ≤ p.2.2.2.2.length) (fun x => ∃ k, x = (false, p, h, A, n, S, i, a, b, k)) (fun _ => False)
    (fun x => (p.2.2.2.2.length - x.2.2.2.2.2.2.2.2.2.toNat)) (by
      rintro x ⟨k, rfl, hk⟩
      by_cases hkl : k < p.2.2.2.2.length
      · by_cases hn : 1 < n
        · have e5 : IntKind.i64.wrap ((k : Int) + 1) = ((k + 1 : Nat) : Int) := by rw [w64 (by omega) (by omega)]; omega
          obtain ⟨y, y1, y2⟩ := site_idx hkl
          have hy : In4 (pt (ptsOf p.2.2.2.2) k) := hbd k (by simpa using hkl)
          have c1 : crossL ((a.1, a.2), (b.1, b.2), y.2.1.1, y.2.1.2) = some (crs a b (pt (ptsOf p.2.2.2.2) k)) := by
            rw [crossL_eq]
            have := crossS_eq ha hb hy
            rw [← y2] at this ⊢
            exact this
          have hstep : leftN_step (false, p, h, A, n, S, i, a, b, (k : Int)) = some (.next, (false, p, h, A, n, S, i, a, b, ((k + 1 : Nat) : Int))) := by
            unfold leftN_step
            dsimp only
            rw [br_t (by simp; omega), br_t (by simpa using hn), ob_some' y1, ob_some' c1, br_f (by have := hc hn k hkl; simp; omega), e5]
          exact ⟨.next, _, hstep, fun _ => ⟨⟨k + 1, rfl, by omega⟩, by simp only [Int.toNat_natCast]; omega⟩, fun h => (by cases h), fun h => (by cases h)⟩
        · refine ⟨.out, (false, p, h, A, n, S, i, a, b, (k : Int)), ?_, fun h => (by cases h), fun _ => ⟨_, rfl⟩, fun h => (by cases h)⟩
          unfold leftN_step
          dsimp only
          rw [br_t (by simp; omega), br_f (by simpa using hn)]
      · refine ⟨.out, (false, p, h, A, n, S, i, a, b, (k : Int)), ?_, fun h => (by cases h), fun _ => ⟨_, rfl⟩, fun h => (by cases h)⟩
        unfold leftN_step
        dsimp only
        rw [br_f (by simp; omega)])
    (leftN_fuel (false, p, h, A, n, S, i, a, b, 0)) (false, p, h, A, n, S, i, a, b, 0) ⟨0, rfl, by omega⟩ (by simp [leftN_fuel])
  cases t with
  | true =>
    obtain ⟨k, rfl⟩ := h1 rfl
    exact ⟨k, e⟩
  | false => exact (h2 rfl).elim
/-- The corners turn left. -/
theorem leftL_eq {p : PlateD} (hl : p.2.2.2.2.length ≤ 1000) (hbd : Bd (ptsOf p.2.2.2.2)) {s m : Nat} (hH : HullOf (ptsOf p.2.2.2.2) s m) (A : Int) :
    leftL (false, p, wayL (ptsOf p.2.2.2.2) s m, A, (m : Int), 0, 0) = some (true, (false, p, wayL (ptsOf p.2.2.2.2) s m, A, (m : Int), areaOf (pt (ptsOf p.2.2.2.2)) (ptsOf p.2.2.2.2).length s m, (m : Int))) := by
  have hm := hH.r.pos
  have hml := hH.r.le
  have hlen : (ptsOf p.2.2.2.2).length = p.2.2.2.2.length := by simp
  have hx : 1 < m → ∃ i, i < (ptsOf p.2.2.2.2).length ∧ pt (ptsOf p.2.2.2.2) i ≠ pt (ptsOf p.2.2.2.2) s := fun h => ⟨_, way_lt hH.b 1, hH.r.not 1 (by omega) h⟩
  generalize hG : (fun k => xx (pt (ptsOf p.2.2.2.2) (way (pt (ptsOf p.2.2.2.2)) (ptsOf p.2.2.2.2).length s k)) (pt (ptsOf p.2.2.2.2) (way (pt (ptsOf p.2.2.2.2)) (ptsOf p.2.2.2.2).length s (k + 1)))) = G
  have hGk : ∀ k, xx (pt (ptsOf p.2.2.2.2) (way (pt (ptsOf p.2.2.2.2)) (ptsOf p.2.2.2.2).length s k)) (pt (ptsOf p.2.2.2.2) (way (pt (ptsOf p.2.2.2.2)) (ptsOf p.2.2.2.2).length s (k + 1))) = G k := fun k => by rw [← hG]
  have hbd2 : ∀ k, -200000000 ≤ G k ∧ G k ≤ 200000000 := fun k => by rw [← hGk]; exact xx_bd' hbd hH.b k
  have hA : areaOf (pt (ptsOf p.2.2.2.2)) (ptsOf p.2.2.2.2).length s m = sumF G m := by unfold areaOf; rw [← hG]
  rw [hA]
  obtain ⟨t, s', e, h1, h2⟩ := iter_end (step := leftL_step) (fun x => ∃ k : Nat, x = (false, p, wayL (ptsOf p.2.2.2.2) s m, A, (m : Int), sumF G k, (k : Int)) ∧ k ≤ m) (fun x => x = (false, p, wayL (ptsOf p.2.2.2.2) s m, A, (m : Int), sumF G m, (m : Int))) (fun _ => False)
    (fun x => (m - x.2.2.2.2.2.2.toNat)) (by
      rintro x ⟨k, rfl, hk⟩
      by_cases hkl : k < m
      · have e5 : IntKind.i64.wrap ((k : Int) + 1) = ((k + 1 : Nat) : Int) := by rw [w64 (by omega) (by omega)]; omega
        have e6 : IntKind.i64.wrap ((k : Int) + 2) = ((k + 2 : Nat) : Int) := by rw [w64 (by omega) (by omega)]; omega
        obtain ⟨y, y1, y2, _⟩ := site_way hH.b k
        obtain ⟨z, z1, z2, _⟩ := site_way hH.b (k + 1)
        obtain ⟨u, u1, u2, _⟩ := site_way hH.b (k + 2)
        have ba := in4_way hbd hH.b k
        have bb := in4_way hbd hH.b (k + 1)
        have bc := in4_way hbd hH.b (k + 2)
        have hcr : 2 < m → 0 < crs y.2.1 z.2.1 u.2.1 := fun h => by rw [y2, z2, u2]; exact crs_left hH.b (hx (by omega)) hH.r h k
        have hout : 1 < (m : Int) → ∀ j, j < p.2.2.2.2.length → 0 ≤ crs y.2.1 z.2.1 (pt (ptsOf p.2.2.2.2) j) := fun h j hj => by rw [y2, z2]; exact crs_out hH.b (hx (by omega)) k j (by omega)
        rw [← y2] at ba
        rw [← z2] at bb
        rw [← u2] at bc
        obtain ⟨x1, x2, x3, x4⟩ := xx_bd ba bb
        have hb := sumF_bd hbd2 k
        have hg : xx y.2.1 z.2.1 = G k := by rw [y2, z2, hGk]
        have c1 : crossL ((y.2.1.1, y.2.1.2), (z.2.1.1, z.2.1.2), u.2.1.1, u.2.1.2) = some (crs y.2.1 z.2.1 u.2.1) := crossS_eq ba bb bc
        obtain ⟨K, n1⟩ := leftN_eq hl hbd (h := wayL (ptsOf p.2.2.2.2) s m) (A := A) (n := (m : Int)) (S := sumF G k) (i := (k : Int)) ba bb hout
        have n1 : leftN (false, (p.1, p.2.1, p.2.2.1, p.2.2.2.1, p.2.2.2.2), wayL (ptsOf p.2.2.2.2) s m, A, (m : Int), sumF G k, (k : Int), (y.2.1.1, y.2.1.2), (z.2.1.1, z.2.1.2), (0 : Int)) = _ := n1
        have hsum : IntKind.i64.wrap (IntKind.i64.wrap (sumF G k + IntKind.i64.wrap (y.2.1.1 * z.2.1.2)) - IntKind.i64.wrap (y.2.1.2 * z.2.1.1)) = sumF G (k + 1) := by
          rw [w64 (x := y.2.1.1 * z.2.1.2) (by omega) (by omega), w64 (x := y.2.1.2 * z.2.1.1) (by omega) (by omega), w64 (x := sumF G k + y.2.1.1 * z.2.1.2) (by omega) (by omega)]
          have e7 : y.2.1.1 * z.2.1.2 - y.2.1.2 * z.2.1.1 = G k := by rw [← hg]; rfl
          have e8 : sumF G k + y.2.1.1 * z.2.1.2 - y.2.1.2 * z.2.1.1 = sumF G (k + 1) := by
            simp only [sumF]; omega
          rw [e8, w64 (by simp only [sumF]; have := hbd2 k; omega) (by simp only [sumF]; have := hbd2 k; omega)]
        have hstep : leftL_step (false, p, wayL (ptsOf p.2.2.2.2) s m, A, (m : Int), sumF G k, (k : Int)) = some (.next, (false, p, wayL (ptsOf p.2.2.2.2) s m, A, (m : Int), sumF G (k + 1), ((k + 1 : Nat) : Int))) := by
          unfold leftL_step
          dsimp only
          rw [br_t (by simp; omega), ob_some' (wayL_get _ s m hkl), ob_some' y1, br_f (by simp; omega), e5, ob_some' (wayL_mod hH (k + 1)), ob_some' z1, br_f (by simp; omega), e6, ob_some' (wayL_mod hH (k + 2)), ob_some' u1]
          have tail : (ob (leftN (false, (p.1, p.2.1, p.2.2.1, p.2.2.2.1, p.2.2.2.2), wayL (ptsOf p.2.2.2.2) s m, A, (m : Int), sumF G k, (k : Int), (y.2.1.1, y.2.1.2), (z.2.1.1, z.2.1.2), (0 : Int))) fun r =>
              br r.1 (some (LRes.next, r.2.1, (r.2.2.1.1, r.2.2.1.2.1, r.2.2.1.2.2.1, r.2.2.1.2.2.2.1, r.2.2.1.2.2.2.2), r.2.2.2.1, r.2.2.2.2.1, r.2.2.2.2.2.1, IntKind.i64.wrap (IntKind.i64.wrap (r.2.2.2.2.2.2.1 + IntKind.i64.wrap (r.2.2.2.2.2.2.2.2.1.1 * r.2.2.2.2.2.2.2.2.2.1.2)) - IntKind.i64.wrap (r.2.2.2.2.2.2.2.2.1.2 * r.2.2.2.2.2.2.2.2.2.1.1)), IntKind.i64.wrap (r.2.2.2.2.2.2.2.1 + (1 : Int))))
                (some (LRes.ret, r.2.1, (r.2.2.1.1, r.2.2.1.2.1, r.2.2.1.2.2.1, r.2.2.1.2.2.2.1, r.2.2.1.2.2.2.2), r.2.2.2.1, r.2.2.2.2.1, r.2.2.2.2.2.1, r.2.2.2.2.2.2.1, r.2.2.2.2.2.2.2.1))) = some (LRes.next, (false, p, wayL (ptsOf p.2.2.2.2) s m, A, (m : Int), sumF G (k + 1), ((k + 1 : Nat) : Int))) := by
            rw [ob_some' n1]
            dsimp only
            rw [br_t rfl, hsum, e5]
          by_cases h2 : 2 < m
          · rw [br_t (by simp; omega), ob_some' c1, br_f (by have := hcr h2; simp; omega)]
            exact tail
          · rw [br_f (by simp; omega)]
            exact tail
        exact ⟨.next, _, hstep, fun _ => ⟨⟨k + 1, rfl, by omega⟩, by simp only [Int.toNat_natCast]; omega⟩, fun h => (by cases h), fun h => (by cases h)⟩
      · have : k = m := by omega
        subst this
        refine ⟨.out, _, ?_, fun h => (by cases h), fun _ => rfl, fun h => (by cases h)⟩
        show br (decide ((k : Int) < (k : Int))) _ _ = _
        rw [br_f (by simp)])
    (leftL_fuel (false, p, wayL (ptsOf p.2.2.2.2) s m, A, (m : Int), 0, 0)) (false, p, wayL (ptsOf p.2.2.2.2) s m, A, (m : Int), 0, 0) ⟨0, rfl, by omega⟩ (by simp [leftL_fuel])
  cases t with
  | true =>
    rw [h1 rfl] at e
    exact e
  | false => exact (h2 rfl).elim
/-- The turned plate's area. -/
theorem turned_area {p : PlateD} (hp : plateOk p = true) {h h' : List Int} {A A' : Int} (hH : HullP p h A) (hH' : HullP (turnP p) h' A') : A' = A := by
  obtain ⟨p1, p2, p3, p4, p5⟩ := plate_bd hp
  have hlen : (ptsOf p.2.2.2.2).length = p.2.2.2.2.length := by simp
  have hs : (turnP p).2.2.2.2 = p.2.2.2.2.map (turnF p) := rfl
  have hlen' : (ptsOf (turnP p).2.2.2.2).length = p.2.2.2.2.length := by rw [hs]; simp
  have hpt : ∀ i, i < p.2.2.2.2.length → pt (ptsOf (turnP p).2.2.2.2) i = rot p.2.1 (pt (ptsOf p.2.2.2.2) i) := by
    intro i hi
    have hy := List.getElem?_eq_getElem hi
    have hy' : (turnP p).2.2.2.2[i]? = some (turnF p p.2.2.2.2[i]) := by rw [hs, List.getElem?_map, hy]; rfl
    rw [pts_get hy, pts_get hy']
    obtain ⟨b1, b2, _⟩ := site_bd hp hy
    show (IntKind.i64.wrap _, _) = _
    rw [w64 (by omega) (by omega)]
    rfl
  rcases hH.how with ⟨e1, _, e3⟩ | ⟨s, m, hO, _, e3⟩
  · rcases hH'.how with ⟨_, _, k3⟩ | ⟨t, m', hO', _, _⟩
    · rw [e3, k3]
    · have := hO'.b.lt
      rw [hlen', e1] at this
      simp at this
  · rcases hH'.how with ⟨k1, _, _⟩ | ⟨t, m', hO', _, k3⟩
    · have := hO.b.lt
      have h0 : p.2.2.2.2.length = 0 := by rw [← hlen', k1]; rfl
      omega
    · rw [e3, k3, hlen']
      obtain ⟨hb', hlow', hr'⟩ := hO'
      rw [hlen'] at hb' hr' hlow'
      have hb := hO.b
      have hr := hO.r
      rw [hlen] at hb hr ⊢
      rw [area_congr hpt hb'.lt]
      refine area_turned hb (begin_congr hpt hb') ?_ hr (round_congr hpt hb'.lt hr')
      intro i hi
      have := (hlow' i hi).1
      rw [hpt i hi, hpt t hb'.lt] at this
      unfold lexle rot at this
      unfold lexp mi
      simp only at this ⊢
      omega
theorem fnHulls_holds (c : List Int) (hw : WfAll [.slice (.int .u8)] c) : fnHulls c = some true := by
  have hc := bytes_wf hw
  obtain ⟨p, e0, hl⟩ : ∃ p : PlateD, drawHullS c = some p ∧ p.2.2.2.2.length ≤ 30 := drawTurn_tot hc
  have hlp : p.2.2.2.2.length ≤ 1048576 := by omega
  unfold fnHulls
  obtain ⟨bb, hbb⟩ : ∃ b, f6big c = some b := ⟨_, rfl⟩
  rw [ob_some' hbb]
  cases bb with
  | true => rfl
  | false =>
    rw [br_f rfl, ob_some' e0]
    cases hp : plateOk p with
    | false =>
      obtain ⟨h1, h2⟩ := hullOf_bad hp
      obtain ⟨a1, a2⟩ := area_bad hp
      rw [ob_some' (show hullOfI (p.1, p.2.1, p.2.2.1, p.2.2.2.1, p.2.2.2.2) = _ from h1), ob_some' (show hullOfS (p.1, p.2.1, p.2.2.1, p.2.2.2.1, p.2.2.2.2) = _ from h2), ob_some' (show areaI (p.1, p.2.1, p.2.2.1, p.2.2.2.1, p.2.2.2.2) = _ from a1), ob_some' (show areaS (p.1, p.2.1, p.2.2.1, p.2.2.2.1, p.2.2.2.2) = _ from a2)]
      rw [br_f (by simp), br_f (by simp), ob_some' (f6same_self (l := []) (by simp)), br_f (c := !true) rfl, br_f (by simp), br_t (by simp)]
    | true =>
      obtain ⟨p1, p2, p3, p4, p5⟩ := plate_bd hp
      obtain ⟨h, A, hH⟩ := hull_all hp
      obtain ⟨h', A', hH'⟩ := hull_all (ok_turn hp)
      have hAA := turned_area hp hH hH'
      obtain ⟨h1, h2⟩ := hullOf_vals hp hH hlp
      have t1 : turnPI (p.1, p.2.1, p.2.2.1, p.2.2.2.1, p.2.2.2.2) = some (turnP p, 0) := by have := (turn_val hlp).1; rw [hp, if_pos rfl] at this; exact this
      have a3 : areaI ((turnP p).1, (turnP p).2.1, (turnP p).2.2.1, (turnP p).2.2.2.1, (turnP p).2.2.2.2) = some (A', 0) := hH'.aI
      have hlh : h.length ≤ 1048576 := by
        rcases hH.how with ⟨_, e, _⟩ | ⟨s, m, hO, e, _⟩
        · rw [e]; simp
        · rw [e, wayL_len]
          have := hO.r.le
          have e2 : (ptsOf p.2.2.2.2).length = p.2.2.2.2.length := by simp
          omega
      have hleft : ∃ i, leftL (false, (p.1, p.2.1, p.2.2.1, p.2.2.2.1, p.2.2.2.2), h, A, (h.length : Int), 0, 0) = some (true, (false, p, h, A, (h.length : Int), A, i)) := by
        rcases hH.how with ⟨_, e, e2⟩ | ⟨s, m, hO, e, e2⟩
        · rw [e, e2]; exact ⟨0, rfl⟩
        · rw [e, e2, wayL_len]; exact ⟨_, leftL_eq (by omega) (bd_ok hp) hO _⟩
      obtain ⟨i, hleft⟩ := hleft
      rw [ob_some' (show hullOfI (p.1, p.2.1, p.2.2.1, p.2.2.2.1, p.2.2.2.2) = _ from h1), ob_some' (show hullOfS (p.1, p.2.1, p.2.2.1, p.2.2.2.1, p.2.2.2.2) = _ from h2), ob_some' (show areaI (p.1, p.2.1, p.2.2.1, p.2.2.2.1, p.2.2.2.2) = _ from hH.aI), ob_some' (show areaS (p.1, p.2.1, p.2.2.1, p.2.2.2.1, p.2.2.2.2) = _ from hH.aS)]
      dsimp only
      rw [br_f (by simp), br_f (by simp), ob_some' (f6same_self (show h.length ≤ 4294967296 by omega)), br_f (c := !true) rfl, br_f (by simp), br_f (by simp), ob_some' hleft]
      dsimp only
      rw [br_t rfl, ob_some' t1]
      dsimp only
      rw [ob_some' a3]
      dsimp only
      rw [br_t (by simp), br_t (by simp), br_t (by rw [hAA]; simp)]
      simp
end Rx
end Go.Proofs.Ytckbhfbcblehmaa
