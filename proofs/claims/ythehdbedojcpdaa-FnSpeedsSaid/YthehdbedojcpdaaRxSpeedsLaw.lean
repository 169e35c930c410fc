/- The turns of all arbors: the implementation's answers are the spec's, in plain terms. No program in sight. -/
import Derived.Test.YthehdbedojcpdaaRxDeepWLaw
import Derived.Test.YthehdbedojcpdaaRxRatQ
import Derived.Test.YthehdbedojcpdaaRxSpeeds
namespace Go.Proofs.Ythehdbedojcpdaa
namespace Rx
open Go

abbrev RatD := Int × Int
/-! ### A wheel that engages -/
def meshF (v : RatD) (t u : Int) : RatD × Int := ratF (v.1 * (ratF (-t) u).1.1) (v.2 * (ratF (-t) u).1.2)
theorem redF_ratF (n d : Int) : redF n d = ((ratF n d).1, (ratF n d).2 == 0) := by
  unfold redF ratF
  cases mkR n d <;> rfl
def teeth (t : Int) : Prop := 6 ≤ t ∧ t ≤ 240
theorem step_ok {t u : Int} (ht : teeth t) (hu : teeth u) : (ratF (-t) u).2 = 0 ∧ vR (ratF (-t) u).1 = true := by
  obtain ⟨t1, t2⟩ := ht
  obtain ⟨u1, u2⟩ := hu
  obtain ⟨p, hp⟩ := mkR_some (n := -t) (d := u) (by omega) (by omega)
  have e : ratF (-t) u = (p, 0) := by unfold ratF; rw [hp]
  have := (ratF_valid (n := -t) (d := u) (by omega) (by rw [e])).1
  rw [e] at this ⊢
  exact ⟨rfl, this⟩
theorem neg64 {t : Int} (ht : teeth t) : IntKind.i64.wrap ((0 : Int) - t) = -t := by
  obtain ⟨t1, t2⟩ := ht
  rw [w64 (by omega) (by omega)]; omega
theorem meshF_valid {v : RatD} {t u : Int} (hv : vR v = true) (ht : teeth t) (hu : teeth u) (h : (meshF v t u).2 = 0) : vR (meshF v t u).1 = true := by
  have h1 := (vR_bd hv).1
  have h2 := (vR_bd (step_ok ht hu).2).1
  exact (ratF_valid (by have := pp1 h1 h2; omega) h).1
theorem meshF_code (v : RatD) (t u : Int) : (meshF v t u).2 = 0 ∨ (meshF v t u).2 = 2 := ratF_code _ _
theorem meshedI_eq {v : RatD} {t u : Int} (hv : vR v = true) (ht : teeth t) (hu : teeth u) : meshedI ((v.1, v.2), t, u) = some (meshF v t u) := by
  have hs := step_ok ht hu
  have e1 : makeRatI (-t, u) = some (ratF (-t) u) := by
    obtain ⟨t1, t2⟩ := ht
    obtain ⟨u1, u2⟩ := hu
    exact makeRatI_eq ⟨by omega, by omega⟩ ⟨by omega, by omega⟩ (by omega)
  show ob (makeRatI (IntKind.i64.wrap ((0 : Int) - t), u)) (fun y => ob (mulRatI ((v.1, v.2), y.fst.1, y.fst.2)) fun y => some ((y.fst.1, y.fst.2), y.2)) = _
  rw [neg64 ht, e1, ob_s]
  have e2 : mulRatI ((v.1, v.2), (ratF (-t) u).1.1, (ratF (-t) u).1.2) = some (meshF v t u) := by
    have := mulRatI_eq v (ratF (-t) u).1
    rw [if_pos ⟨hv, hs.2⟩] at this
    exact this
  rw [e2]; rfl
/-- What the reference makes of it. -/
theorem meshS_step {v : RatD} {t u : Int} (hv : vR v = true) (ht : teeth t) (hu : teeth u) {β : Type} (k : RatD × Bool → Option β) :
    ob (mkS (IntKind.i64.wrap ((0 : Int) - t), u)) (fun y => ob (mulS ((v.1, v.2), y.fst.1, y.fst.2)) k) = k ((meshF v t u).1, (meshF v t u).2 == 0) := by
  have hs := step_ok ht hu
  have e1 : mkS (-t, u) = some (redF (-t) u) := by
    obtain ⟨t1, t2⟩ := ht
    obtain ⟨u1, u2⟩ := hu
    exact mkS_eq ⟨by omega, by omega⟩ ⟨by omega, by omega⟩ (by omega)
  rw [neg64 ht, e1, ob_s, redF_ratF]
  have e2 : mulS ((v.1, v.2), (ratF (-t) u).1.1, (ratF (-t) u).1.2) = some ((meshF v t u).1, (meshF v t u).2 == 0) := by
    have := mulS_eq hv hs.2
    rw [redF_ratF] at this
    exact this
  show ob (mulS ((v.1, v.2), (ratF (-t) u).1.1, (ratF (-t) u).1.2)) k = _
  rw [e2]; rfl

/-! ### Valid works: each mesh has its wheels -/
def meshOk (w : WorksD) (m : MeshD) (p : RatD) : Prop := (0 ≤ m.1 ∧ m.1 < w.1.length) ∧ (0 ≤ m.2.2.1 ∧ m.2.2.1 < w.1.length) ∧ m.1 ≠ m.2.2.1 ∧ teeth p.1 ∧ teeth p.2 ∧ pairWI ((w.1, w.2), m.1, m.2.1, m.2.2.1, m.2.2.2) = some p
theorem wheel_teeth {w : WorksD} (hA : allI (arborPlace w) w.1 0 = true) {a k : Int} (h : wheelF w a k = true) : ∃ y z, idx w.1 a = some y ∧ idx y.2 k = some z ∧ (0 ≤ a ∧ a < w.1.length) ∧ teeth z := by
  obtain ⟨y, z, hy, hz⟩ := wheel_at h
  unfold wheelF inF at h
  simp only [Bool.and_eq_true, decide_eq_true_eq] at h
  have h0 : 0 ≤ a ∧ a < w.1.length := by omega
  refine ⟨y, z, hy, hz, h0, ?_⟩
  obtain ⟨y', e1, e2⟩ := idx_get (l := w.1) h0.1 h0.2
  rw [hy] at e1; cases e1
  have hp := allI_true hA a.toNat y e2
  unfold arborPlace arborOk at hp
  simp only [Bool.and_eq_true] at hp
  have ht := List.all_eq_true.1 hp.1.1 z (mem_idx hz)
  unfold teethF inF at ht
  simp only [Bool.and_eq_true, decide_eq_true_eq] at ht
  exact ht
theorem meshes_ok {w : WorksD} (hk : worksOk w = true) {m : MeshD} (hm : m ∈ w.2) : ∃ p, meshOk w m p := by
  unfold worksOk at hk
  simp only [Bool.and_eq_true] at hk
  obtain ⟨j, hj1, hj2⟩ := List.mem_iff_getElem.1 hm
  have hj : meshPlace w (0 + j) m = true := allI_true hk.2.2 j m (by rw [List.getElem?_eq_getElem hj1, hj2])
  unfold meshPlace joinF at hj
  simp only [Bool.and_eq_true] at hj
  obtain ⟨⟨hne, ha, hb⟩, _⟩ := hj
  obtain ⟨y1, z1, a1, b1, c1, d1⟩ := wheel_teeth hk.2.1 ha
  obtain ⟨y2, z2, a2, b2, c2, d2⟩ := wheel_teeth hk.2.1 hb
  refine ⟨(z1, z2), c1, c2, by simpa using hne, d1, d2, ?_⟩
  unfold pairWI
  simp only [a1, b1, a2, b2, ob_s]
theorem pairS_I (x : WorksD × MeshD) : pairWS x = pairWI x := rfl

/-! ### Speeds that are known and others -/
def okSp (v : RatD) : Prop := v = (0, 0) ∨ vR v = true
theorem okSp_den {v : RatD} (h : okSp v) (h0 : v.2 ≠ 0) : vR v = true := by
  rcases h with rfl | h
  · exact (h0 rfl).elim
  · exact h
theorem vR_den {v : RatD} (h : vR v = true) : (v.2 == (0 : Int)) = false := by
  have := vR_bd h
  simp; omega
def knownB (sp : List RatD) : List Bool := sp.map fun v => v.2 != 0
/-- How many are not known. -/
def unk (sp : List RatD) : Nat := sp.countP fun v => v.2 == 0
theorem unk_set : ∀ {sp : List RatD} {i : Nat} {v y : RatD}, sp[i]? = some y → y.2 = 0 → v.2 ≠ 0 → unk (sp.set i v) < unk sp
  | [], _, _, _, h, _, _ => by simp at h
  | z :: sp, 0, v, y, h, h1, h2 => by
    simp at h; subst h
    unfold unk
    rw [List.set_cons_zero, List.countP_cons, List.countP_cons, if_neg (by simpa using h2), if_pos (by simpa using h1)]
    omega
  | z :: sp, i + 1, v, y, h, h1, h2 => by
    have := unk_set (sp := sp) (i := i) (v := v) (by simpa using h) h1 h2
    unfold unk at this ⊢
    rw [List.set_cons_succ, List.countP_cons, List.countP_cons]
    omega
theorem unk_le (sp : List RatD) : unk sp ≤ sp.length := List.countP_le_length
theorem knownB_set {sp : List RatD} {i : Nat} {v : RatD} (h : vR v = true) : knownB (sp.set i v) = (knownB sp).set i true := by
  unfold knownB
  rw [List.map_set]
  have : (v.2 != 0) = true := by rw [bne, vR_den h]; rfl
  rw [this]
theorem knownB_get {sp : List RatD} {i : Nat} {v : RatD} (h : sp[i]? = some v) : (knownB sp)[i]? = some (v.2 != 0) := by
  unfold knownB
  rw [List.getElem?_map, h]; rfl
/-- What the spreading keeps: each known speed has a property that goes on along the meshes. -/
def closed (w : WorksD) (P : Int → RatD → Prop) : Prop := ∀ m ∈ w.2, ∀ p, meshOk w m p → (∀ v, P m.1 v → vR v = true → (meshF v p.1 p.2).2 = 0 → P m.2.2.1 (meshF v p.1 p.2).1) ∧ (∀ v, P m.2.2.1 v → vR v = true → (meshF v p.2 p.1).2 = 0 → P m.1 (meshF v p.2 p.1).1)
structure SpOk (w : WorksD) (r0 : Nat) (P : Int → RatD → Prop) (sp : List RatD) : Prop where
  keep : sp[r0]? = some (1, 1)
  len : sp.length = w.1.length
  ok : ∀ v ∈ sp, okSp v
  prop : ∀ (i : Int) v, 0 ≤ i → sp[i.toNat]? = some v → v.2 ≠ 0 → P i v
theorem SpOk.set {w : WorksD} {r0 : Nat} {P : Int → RatD → Prop} {sp : List RatD} (h : SpOk w r0 P sp) {i : Int} (h0 : 0 ≤ i) {v x : RatD} (hx : sp[i.toNat]? = some x) (hx0 : x.2 = 0) (hv : vR v = true) (hP : P i v) : SpOk w r0 P (sp.set i.toNat v) where
  keep := by
    have : i.toNat ≠ r0 := fun e => by
      rw [e, h.keep] at hx
      cases hx
      cases hx0
    rw [List.getElem?_set_ne this]
    exact h.keep
  len := by rw [List.length_set]; exact h.len
  ok := fun z hz => by
    rcases List.mem_or_eq_of_mem_set hz with h1 | rfl
    · exact h.ok z h1
    · exact .inr hv
  prop := fun j z hj hz hz0 => by
    by_cases hij : j = i
    · subst hij
      by_cases hl : j.toNat < sp.length
      · rw [List.getElem?_set_self hl] at hz
        cases hz; exact hP
      · rw [List.getElem?_eq_none (by rw [List.length_set]; omega)] at hz
        cases hz
    · rw [List.getElem?_set_ne (by omega)] at hz
      exact h.prop j z hj hz hz0

/-! ### One round over the meshes -/
section
variable {w : WorksD} {r0 : Nat} {P : Int → RatD → Prop}
/-- Both ends of a mesh are known, or none. -/
def sameK (sp : List RatD) (m : MeshD) : Prop := ∀ x y, sp[m.1.toNat]? = some x → sp[m.2.2.1.toNat]? = some y → (x.2 = 0 ↔ y.2 = 0)
def InI (w : WorksD) (r0 : Nat) (P : Int → RatD → Prop) (U : Nat) (a : WorksD × List RatD × Bool × List MeshD × Int × Int) (b : WorksD × List Bool × List RatD × Bool × Int) : Prop :=
  a.1 = w ∧ b.1 = w ∧ a.2.2.2.1 = w.2 ∧ a.2.2.2.2.1 = (w.2.length : Int) ∧ (0 ≤ a.2.2.2.2.2 ∧ a.2.2.2.2.2 ≤ w.2.length) ∧ b.2.2.2.2 = a.2.2.2.2.2 ∧ b.2.2.1 = a.2.1 ∧ b.2.1 = knownB a.2.1 ∧ b.2.2.2.1 = a.2.2.1 ∧ SpOk w r0 P a.2.1 ∧ unk a.2.1 ≤ U ∧ (a.2.2.1 = true → unk a.2.1 < U) ∧ (a.2.2.1 = false → ∀ (j : Nat) m, (j : Int) < a.2.2.2.2.2 → w.2[j]? = some m → sameK a.2.1 m)
theorem pair_eta (v : RatD) : (v.1, v.2) = v := rfl
theorem round_sim (hk : worksOk w = true) (hw : smallW w) (hP : closed w P) (U : Nat) (sp : List RatD) (hsp : SpOk w r0 P sp) (hU : unk sp ≤ U) :
    (∃ sp' b, speedsILN (w, sp, false, w.2, (w.2.length : Int), 0) = some (.inl (w, sp', b, w.2, (w.2.length : Int), (w.2.length : Int))) ∧ roundSL (w, knownB sp, sp, false, 0) = some (.inl (w, knownB sp', sp', b, (w.2.length : Int))) ∧ SpOk w r0 P sp' ∧ unk sp' ≤ U ∧ (b = true → unk sp' < U) ∧ (b = false → ∀ m ∈ w.2, sameK sp' m)) ∨
    ∃ r r', speedsILN (w, sp, false, w.2, (w.2.length : Int), 0) = some (.inr r) ∧ roundSL (w, knownB sp, sp, false, 0) = some (.inr r') ∧ r = ([], 2) ∧ r'.2.2 = (false, false) := by
  have hl := hw.2.2
  have main := iterA_sim (stepA := speedsILN_step) (stepB := roundSL_step) (InI w r0 P U) (fun a b => InI w r0 P U a b ∧ a.2.2.2.2.2 = w.2.length) (fun r r' => r = ([], 2) ∧ r'.2.2 = (false, false)) (fun a => w.2.length - a.2.2.2.2.2.toNat) (by
    rintro ⟨w', sp1, ag1, ms, len, i1⟩ ⟨w'', kn, sp, ag, i⟩ ⟨h1, h2, h3, h4, h5, h6, h7, h8, h9, h10, h11, h12, h13⟩
    dsimp only at h1 h2 h3 h4 h5 h6 h7 h8 h9 h10 h11 h12 h13
    subst h1; subst h2; subst h3; subst h4; subst h6; subst h7; subst h8; subst h9
    by_cases hi : i < w''.2.length
    · obtain ⟨m, hm, hm2⟩ := idx_get (l := w''.2) h5.1 hi
      obtain ⟨p, hp⟩ := meshes_ok hk (List.mem_of_getElem? hm2)
      have hcl := hP m (List.mem_of_getElem? hm2) p hp
      obtain ⟨a1, a2, a3, t1, t2, ep⟩ := hp
      have eps : pairWS (w'', m.1, m.2.1, m.2.2.1, m.2.2.2) = some p := ep
      have hlen := h10.len
      obtain ⟨x, hx, hx2⟩ := idx_get (α := RatD) (l := sp) a1.1 (by omega)
      obtain ⟨y, hy, hy2⟩ := idx_get (l := sp) a2.1 (by omega)
      have hxk := knownB_get hx2
      have hyk := knownB_get hy2
      have hxi := idx_nat a1.1 hxk
      have hyi := idx_nat a2.1 hyk
      have ox := h10.ok x (List.mem_of_getElem? hx2)
      have oy := h10.ok y (List.mem_of_getElem? hy2)
      have ew : IntKind.i64.wrap (i + 1) = i + 1 := w64 (by omega) (by omega)
      have hmu : w''.2.length - (i + 1).toNat < w''.2.length - i.toNat := by omega
      have stay (hs : x.2 = 0 ↔ y.2 = 0) : InI w'' r0 P U (w'', sp, ag, w''.2, (w''.2.length : Int), i + 1) (w'', knownB sp, sp, ag, i + 1) := ⟨rfl, rfl, rfl, rfl, ⟨by dsimp only; omega, by dsimp only; omega⟩, rfl, rfl, rfl, rfl, h10, h11, h12, fun hag j m' hj hm' => by
        dsimp only at hj ⊢
        by_cases hji : (j : Int) < i
        · exact h13 hag j m' hji hm'
        · have : j = i.toNat := by omega
          subst this
          rw [hm2] at hm'
          cases hm'
          intro x' y' hx' hy'
          rw [hx2] at hx'; rw [hy2] at hy'
          cases hx'; cases hy'
          exact hs⟩
      have eI : speedsILN_step (w'', sp, ag, w''.2, (w''.2.length : Int), i) = br (x.2 == 0) (br (y.2 == 0) (some (LS.next (w'', sp, ag, w''.2, (w''.2.length : Int), i + 1))) (br (x.2 != 0) (some (LS.next (w'', sp, ag, w''.2, (w''.2.length : Int), i + 1))) (ob (meshedI ((y.1, y.2), p.2, p.1)) fun r => br (r.2 != 0) (some (LS.ret ([], r.2))) (some (LS.next (w'', sp.set m.1.toNat r.1, true, w''.2, (w''.2.length : Int), i + 1)))))) (br (x.2 == 0) (some (LS.next (w'', sp, ag, w''.2, (w''.2.length : Int), i + 1))) (br (y.2 != 0) (some (LS.next (w'', sp, ag, w''.2, (w''.2.length : Int), i + 1))) (ob (meshedI ((x.1, x.2), p.1, p.2)) fun r => br (r.2 != 0) (some (LS.ret ([], r.2))) (some (LS.next (w'', sp.set m.2.2.1.toNat r.1, true, w''.2, (w''.2.length : Int), i + 1)))))) := by
        unfold speedsILN_step
        dsimp only
        rw [br_t (by simpa using hi)]
        simp only [hm, ep, gi, hx, hx2, hy, hy2, ob_s, ew]
      have eS : roundSL_step (w'', knownB sp, sp, ag, i) = br ((x.2 != 0) == (y.2 != 0)) (some (LS.next (w'', knownB sp, sp, ag, i + 1))) (br (y.2 != 0)
          (ob (mkS (IntKind.i64.wrap ((0 : Int) - p.2), p.1)) fun z => ob (mulS ((y.1, y.2), z.fst.1, z.fst.2)) fun r => br (!r.2) (some (LS.ret (knownB sp, sp, false, false))) (some (LS.next (w'', (knownB sp).set m.1.toNat true, sp.set m.1.toNat r.1, true, i + 1))))
          (ob (mkS (IntKind.i64.wrap ((0 : Int) - p.1), p.2)) fun z => ob (mulS ((x.1, x.2), z.fst.1, z.fst.2)) fun r => br (!r.2) (some (LS.ret (knownB sp, sp, false, false))) (some (LS.next (w'', (knownB sp).set m.2.2.1.toNat true, sp.set m.2.2.1.toNat r.1, true, i + 1))))) := by
        unfold roundSL_step
        dsimp only
        rw [br_t (by simpa using hi)]
        simp only [hm, eps, gi, hx, hx2, hy, hy2, hxi, hxk, hyi, hyk, ob_s, ew]
      rw [eI, eS]
      by_cases x0 : x.2 = 0
      · by_cases y0 : y.2 = 0
        · rw [br_t (by simpa using x0), br_t (by simpa using y0), br_t (by simp [x0, y0])]
          exact .inl ⟨_, _, rfl, rfl, stay ⟨fun _ => y0, fun _ => x0⟩, hmu⟩
        · have vy := okSp_den oy y0
          rw [br_t (by simpa using x0), br_f (by simpa using y0), br_f (by simpa using x0), br_f (by simp [x0, y0]), br_t (by simpa using y0), meshedI_eq vy t2 t1, meshS_step vy t2 t1, ob_s]
          rcases meshF_code y p.2 p.1 with hc | hc
          · rw [br_f (by simp [hc]), br_f (by simp [hc])]
            have vv := meshF_valid vy t2 t1 hc
            have vd : (meshF y p.2 p.1).1.2 ≠ 0 := by have := vR_bd vv; omega
            have hd := unk_set hx2 x0 vd
            refine .inl ⟨_, _, rfl, rfl, ⟨rfl, rfl, rfl, rfl, ⟨by dsimp only; omega, by dsimp only; omega⟩, rfl, rfl, (knownB_set vv).symm, rfl, h10.set a1.1 hx2 x0 vv (hcl.2 y (h10.prop _ y a2.1 hy2 y0) vy hc), ?_, fun _ => ?_, fun h => by cases h⟩, hmu⟩
            · dsimp only; omega
            · dsimp only; omega
          · rw [br_t (by simp [hc]), br_t (by simp [hc]), hc]
            exact .inr (.inr ⟨_, _, rfl, rfl, rfl, rfl⟩)
      · have vx := okSp_den ox x0
        by_cases y0 : y.2 = 0
        · rw [br_f (by simpa using x0), br_f (by simpa using x0), br_f (by simpa using y0), br_f (by rw [show (x.2 != 0) = true by simpa using x0, show (y.2 != 0) = false by simp [y0]]; rfl), br_f (by simpa using y0), meshedI_eq vx t1 t2, meshS_step vx t1 t2, ob_s]
          rcases meshF_code x p.1 p.2 with hc | hc
          · rw [br_f (by simp [hc]), br_f (by simp [hc])]
            have vv := meshF_valid vx t1 t2 hc
            have vd : (meshF x p.1 p.2).1.2 ≠ 0 := by have := vR_bd vv; omega
            have hd := unk_set hy2 y0 vd
            refine .inl ⟨_, _, rfl, rfl, ⟨rfl, rfl, rfl, rfl, ⟨by dsimp only; omega, by dsimp only; omega⟩, rfl, rfl, (knownB_set vv).symm, rfl, h10.set a2.1 hy2 y0 vv (hcl.1 x (h10.prop _ x a1.1 hx2 x0) vx hc), ?_, fun _ => ?_, fun h => by cases h⟩, hmu⟩
            · dsimp only; omega
            · dsimp only; omega
          · rw [br_t (by simp [hc]), br_t (by simp [hc]), hc]
            exact .inr (.inr ⟨_, _, rfl, rfl, rfl, rfl⟩)
        · rw [br_f (by simpa using x0), br_f (by simpa using x0), br_t (by simpa using y0), br_t (by rw [show (x.2 != 0) = true by simpa using x0, show (y.2 != 0) = true by simpa using y0]; rfl)]
          exact .inl ⟨_, _, rfl, rfl, stay ⟨fun h => (x0 h).elim, fun h => (y0 h).elim⟩, hmu⟩
    · have : i = w''.2.length := by omega
      subst this
      refine .inr (.inl ⟨(w'', sp, ag, w''.2, (w''.2.length : Int), (w''.2.length : Int)), (w'', knownB sp, sp, ag, (w''.2.length : Int)), ?_, ?_, ?_⟩)
      · unfold speedsILN_step
        dsimp only
        rw [br_f (by simp)]
      · unfold roundSL_step
        dsimp only
        rw [br_f (by simp)]
      · exact ⟨⟨rfl, rfl, rfl, rfl, ⟨by dsimp only; omega, by dsimp only; omega⟩, rfl, rfl, rfl, rfl, h10, h11, h12, h13⟩, rfl⟩)
  rcases main (w.2.length + 1) (w.2.length + 1) (w, sp, false, w.2, (w.2.length : Int), 0) (w, knownB sp, sp, false, 0) ⟨rfl, rfl, rfl, rfl, ⟨by dsimp only; omega, by dsimp only; omega⟩, rfl, rfl, rfl, rfl, hsp, hU, fun h => (by cases h), fun _ j m hj _ => (by dsimp only at hj; omega)⟩ (by dsimp only; omega) (by dsimp only; omega) with ⟨a', b', e1, e2, ⟨h1, h2, h3, h4, h5, h6, h7, h8, h9, h10, h11, h12, h13⟩, hi⟩ | ⟨r, r', e1, e2, q1, q2⟩
  · obtain ⟨w', sp1, ag1, ms, len, i1⟩ := a'
    obtain ⟨w'', kn, sp', ag, i⟩ := b'
    dsimp only at h1 h2 h3 h4 h5 h6 h7 h8 h9 h10 h11 h12 h13 hi
    subst h1; subst h2; subst h3; subst h4; subst h6; subst h7; subst h8; subst h9; subst hi
    refine .inl ⟨_, _, ?_, e2, h10, h11, h12, fun hb m hm => by
      obtain ⟨j, hj1, hj2⟩ := List.mem_iff_getElem.1 hm
      exact h13 hb j m (by have hj3 : j < w''.2.length := hj1; omega) (by rw [List.getElem?_eq_getElem hj1, hj2])⟩
    show iterA speedsILN_step (((w''.2.length : Int) - 0).toNat + 1) _ = _
    rw [show ((w''.2.length : Int) - 0).toNat = w''.2.length by omega]
    exact e1
  · refine .inr ⟨r, r', ?_, e2, q1, q2⟩
    show iterA speedsILN_step (((w.2.length : Int) - 0).toNat + 1) _ = _
    rw [show ((w.2.length : Int) - 0).toNat = w.2.length by omega]
    exact e1
/-! ### All rounds -/
def sp0 (n : Nat) (root : Int) : List RatD := (List.replicate n ((0 : Int), (0 : Int))).set root.toNat (1, 1)
theorem sp0_ok {root : Int} (h0 : 0 ≤ root) (h1 : root < w.1.length) (hP : P root (1, 1)) : SpOk w root.toNat P (sp0 w.1.length root) where
  keep := List.getElem?_set_self (by rw [List.length_replicate]; omega)
  len := by unfold sp0; simp
  ok := fun v hv => by
    rcases List.mem_or_eq_of_mem_set hv with h | rfl
    · exact .inl (List.mem_replicate.1 h).2
    · exact .inr v11
  prop := fun i v hi hv hv0 => by
    by_cases e : i = root
    · subst e
      unfold sp0 at hv
      rw [List.getElem?_set_self (by rw [List.length_replicate]; omega)] at hv
      cases hv; exact hP
    · unfold sp0 at hv
      rw [List.getElem?_set_ne (by omega)] at hv
      have := (List.mem_replicate.1 (List.mem_of_getElem? hv)).2
      subst this
      exact (hv0 rfl).elim
theorem known0 {n : Nat} {root : Int} : knownB (sp0 n root) = (List.replicate n false).set root.toNat true := by
  unfold sp0 knownB
  rw [List.map_set, List.map_replicate]; rfl
theorem spread_sim (hk : worksOk w = true) (hw : smallW w) (hP : closed w P) {sp : List RatD} (hsp : SpOk w r0 P sp) :
    (∃ sp', speedsIL (w, sp, true) = some (.inl (w, sp', false)) ∧ speedsSL (w, knownB sp, sp, true) = some (.inl (w, knownB sp', sp', false)) ∧ SpOk w r0 P sp' ∧ ∀ m ∈ w.2, sameK sp' m) ∨
    (speedsIL (w, sp, true) = some (.inr ([], 2)) ∧ speedsSL (w, knownB sp, sp, true) = some (.inr ([], 2))) := by
  have main := iterA_sim (stepA := speedsIL_step) (stepB := speedsSL_step) (fun a b => a.1 = w ∧ b.1 = w ∧ b.2.2.1 = a.2.1 ∧ b.2.1 = knownB a.2.1 ∧ b.2.2.2 = a.2.2 ∧ SpOk w r0 P a.2.1 ∧ (a.2.2 = false → ∀ m ∈ w.2, sameK a.2.1 m)) (fun a b => a.1 = w ∧ b.1 = w ∧ b.2.2.1 = a.2.1 ∧ b.2.1 = knownB a.2.1 ∧ b.2.2.2 = a.2.2 ∧ SpOk w r0 P a.2.1 ∧ a.2.2 = false ∧ ∀ m ∈ w.2, sameK a.2.1 m) (fun r r' => r = ([], 2) ∧ r' = ([], 2)) (fun a => if a.2.2 then unk a.2.1 + 1 else 0) (by
    rintro ⟨w', sp1, ag1⟩ ⟨w'', kn, sp, ag⟩ ⟨h1, h2, h3, h4, h5, h6, h8⟩
    dsimp only at h1 h2 h3 h4 h5 h6 h8
    subst h1; subst h2; subst h3; subst h4; subst h5
    cases ag with
    | false => exact .inr (.inl ⟨_, _, rfl, rfl, rfl, rfl, rfl, rfl, rfl, h6, rfl, h8 rfl⟩)
    | true =>
      have eI : speedsIL_step (w'', sp, true) = ob (speedsILN (w'', sp, false, w''.2, (w''.2.length : Int), 0)) (fun r => el r (fun r => some (LS.next (r.1, r.snd.1, r.snd.snd.1))) fun r => some (LS.ret r)) := rfl
      have eS : speedsSL_step (w'', knownB sp, sp, true) = ob (ob (roundSL (w'', knownB sp, sp, false, 0)) fun r => el r (fun r => some ((r.snd.snd.snd.1, true), w'', r.snd.1, r.snd.snd.1)) fun r => some ((r.snd.snd.1, r.snd.snd.2), w'', r.1, r.snd.1)) (fun y => br (!y.fst.2) (some (LS.ret ([], (2 : Int)))) (some (LS.next (w'', y.snd.snd.1, y.snd.snd.2, y.fst.1)))) := rfl
      rw [eI, eS]
      rcases round_sim hk hw hP (unk sp) sp h6 (Nat.le_refl _) with ⟨sp', b, e1, e2, q1, q2, q3, q4⟩ | ⟨r, r', e1, e2, q1, q2⟩
      · rw [e1, e2]
        refine .inl ⟨_, _, rfl, rfl, ⟨rfl, rfl, rfl, rfl, rfl, q1, q4⟩, ?_⟩
        dsimp only
        cases b with
        | false => exact Nat.succ_pos _
        | true => exact Nat.succ_lt_succ (q3 rfl)
      · rw [e1, e2]
        obtain ⟨k1, k2, k3, k4⟩ := r'
        cases q2
        subst q1
        exact .inr (.inr ⟨_, _, rfl, rfl, rfl, rfl⟩))
  have hlen := hsp.len
  have hu := unk_le sp
  rcases main (w.1.length + 2) (w.1.length + 2) (w, sp, true) (w, knownB sp, sp, true) ⟨rfl, rfl, rfl, rfl, rfl, hsp, fun h => by cases h⟩ (show unk sp + 1 < _ by omega) (show unk sp + 1 < _ by omega) with ⟨a', b', e1, e2, h1, h2, h3, h4, h5, h6, h7, h8⟩ | ⟨r, r', e1, e2, q1, q2⟩
  · obtain ⟨w', sp1, ag1⟩ := a'
    obtain ⟨w'', kn, sp', ag⟩ := b'
    dsimp only at h1 h2 h3 h4 h5 h6 h7 h8
    subst h1; subst h2; subst h3; subst h4; subst h5; subst h7
    exact .inl ⟨_, e1, e2, h6, h8⟩
  · subst q1; subst q2
    exact .inr ⟨e1, e2⟩
/-! ### What is looked at in the end -/
theorem all_loopA {σ α β : Type} {step : σ → Option (LS σ β)} {l : List α} (st : Int → σ) (p : α → Bool) (o : σ) (q : β)
    (hn : ∀ (i : Int) (y : α), 0 ≤ i → i < l.length → idx l i = some y → l[i.toNat]? = some y → p y = true → step (st i) = some (.next (st (i + 1))))
    (hb : ∀ (i : Int) (y : α), 0 ≤ i → i < l.length → idx l i = some y → l[i.toNat]? = some y → p y = false → step (st i) = some (.ret q))
    (ho : step (st l.length) = some (.out o)) {n : Nat} (hf : l.length < n) : iterA step n (st 0) = some (if l.all p = true then .inl o else .inr q) := by
  have key : ∀ (n : Nat) (i : Nat), i ≤ l.length → l.length - i < n → iterA step n (st i) = some (if (l.drop i).all p = true then .inl o else .inr q) := by
    intro n
    induction n with
    | zero => intro i _ h; omega
    | succ n ih =>
      intro i hi h
      show ob (step (st i)) _ = _
      by_cases hlt : i < l.length
      · obtain ⟨y, hy, hy2⟩ := idx_get (l := l) (i := (i : Int)) (by omega) (by omega)
        have hd : l.drop i = y :: l.drop (i + 1) := by
          rw [List.drop_eq_getElem_cons hlt]
          congr 1
          have := List.getElem?_eq_getElem hlt
          rw [show l[(i : Int).toNat]? = l[i]? by simp, this] at hy2
          cases hy2; rfl
        rw [hd, List.all_cons]
        cases hp : p y with
        | true =>
          rw [hn i y (by omega) (by omega) hy hy2 hp, Bool.true_and]
          exact ih (i + 1) (by omega) (by omega)
        | false =>
          rw [hb i y (by omega) (by omega) hy hy2 hp, Bool.false_and]
          rfl
      · have : i = l.length := by omega
        subst this
        rw [ho, List.drop_length]
        rfl
  exact key n 0 (by omega) (by omega)
theorem hasRat_eq {l : List RatD} (hl : l.length ≤ 1048576) : hasRat (l, ()) = some (l.any fun v => v.2 == 0) := by
  obtain ⟨b, t, e, h1, h2⟩ := find_loop (step := findRatL_step) (l := l) (fun i => (l, (), 0, (l.length : Int), i)) (fun v => v.2 == 0) (fun i t => t.2.2.1 = i)
    (fun i y h0 h1 hy hp => by
      show br (decide (i < (l.length : Int))) (ob (idx l i) fun y => ob (speedFnI (y.1, y.2)) fun y => br y _ (some (LRes.next, l, (), 0, (l.length : Int), IntKind.i64.wrap (i + 1)))) _ = _
      rw [br_t (by simpa using h1), hy, ob_s, show speedFnI (y.1, y.2) = some (y.2 == 0) from rfl, ob_s, br_f hp, w64 (by omega) (by omega)])
    (fun i y h0 h1 hy hp => by
      show ∃ s, br (decide (i < (l.length : Int))) (ob (idx l i) fun y => ob (speedFnI (y.1, y.2)) fun y => br y (some (LRes.ret, l, (), i, (l.length : Int), i)) _) _ = _ ∧ _
      rw [br_t (by simpa using h1), hy, ob_s, show speedFnI (y.1, y.2) = some (y.2 == 0) from rfl, ob_s, br_t hp]
      exact ⟨_, rfl, rfl⟩)
    ⟨_, by
      show br (decide ((l.length : Int) < (l.length : Int))) _ _ = _
      rw [br_f (by simp)]⟩ (n := ((l.length : Int) - 0).toNat + 1) (by omega)
  have e' : findRatL (l, (), 0, (l.length : Int), 0) = some (b, t) := e
  have ef : findRat (l, ()) = some (placeOf (fun v => v.2 == 0) l) := by
    show ob (findRatL (l, (), 0, (l.length : Int), 0)) _ = _
    rw [e']
    unfold placeOf
    cases b with
    | true => rw [h1 rfl]; rfl
    | false =>
      obtain ⟨k, k1, k2⟩ := h2 rfl
      rw [k1]
      show some t.2.2.1 = _
      rw [k2]
  show ob (findRat (l, ())) (fun y => some (decide (0 ≤ y))) = _
  rw [ef, ob_s, placeOf_any]
theorem knownS_all (w : WorksD) {l : List RatD} (hl : l.length ≤ 1048576) : speedsSK (w, knownB l, l, 0) = some (if (l.any fun v => v.2 == 0) = true then .inr ([], 6) else .inl (w, knownB l, l, (l.length : Int))) := by
  have hlen : (knownB l).length = l.length := by unfold knownB; simp
  have h := all_loopA (step := speedsSK_step) (l := knownB l) (fun i => (w, knownB l, l, i)) (fun b => b) (w, knownB l, l, ((knownB l).length : Int)) ([], 6)
    (fun i y h0 h1 hy hy2 hp => by
      show br (decide (i < ((knownB l).length : Int))) (ob (idx (knownB l) i) fun _ => ob ((knownB l)[i.toNat]?) fun y => br (!y) _ (some (LS.next (w, knownB l, l, IntKind.i64.wrap (i + 1))))) _ = _
      rw [br_t (by simpa using h1), hy, ob_s, hy2, ob_s, br_f (by simp [hp]), w64 (by omega) (by omega)])
    (fun i y h0 h1 hy hy2 hp => by
      show br (decide (i < ((knownB l).length : Int))) (ob (idx (knownB l) i) fun _ => ob ((knownB l)[i.toNat]?) fun y => br (!y) (some (LS.ret ([], 6))) _) _ = _
      rw [br_t (by simpa using h1), hy, ob_s, hy2, ob_s, br_t (by simp [hp])])
    (by
      show br (decide (((knownB l).length : Int) < ((knownB l).length : Int))) _ _ = _
      rw [br_f (by simp)]) (n := ((knownB l).length - (0 : Int).toNat) + 1) (by simp)
  have h' : speedsSK (w, knownB l, l, 0) = _ := h
  rw [h', hlen]
  have e : (knownB l).all (fun b => b) = !(l.any fun v => v.2 == 0) := by
    unfold knownB
    rw [List.all_map, List.all_eq_not_any_not]
    congr 1
    congr 1
    funext v
    simp [bne]
  rw [e]
  cases (l.any fun v => v.2 == 0) <;> rfl
/-- A mesh fits the speeds of its arbors. -/
def fitF (w : WorksD) (sp : List RatD) (m : MeshD) : Bool := match idx sp m.1, idx sp m.2.2.1, pairWI ((w.1, w.2), m.1, m.2.1, m.2.2.1, m.2.2.2) with
  | some x, some y, some p => (meshF x p.1 p.2).2 == 0 && ((meshF x p.1 p.2).1.1 == y.1 && (meshF x p.1 p.2).1.2 == y.2)
  | _, _, _ => false
theorem fits_both {sp : List RatD} (hk : worksOk w = true) (hw : smallW w) (hsp : SpOk w r0 P sp) (ha : (sp.any fun v => v.2 == 0) = false) :
    speedsOIL (w, sp, w.2, (w.2.length : Int), 0) = some (if w.2.all (fitF w sp) = true then .inl (w, sp, w.2, (w.2.length : Int), (w.2.length : Int)) else .inr ([], 10)) ∧
    speedsSF (w, sp, 0) = some (if w.2.all (fitF w sp) = true then .inl (w, sp, (w.2.length : Int)) else .inr ([], 10)) := by
  have hl := hw.2.2
  have hlen := hsp.len
  have each : ∀ m ∈ w.2, ∃ x y p, idx sp m.1 = some x ∧ sp[m.1.toNat]? = some x ∧ idx sp m.2.2.1 = some y ∧ sp[m.2.2.1.toNat]? = some y ∧ vR x = true ∧ teeth p.1 ∧ teeth p.2 ∧ pairWI ((w.1, w.2), m.1, m.2.1, m.2.2.1, m.2.2.2) = some p ∧ fitF w sp m = ((meshF x p.1 p.2).2 == 0 && ((meshF x p.1 p.2).1.1 == y.1 && (meshF x p.1 p.2).1.2 == y.2)) := by
    intro m hm
    obtain ⟨p, a1, a2, a3, t1, t2, ep⟩ := meshes_ok hk hm
    obtain ⟨x, hx, hx2⟩ := idx_get (l := sp) a1.1 (by omega)
    obtain ⟨y, hy, hy2⟩ := idx_get (l := sp) a2.1 (by omega)
    have hx0 := List.any_eq_false.1 ha x (List.mem_of_getElem? hx2)
    refine ⟨x, y, p, hx, hx2, hy, hy2, okSp_den (hsp.ok x (List.mem_of_getElem? hx2)) (by simpa using hx0), t1, t2, ep, ?_⟩
    unfold fitF
    rw [hx, hy, ep]
  constructor
  · refine all_loopA (step := speedsOIL_step) (l := w.2) (fun i => (w, sp, w.2, (w.2.length : Int), i)) (fitF w sp) (w, sp, w.2, (w.2.length : Int), (w.2.length : Int)) ([], 10) (fun i m h0 h1 hm hm2 hp => ?_) (fun i m h0 h1 hm hm2 hp => ?_) ?_ (n := ((w.2.length : Int) - 0).toNat + 1) (by omega)
    · obtain ⟨x, y, p, hx, hx2, hy, hy2, vx, t1, t2, ep, ef⟩ := each m (List.mem_of_getElem? hm2)
      rw [ef] at hp
      simp only [Bool.and_eq_true] at hp
      unfold speedsOIL_step
      dsimp only
      rw [br_t (by simpa using h1), hm, ob_s, ep, ob_s, hx, ob_s, gi, hx2, ob_s, meshedI_eq vx t1 t2, ob_s, br_f (by rw [bne, hp.1]; rfl), hy, ob_s, gi, hy2, ob_s, hp.2.1, hp.2.2, w64 (by omega) (by omega)]
      rfl
    · obtain ⟨x, y, p, hx, hx2, hy, hy2, vx, t1, t2, ep, ef⟩ := each m (List.mem_of_getElem? hm2)
      rw [ef] at hp
      unfold speedsOIL_step
      dsimp only
      rw [br_t (by simpa using h1), hm, ob_s, ep, ob_s, hx, ob_s, gi, hx2, ob_s, meshedI_eq vx t1 t2, ob_s]
      cases hc : (meshF x p.1 p.2).2 == 0 with
      | false => rw [br_t (by rw [bne, hc]; rfl)]
      | true =>
        rw [hc, Bool.true_and] at hp
        rw [br_f (by rw [bne, hc]; rfl), hy, ob_s, gi, hy2, ob_s, hp]
        rfl
    · unfold speedsOIL_step
      dsimp only
      rw [br_f (by simp)]
  · refine all_loopA (step := speedsSF_step) (l := w.2) (fun i => (w, sp, i)) (fitF w sp) (w, sp, (w.2.length : Int)) ([], 10) (fun i m h0 h1 hm hm2 hp => ?_) (fun i m h0 h1 hm hm2 hp => ?_) ?_ (n := (w.2.length - (0 : Int).toNat) + 1) (by omega)
    all_goals try
      obtain ⟨x, y, p, hx, hx2, hy, hy2, vx, t1, t2, ep, ef⟩ := each m (List.mem_of_getElem? hm2)
      have e : fitsS (w, (m.1, m.2.1, m.2.2.1, m.2.2.2), sp) = some (fitF w sp m) := by
        have eps : pairWS (w, m.1, m.2.1, m.2.2.1, m.2.2.2) = some p := ep
        unfold fitsS
        dsimp only
        rw [eps, ob_s, hx]
        show ob (mkS (IntKind.i64.wrap ((0 : Int) - p.1), p.2)) (fun z => ob (mulS ((x.1, x.2), z.fst.1, z.fst.2)) fun r => br r.2 (ob (idx sp m.2.2.1) fun y => some (r.fst.1 == y.1 && r.fst.2 == y.2)) (some false)) = _
        rw [meshS_step vx t1 t2, ef, hy]
        cases (meshF x p.1 p.2).2 == 0 <;> rfl
      unfold speedsSF_step
      dsimp only
      rw [br_t (by simpa using h1), hm, ob_s, e, ob_s, hp]
    · rw [w64 (by omega) (by omega)]; rfl
    · rfl
    · unfold speedsSF_step
      dsimp only
      rw [br_f (by simp)]

/-! ### Both answer alike -/
theorem speeds_both (hw : smallW w) (root : Int) (hP : closed w P) (h1 : P root (1, 1)) : ∃ v, speedsOI ((w.1, w.2), root) = some v ∧ speedsOS ((w.1, w.2), root) = some v ∧ ((v.1 = [] ∧ ((v.2 = 1 ∧ worksOk w = false) ∨ v.2 = 2 ∨ (v.2 = 6 ∧ ∃ sp, SpOk w root.toNat P sp ∧ (∀ m ∈ w.2, sameK sp m) ∧ (sp.any fun v => v.2 == 0) = true) ∨ (v.2 = 10 ∧ ∃ sp, SpOk w root.toNat P sp ∧ (sp.any fun v => v.2 == 0) = false ∧ w.2.all (fitF w sp) = false))) ∨
    (v.2 = 0 ∧ worksOk w = true ∧ (0 ≤ root ∧ root < w.1.length) ∧ SpOk w root.toNat P v.1 ∧ (v.1.any fun v => v.2 == 0) = false ∧ w.2.all (fitF w v.1) = true)) := by
  have h1l := hw.1
  have e1 : validWI (w.1, w.2) = some (worksOk w) := validWI_eq hw
  have e2 : okWS (w.1, w.2) = some (worksOk w) := okWS_eq hw
  unfold speedsOI speedsOS
  dsimp only
  rw [e1, e2, ob_s, ob_s]
  cases hk : worksOk w with
  | false => exact ⟨_, rfl, rfl, .inl ⟨rfl, .inl ⟨rfl, rfl⟩⟩⟩
  | true =>
    rw [br_f (c := !true) rfl, br_f (c := !true) rfl, withinP_eq, ob_s]
    unfold speedsS rootS
    dsimp only
    rw [inP_eq, ob_s, ob_s, w64 (by omega) (by omega)]
    cases hr : inF root 0 ((w.1.length : Int) - 1) with
    | false => exact ⟨_, rfl, rfl, .inl ⟨rfl, .inr (.inl rfl)⟩⟩
    | true =>
      unfold inF at hr
      rw [Bool.and_eq_true, decide_eq_true_eq, decide_eq_true_eq] at hr
      have hn : (w.1.length : Int).toNat = w.1.length := by omega
      obtain ⟨a, ha, ha2⟩ := idx_get (l := List.replicate w.1.length ((0 : Int), (0 : Int))) (i := root) hr.1 (by rw [List.length_replicate]; omega)
      obtain ⟨b, hb, hb2⟩ := idx_get (l := List.replicate w.1.length false) (i := root) hr.1 (by rw [List.length_replicate]; omega)
      rw [br_f (c := !true) rfl, br_f (c := !true) rfl]
      unfold speedsFI
      dsimp only
      have hd : decide ((0 : Int) ≤ (w.1.length : Int) ∧ (w.1.length : Int) = (w.1.length : Int) ∧ (w.1.length : Int) ≤ 1048576) = true := by simp; omega
      rw [br_t hd, br_t hd, br_t hd, hn]
      simp only [gi, ha, ha2, hb, hb2, ob_s, show wholeS 1 = some (1, 1) from rfl]
      rw [show (List.replicate w.1.length ((0 : Int), (0 : Int))).set root.toNat ((1 : Int), (1 : Int)) = sp0 w.1.length root from rfl, ← known0]
      have hsp := sp0_ok (w := w) (P := P) hr.1 (by omega) h1
      rcases spread_sim hk hw hP hsp with ⟨sp, q1, q2, q3, q4⟩ | ⟨q1, q2⟩
      · have q1' : speedsIL ((w.1, w.2), sp0 w.1.length root, true) = _ := q1
        have q2' : speedsSL ((w.1, w.2), knownB (sp0 w.1.length root), sp0 w.1.length root, true) = _ := q2
        have hlen := q3.len
        rw [q1', q2']
        simp only [ob_s, el]
        have f1 : hasRat (sp, PUnit.unit) = some (sp.any fun v => v.2 == 0) := hasRat_eq (l := sp) (by omega)
        have f2 : speedsSK ((w.1, w.2), knownB sp, sp, 0) = some (if (sp.any fun v => v.2 == 0) = true then .inr ([], 6) else .inl (w, knownB sp, sp, (sp.length : Int))) := knownS_all w (l := sp) (by omega)
        show ∃ v, br ((0 : Int) != 0) _ (ob (hasRat (sp, PUnit.unit)) _) = _ ∧ _
        rw [br_f (by rfl), f1, f2, ob_s, ob_s]
        cases ha : (sp.any fun v => v.2 == 0) with
        | true =>
          rw [br_t (c := true) rfl]
          exact ⟨_, rfl, rfl, .inl ⟨rfl, .inr (.inr (.inl ⟨rfl, sp, q3, q4, ha⟩))⟩⟩
        | false =>
          obtain ⟨g1, g2⟩ := fits_both hk hw q3 ha
          have g1' : speedsOIL ((w.1, w.2), sp, w.2, (w.2.length : Int), 0) = _ := g1
          have g2' : speedsSF (w, sp, 0) = _ := g2
          rw [br_f (c := false) rfl, g1']
          rw [if_neg (show ¬ (false = true) by decide)]
          show ∃ v, _ ∧ ob (ob (speedsSF (w, sp, 0)) _) _ = _ ∧ _
          rw [g2']
          cases hf : w.2.all (fitF w sp) with
          | true => exact ⟨_, rfl, rfl, .inr ⟨rfl, trivial, ⟨hr.1, by omega⟩, q3, ha, hf⟩⟩
          | false => exact ⟨_, rfl, rfl, .inl ⟨rfl, .inr (.inr (.inr ⟨rfl, sp, q3, ha, hf⟩))⟩⟩
      · have q1' : speedsIL ((w.1, w.2), sp0 w.1.length root, true) = _ := q1
        have q2' : speedsSL ((w.1, w.2), knownB (sp0 w.1.length root), sp0 w.1.length root, true) = _ := q2
        rw [q1', q2']
        exact ⟨_, rfl, rfl, .inl ⟨rfl, .inr (.inl rfl)⟩⟩
end

/-! ### The law -/
theorem eqRatS_self {l : List RatD} (hl : l.length ≤ 4294967296) : eqRatS (l, l) = some true := by
  obtain ⟨i', h⟩ := eq_loop (step := eqRatSL_step) hl (fun i b y h0 h1 hy => by
    have e : eqRatL1 (y, y) = some true := by
      unfold eqRatL1
      simp only [bne_self_eq_false, br]
    show br (decide (i < (l.length : Int))) (ob (idx l i) fun y => ob (idx l i) fun y_1 => ob (eqRatL1 (y, y_1)) fun y => br (!y) _ (some (LRes.next, l, l, b, IntKind.i64.wrap (i + 1)))) _ = _
    rw [br_t (by simpa using h1), hy]
    show ob (eqRatL1 (y, y)) _ = _
    rw [e]
    show some (LRes.next, l, l, b, IntKind.i64.wrap (i + 1)) = _
    rw [w64 (by omega) (by omega)]) (fun i b h => by
    show br (decide (i < (l.length : Int))) _ _ = _
    rw [br_f (by simpa using h)]) false
  have h' : eqRatSL (l, l, false, 0) = some (true, (l, l, false, i')) := h
  show br ((l.length : Int) != (l.length : Int)) _ (ob (eqRatSL (l, l, false, 0)) _) = _
  rw [br_f (by simp), h']
  rfl
abbrev fR : Int → RatD → RatD := fun k _ => (k, k + 1)
abbrev gR : Int → RatD → Int := fun k _ => k + 2
theorem gR_bd (k : Int) (y : RatD) : k ≤ gR k y ∧ gR k y ≤ k + 2 := ⟨by show k ≤ k + 2; omega, Int.le_refl _⟩
theorem markRat_eq {l : List RatD} (hl : l.length ≤ 1048576) : markRat (l, 1) = some (scanK gR l 1, scanL fR gR l 1, 1) := by
  have h := scan_loop (step := markRatL_step) (f := fR) (g := gR) (c := 2) (by omega) hl (k0 := 1) (by omega) (fun k y _ => gR_bd k y)
    (fun l' k i y hl' h0 h1 k0 k1 _ hy hy2 => by
      have e1 : idx (l'.set i.toNat (k, y.2)) i = some (k, y.2) := idx_set h0 (by omega)
      have e2 : (l'.set i.toNat (k, y.2))[i.toNat]? = some (k, y.2) := get_set (by omega)
      show br (decide (i < (l'.length : Int))) (ob (idx l' i) fun _ => ob (l'[i.toNat]?) fun x_2 => ob (idx (l'.set i.toNat (k, x_2.2)) i) fun _ => ob ((l'.set i.toNat (k, x_2.2))[i.toNat]?) fun x_4 => some (LRes.next, (l'.set i.toNat (k, x_2.2)).set i.toNat (x_4.1, IntKind.i64.wrap (k + 1)), IntKind.i64.wrap (IntKind.i64.wrap (k + 1) + 1), IntKind.i64.wrap (i + 1))) _ = _
      rw [br_t (by simp; omega), hy, hy2, ob_s, ob_s, e1, e2, ob_s, ob_s, w64 (x := k + 1) (by omega) (by omega), w64 (x := k + 1 + 1) (by omega) (by omega), w64 (x := i + 1) (by omega) (by omega), List.set_set, show k + 1 + 1 = k + 2 by omega])
    (fun l' k i hl' hi => by
      show br (decide (i < (l'.length : Int))) _ _ = _
      rw [br_f (by simp; omega)]) (n := l.length - (0 : Int).toNat + 1) (by simp)
  have h' : markRatL (l, 1, 0) = some (scanL fR gR l 1, scanK gR l 1, (l.length : Int)) := h
  unfold markRat
  rw [h']; rfl
theorem heldRat_eq {l : List RatD} (hl : l.length ≤ 1048576) : heldRat (scanL fR gR l 1, 1) = some (scanK gR l 1) := by
  have hlen := scanL_len fR gR l 1
  have h := scan_held (step := heldRatL_step) (f := fR) (g := gR) (c := 2) (by omega) hl (k0 := 1) (by omega) (fun k y _ => gR_bd k y)
    (fun k' r i y h0 h1 k0 k1 _ hy => by
      show br (decide (i < ((scanL fR gR l 1).length : Int))) (ob (idx (scanL fR gR l 1) i) fun y => br (y.1 != k') _ (ob (idx (scanL fR gR l 1) i) fun y => br (y.2 != IntKind.i64.wrap (k' + 1)) _ (some (LRes.next, scanL fR gR l 1, IntKind.i64.wrap (IntKind.i64.wrap (k' + 1) + 1), r, IntKind.i64.wrap (i + 1))))) _ = _
      rw [br_t (by simp; omega), hy, ob_s, br_f (by simp), ob_s, w64 (x := k' + 1) (by omega) (by omega), br_f (by simp), w64 (x := k' + 1 + 1) (by omega) (by omega), w64 (x := i + 1) (by omega) (by omega), show k' + 1 + 1 = k' + 2 by omega])
    (fun k' r i hi => by
      show br (decide (i < ((scanL fR gR l 1).length : Int))) _ _ = _
      rw [br_f (by simp; omega)]) 0 (n := (scanL fR gR l 1).length - (0 : Int).toNat + 1) (by rw [hlen]; simp)
  have h' : heldRatL (scanL fR gR l 1, 1, 0, 0) = some (true, (scanL fR gR l 1, scanK gR l 1, 0, (l.length : Int))) := h
  unfold heldRat
  rw [h']; rfl
theorem closed_all (w : WorksD) : closed w fun _ _ => True := fun _ _ _ _ => ⟨fun _ _ _ _ => trivial, fun _ _ _ _ => trivial⟩
theorem lawSpeeds_holds (x : WorksD × Int) (h : WfAll [WorksT, i64] x) : lawSpeeds x = some true := by
  obtain ⟨w, root⟩ := x
  have hw : Wf WorksT w := h.1
  unfold lawSpeeds
  dsimp only
  rcases szWorksL_cases hw (k := 1048576) (by omega) (by omega) with e | ⟨k, e, l1, k0, k1⟩
  · have e' : szWorksL ((w.1, w.2), 1048576) = some (-1) := e
    rw [e']; rfl
  · have e' : szWorksL ((w.1, w.2), 1048576) = some k := e
    have ew : toWorksD (w.1, w.2) = some w := toWorksD_eq l1
    obtain ⟨v, e1, e2, hv⟩ := speeds_both (P := fun _ _ => True) l1 root (closed_all w) trivial
    have e3 : eqWorksL ((w.1, w.2), (w.1, w.2)) = some true := eqWorksL_self l1
    have hvl : v.1.length ≤ 1048576 := by
      rcases hv with ⟨h, _⟩ | ⟨_, _, _, h, _⟩
      · rw [h]; simp
      · have := h.len
        have := l1.1
        omega
    have e4 : eqRatS (v.1, v.1) = some true := eqRatS_self (by omega)
    obtain ⟨k', w', e5, k2⟩ := markWorksD_tot l1
    have e5' : markWorksD ((w.1, w.2), 1) = some (k', w', 1) := e5
    have b1 := scanK_bd (g := gR) (c := 2) (by omega) v.1 1 fun k y _ => gR_bd k y
    rw [e', ob_s, br_f (by simpa using k0)]
    simp only [ew, e1, e2, e3, e4, e5', markRat_eq hvl, heldRat_eq hvl, ob_s]
    rw [br_f (c := !true) rfl, br_f (by simp), br_f (c := !true) rfl, br_f (by simp; omega), br_f (c := !true) rfl, br_f (by simp), br_f (by simp; omega), br_f (by simp), br_f (c := !true) rfl, br_f (by simp), br_f (by simp; omega), br_f (by simp)]
end Rx
end Go.Proofs.Ythehdbedojcpdaa
