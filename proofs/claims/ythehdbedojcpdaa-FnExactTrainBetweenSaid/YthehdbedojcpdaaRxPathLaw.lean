/- Shortest paths between arbors: the implementation's answers are the spec's, in plain terms. No program in sight. -/
import Derived.Test.YthehdbedojcpdaaRxStepLaw
namespace Go.Proofs.Ythehdbedojcpdaa
namespace Rx
open Go

/-! ### The reference's rounds -/
structure Lev (w : WorksD) (goal : Int) (st : List Int) (far : Int) : Prop where
  base : Base w goal st
  top : ∀ (i : Nat) v, st[i]? = some v → v ≤ far
  closed : ∀ (a b : Int) x, 0 ≤ a → adj w a b → st[a.toNat]? = some x → 0 ≤ x → x < far → ∃ y, st[b.toNat]? = some y ∧ 0 ≤ y ∧ y ≤ x + 1
structure LevM (w : WorksD) (goal : Int) (st : List Int) (far : Int) (i : Nat) : Prop where
  base : Base w goal st
  top : ∀ (i : Nat) v, st[i]? = some v → v ≤ far + 1
  closed : ∀ (a b : Int) x, 0 ≤ a → adj w a b → st[a.toNat]? = some x → 0 ≤ x → x < far → ∃ y, st[b.toNat]? = some y ∧ 0 ≤ y ∧ y ≤ x + 1
  dn : ∀ (j : Nat) m, j < i → w.2[j]? = some m → ∀ x y, st[m.1.toNat]? = some x → st[m.2.2.1.toNat]? = some y → (x = far → 0 ≤ y) ∧ (y = far → 0 ≤ x)
theorem LevM.set {w : WorksD} {goal : Int} {st : List Int} {far : Int} {i : Nat} (L : LevM w goal st far i) (hf : 0 ≤ far) {a b y : Int} (a0 : 0 ≤ a) (b0 : 0 ≤ b) (ha : st[a.toNat]? = some far) (hb : st[b.toNat]? = some y) (hy : y < 0) (had : adj w b a) : LevM w goal (st.set b.toNat (far + 1)) far i := by
  have bl := (List.getElem?_eq_some_iff.1 hb).1
  have self : (st.set b.toNat (far + 1))[b.toNat]? = some (far + 1) := List.getElem?_set_self bl
  have keep : ∀ (i : Nat) v, st[i]? = some v → 0 ≤ v → (st.set b.toNat (far + 1))[i]? = some v := fun i v hv h0 => by
    have : b.toNat ≠ i := fun e => by
      rw [e] at hb; rw [hv] at hb; cases hb; omega
    rw [List.getElem?_set_ne this]; exact hv
  have at_ : ∀ (i : Nat) v, (st.set b.toNat (far + 1))[i]? = some v → (i = b.toNat ∧ v = far + 1) ∨ (i ≠ b.toNat ∧ st[i]? = some v) := fun i v hv => by
    by_cases e : i = b.toNat
    · subst e
      rw [self] at hv
      cases hv; exact .inl ⟨rfl, rfl⟩
    · rw [List.getElem?_set_ne (fun e' => e e'.symm)] at hv
      exact .inr ⟨e, hv⟩
  refine ⟨L.base.set a0 b0 hb hy ha hf had, fun i v hv => ?_, fun c d x c0 hcd hx x0 x1 => ?_, fun j m hj hm x z hx hz => ?_⟩
  · rcases at_ i v hv with ⟨_, rfl⟩ | ⟨_, hv⟩
    · exact Int.le_refl _
    · exact L.top i v hv
  · rcases at_ _ _ hx with ⟨_, e⟩ | ⟨_, hx⟩
    · omega
    · obtain ⟨z, hz, z0, z1⟩ := L.closed c d x c0 hcd hx x0 x1
      exact ⟨z, keep _ _ hz z0, z0, z1⟩
  · constructor
    · intro e
      rcases at_ _ _ hx with ⟨_, e1⟩ | ⟨_, hx⟩
      · omega
      · rcases at_ _ _ hz with ⟨_, e1⟩ | ⟨_, hz⟩
        · omega
        · exact (L.dn j m hj hm x z hx hz).1 e
    · intro e
      rcases at_ _ _ hz with ⟨_, e1⟩ | ⟨_, hz⟩
      · omega
      · rcases at_ _ _ hx with ⟨_, e1⟩ | ⟨_, hx⟩
        · omega
        · exact (L.dn j m hj hm x z hx hz).2 e
theorem LevM.next {w : WorksD} {goal : Int} {st : List Int} {far : Int} {i : Nat} (L : LevM w goal st far i) {m : MeshD} (hm : w.2[i]? = some m) (h : ∀ x y, st[m.1.toNat]? = some x → st[m.2.2.1.toNat]? = some y → (x = far → 0 ≤ y) ∧ (y = far → 0 ≤ x)) : LevM w goal st far (i + 1) :=
  ⟨L.base, L.top, L.closed, fun j m' hj hm' x y hx hy => by
    by_cases e : j < i
    · exact L.dn j m' e hm' x y hx hy
    · have : j = i := by omega
      subst this
      rw [hm] at hm'; cases hm'
      exact h x y hx hy⟩
theorem lev_mesh {w : WorksD} (hk : worksOk w = true) (hm : w.2.length ≤ 24) {goal far : Int} (hf : 0 ≤ far ∧ far ≤ 100) : ∀ (f : Nat) (st : List Int) (i : Nat), LevM w goal st far i → i ≤ w.2.length → w.2.length - i < f →
    ∃ st', iterP stepSM_step f (w, st, far, (i : Int)) = some (w, st', far, (w.2.length : Int)) ∧ LevM w goal st' far w.2.length := by
  intro f
  induction f with
  | zero => intro st i _ _ h; omega
  | succ f ih =>
    intro st i L hi hfu
    show ∃ st', ob (stepSM_step (w, st, far, (i : Int))) _ = _ ∧ _
    by_cases hlt : i < w.2.length
    · obtain ⟨m, hm1, hm2⟩ := idx_get (l := w.2) (i := (i : Int)) (by omega) (by omega)
      have hm3 : w.2[i]? = some m := hm2
      have hmm := List.mem_of_getElem? hm3
      obtain ⟨p, a1, a2, a3, _, _, _⟩ := meshes_ok hk hmm
      have hlen := L.base.len
      obtain ⟨x, hx, hx2⟩ := idx_get (l := st) a1.1 (by omega)
      obtain ⟨y, hy, hy2⟩ := idx_get (l := st) a2.1 (by omega)
      have ew : IntKind.i64.wrap ((i : Int) + 1) = (i : Int) + 1 := w64 (by omega) (by omega)
      have ef : IntKind.i64.wrap (far + 1) = far + 1 := w64 (by omega) (by omega)
      have go : ∀ st1, LevM w goal st1 far (i + 1) → ∃ st', iterP stepSM_step f (w, st1, far, (i : Int) + 1) = some (w, st', far, (w.2.length : Int)) ∧ LevM w goal st' far w.2.length := fun st1 L1 => by
        have := ih st1 (i + 1) L1 (by omega) (by omega)
        rw [show ((i + 1 : Nat) : Int) = (i : Int) + 1 by push_cast; rfl] at this
        exact this
      unfold stepSM_step
      dsimp only
      rw [br_t (by simp; omega), hm1, ob_s, hx, ob_s, gi, hx2, ob_s, ef, ew]
      by_cases x0 : x = far
      · rw [br_t (by simpa using x0), hy, ob_s, gi, hy2, ob_s]
        by_cases y0 : y < 0
        · have s1 : (st.set m.2.2.1.toNat (far + 1))[m.2.2.1.toNat]? = some (far + 1) := get_set (by omega)
          have s2 : idx (st.set m.2.2.1.toNat (far + 1)) m.2.2.1 = some (far + 1) := idx_set a2.1 (by omega)
          rw [br_t (by simpa using y0), ob_s, ob_s, s2, ob_s, gi, s1, ob_s, br_f (by simp; omega)]
          subst x0
          have L1 := L.set hf.1 a1.1 a2.1 hx2 hy2 y0 ⟨m, hmm, .inr ⟨rfl, rfl⟩⟩
          refine go _ (L1.next hm3 fun u v hu hv => ?_)
          rw [s1] at hv; cases hv
          have hne : m.2.2.1.toNat ≠ m.1.toNat := by omega
          rw [List.getElem?_set_ne hne, hx2] at hu
          cases hu
          exact ⟨fun _ => by omega, fun _ => by omega⟩
        · rw [br_f (by simpa using y0), ob_s, ob_s]
          have L1 := L.next hm3 fun u v hu hv => by
            rw [hx2] at hu; rw [hy2] at hv
            cases hu; cases hv
            exact ⟨fun _ => by omega, fun _ => by omega⟩
          by_cases y1 : y = far
          · rw [br_t (by simpa using y1), ob_s, ob_s, br_f (by simp; omega)]
            exact go st L1
          · rw [br_f (by simpa using y1)]
            exact go st L1
      · rw [br_f (by simpa using x0), hy, ob_s, gi, hy2, ob_s]
        by_cases y1 : y = far
        · rw [br_t (by simpa using y1), ob_s, ob_s]
          by_cases x1 : x < 0
          · rw [br_t (by simpa using x1), ob_s, ob_s]
            subst y1
            have s1 : (st.set m.1.toNat (y + 1))[m.1.toNat]? = some (y + 1) := get_set (by omega)
            have L1 := L.set hf.1 a2.1 a1.1 hy2 hx2 x1 ⟨m, hmm, .inl ⟨rfl, rfl⟩⟩
            refine go _ (L1.next hm3 fun u v hu hv => ?_)
            rw [s1] at hu; cases hu
            have hne : m.1.toNat ≠ m.2.2.1.toNat := by omega
            rw [List.getElem?_set_ne hne, hy2] at hv
            cases hv
            exact ⟨fun _ => by omega, fun _ => by omega⟩
          · rw [br_f (by simpa using x1)]
            refine go st (L.next hm3 fun u v hu hv => ?_)
            rw [hx2] at hu; rw [hy2] at hv
            cases hu; cases hv
            exact ⟨fun _ => by omega, fun _ => by omega⟩
        · rw [br_f (by simpa using y1)]
          refine go st (L.next hm3 fun u v hu hv => ?_)
          rw [hx2] at hu; rw [hy2] at hv
          cases hu; cases hv
          exact ⟨fun e => (x0 e).elim, fun e => (y1 e).elim⟩
    · have : i = w.2.length := by omega
      subst this
      refine ⟨st, ?_, L⟩
      unfold stepSM_step
      dsimp only
      rw [br_f (by simp)]
      rfl
theorem lev_walk {w : WorksD} (hk : worksOk w = true) (hn : w.1.length ≤ 16) (hm : w.2.length ≤ 24) {goal : Int} : ∀ (f : Nat) (st : List Int) (far : Nat), Lev w goal st far → far ≤ w.1.length → w.1.length - far < f → ∃ st', iterP stepSF_step f (w, st, (far : Int)) = some (w, st', (w.1.length : Int)) ∧ Dist w goal st' := by
  intro f
  induction f with
  | zero => intro st far _ _ h; omega
  | succ f ih =>
    intro st far L hfar hfu
    show ∃ st', ob (stepSF_step (w, st, (far : Int))) _ = _ ∧ _
    by_cases hlt : far < w.1.length
    · have L0 : LevM w goal st far 0 := ⟨L.base, fun i v hv => by have := L.top i v hv; omega, L.closed, fun j m hj => by omega⟩
      obtain ⟨st1, e1, L1⟩ := lev_mesh hk hm (far := (far : Int)) (by omega) ((w.2.length - (0 : Int).toNat) + 1) st 0 L0 (by omega) (by simp)
      have e1' : stepSM (w, st, (far : Int), 0) = some (w, st1, (far : Int), (w.2.length : Int)) := e1
      have L2 : Lev w goal st1 ((far + 1 : Nat) : Int) := by
        refine ⟨L1.base, fun i v hv => by have := L1.top i v hv; push_cast; exact this, fun a b x a0 had hx x0 x1 => ?_⟩
        by_cases e : x < (far : Int)
        · exact L1.closed a b x a0 had hx x0 e
        · have ex : x = (far : Int) := by push_cast at x1; omega
          obtain ⟨m, hmm, h1⟩ := had
          obtain ⟨p, a1, a2, _, _, _, _⟩ := meshes_ok hk hmm
          have hlen := L1.base.len
          obtain ⟨j, hj1, hj2⟩ := List.mem_iff_getElem.1 hmm
          obtain ⟨u, _, hu2⟩ := idx_get (l := st1) a1.1 (by omega)
          obtain ⟨v, _, hv2⟩ := idx_get (l := st1) a2.1 (by omega)
          have hd := L1.dn j m hj1 (by rw [List.getElem?_eq_getElem hj1, hj2]) u v hu2 hv2
          rcases h1 with ⟨rfl, rfl⟩ | ⟨rfl, rfl⟩
          · rw [hu2] at hx; cases hx
            exact ⟨v, hv2, hd.1 ex, by have := L1.top _ _ hv2; omega⟩
          · rw [hv2] at hx; cases hx
            exact ⟨u, hu2, hd.2 ex, by have := L1.top _ _ hu2; omega⟩
      obtain ⟨st', e2, D⟩ := ih st1 (far + 1) L2 (by omega) (by omega)
      refine ⟨st', ?_, D⟩
      unfold stepSF_step
      dsimp only
      rw [br_t (by simp; omega), e1', ob_s]
      dsimp only
      rw [w64 (by omega) (by omega)]
      exact e2
    · have : far = w.1.length := by omega
      subst this
      refine ⟨st, ?_, L.base, fun a b x a0 had hx x0 => L.closed a b x a0 had hx x0 (by have := L.base.hi _ _ hx; omega)⟩
      unfold stepSF_step
      dsimp only
      rw [br_f (by simp)]
      rfl
theorem stepSA_walk {w : WorksD} {goal : Int} {n : Nat} (hn : n ≤ 1000) : ∀ (f : Nat) (i : Nat), i ≤ n → n - i < f → iterP stepSA_step f (w, goal, List.replicate i (-1), (n : Int), (i : Int)) = some (w, goal, List.replicate n (-1), (n : Int), (n : Int)) := by
  intro f
  induction f with
  | zero => intro i _ h; omega
  | succ f ih =>
    intro i hi hf
    show ob (stepSA_step (w, goal, List.replicate i (-1), (n : Int), (i : Int))) _ = _
    unfold stepSA_step
    dsimp only
    by_cases hlt : i < n
    · rw [br_t (by simp; omega), br_t (by simp; omega), w64 (by omega) (by omega)]
      have := ih (i + 1) (by omega) (by omega)
      rw [List.replicate_succ'] at this
      exact this
    · have : i = n := by omega
      subst this
      rw [br_f (by simp)]
      rfl
theorem stepsS_eq {w : WorksD} (hk : worksOk w = true) {goal : Int} (h0 : 0 ≤ goal) (h1 : goal < w.1.length) : ∃ st, stepsS (w, goal) = some st ∧ Dist w goal st := by
  have hk' := hk
  unfold worksOk at hk'
  simp only [Bool.and_eq_true, decide_eq_true_eq] at hk'
  have hn : w.1.length ≤ 16 := by omega
  have hm : w.2.length ≤ 24 := by omega
  have e1 := stepSA_walk (w := w) (goal := goal) (n := w.1.length) (by omega) (((w.1.length : Int) - 0).toNat + 1) 0 (by omega) (by omega)
  have e1' : stepSA (w, goal, [], (w.1.length : Int), 0) = some (w, goal, List.replicate w.1.length (-1), (w.1.length : Int), (w.1.length : Int)) := e1
  have hg : (List.replicate w.1.length (-1 : Int))[goal.toNat]? = some (-1) := by rw [List.getElem?_replicate, if_pos (by omega)]
  have hn' := neg_set (v := 0) hg (by omega) (Int.le_refl _)
  rw [neg_rep] at hn'
  have hb := st0_base (w := w) h0 h1
  have L : Lev w goal (st0 w.1.length goal) ((0 : Nat) : Int) := by
    refine ⟨hb, fun i v hv => ?_, fun a b x a0 _ hx x0 x1 => by omega⟩
    have hd' := hb.hi i v hv
    have hd'' : neg (st0 w.1.length goal) + 1 = w.1.length := hn'
    omega
  obtain ⟨st, e2, D⟩ := lev_walk hk hn hm ((w.1.length - (0 : Int).toNat) + 1) (st0 w.1.length goal) 0 L (by omega) (by simp)
  refine ⟨st, ?_, D⟩
  unfold stepsS
  dsimp only
  rw [e1', ob_s]
  dsimp only
  rw [idx_nat h0 hg, ob_s, gi, hg, ob_s, show stepSF (w, (List.replicate w.1.length (-1)).set goal.toNat 0, 0) = _ from e2]
  rfl
/-- Both find the same. -/
theorem steps_both {w : WorksD} (hk : worksOk w = true) (hs : smallW w) {goal : Int} (h0 : 0 ≤ goal) (h1 : goal < w.1.length) : ∃ st, stepsI ((w.1, w.2), goal) = some st ∧ stepsS (w, goal) = some st ∧ Dist w goal st := by
  obtain ⟨s, e1, D1⟩ := stepsI_eq hk hs h0 h1
  obtain ⟨s', e2, D2⟩ := stepsS_eq hk h0 h1
  have := dist_unique D1 D2
  subst this
  exact ⟨s, e1, e2, D1⟩
end Rx
end Go.Proofs.Ythehdbedojcpdaa
