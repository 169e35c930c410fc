/- How many meshes lie between arbors: the implementation's search along a queue and the reference's rounds find the same. In plain terms. No program in sight. -/
import Derived.Test.YthehdbedojcpdaaRxDeepWLaw
import Derived.Test.YthehdbedojcpdaaRxMeshLaw
import Derived.Test.YthehdbedojcpdaaRxPath
namespace Go.Proofs.Ythehdbedojcpdaa
namespace Rx
open Go

/-! ### Distances -/
def adj (w : WorksD) (a b : Int) : Prop := ∃ m ∈ w.2, (m.1 = a ∧ m.2.2.1 = b) ∨ (m.1 = b ∧ m.2.2.1 = a)
theorem adj.symm {w : WorksD} {a b : Int} (h : adj w a b) : adj w b a := by
  obtain ⟨m, hm, h⟩ := h
  exact ⟨m, hm, h.symm⟩
/-- How many are not reached. -/
def neg (st : List Int) : Nat := st.countP fun v => decide (v < 0)
theorem neg_set : ∀ {st : List Int} {b : Nat} {y v : Int}, st[b]? = some y → y < 0 → 0 ≤ v → neg (st.set b v) + 1 = neg st
  | [], _, _, _, h, _, _ => by simp at h
  | z :: st, 0, y, v, h, h1, h2 => by
    simp at h; subst h
    unfold neg
    rw [List.set_cons_zero, List.countP_cons, List.countP_cons, if_neg (by simpa using h2), if_pos (by simpa using h1)]
  | z :: st, b + 1, y, v, h, h1, h2 => by
    have := neg_set (st := st) (b := b) (v := v) (by simpa using h) h1 h2
    unfold neg at this ⊢
    rw [List.set_cons_succ, List.countP_cons, List.countP_cons]
    omega
structure Base (w : WorksD) (goal : Int) (st : List Int) : Prop where
  len : st.length = w.1.length
  g0 : 0 ≤ goal
  gz : st[goal.toNat]? = some 0
  lo : ∀ (i : Nat) v, st[i]? = some v → -1 ≤ v
  zero : ∀ (i : Nat), st[i]? = some 0 → (i : Int) = goal
  pred : ∀ (i : Nat) v, st[i]? = some v → 0 < v → ∃ j : Int, 0 ≤ j ∧ adj w i j ∧ st[j.toNat]? = some (v - 1)
  hi : ∀ (i : Nat) v, st[i]? = some v → v + neg st ≤ (w.1.length : Int) - 1
theorem Base.set {w : WorksD} {goal : Int} {st : List Int} (h : Base w goal st) {a b d y : Int} (a0 : 0 ≤ a) (b0 : 0 ≤ b) (hb : st[b.toNat]? = some y) (hy : y < 0) (ha : st[a.toNat]? = some d) (hd : 0 ≤ d) (hadj : adj w b a) : Base w goal (st.set b.toNat (d + 1)) := by
  have hn := neg_set (v := d + 1) hb hy (by omega)
  have bl := (List.getElem?_eq_some_iff.1 hb).1
  have at_ : ∀ (i : Nat) v, (st.set b.toNat (d + 1))[i]? = some v → (i = b.toNat ∧ v = d + 1) ∨ (i ≠ b.toNat ∧ st[i]? = some v) := fun i v hv => by
    by_cases e : i = b.toNat
    · subst e
      rw [List.getElem?_set_self bl] at hv
      cases hv; exact .inl ⟨rfl, rfl⟩
    · rw [List.getElem?_set_ne (fun e' => e e'.symm)] at hv
      exact .inr ⟨e, hv⟩
  have keep : ∀ (i : Nat) v, st[i]? = some v → 0 ≤ v → (st.set b.toNat (d + 1))[i]? = some v := fun i v hv h0 => by
    have : b.toNat ≠ i := fun e => by
      rw [e] at hb; rw [hv] at hb; cases hb; omega
    rw [List.getElem?_set_ne this]; exact hv
  refine ⟨by rw [List.length_set]; exact h.len, h.g0, keep _ _ h.gz (Int.le_refl _), fun i v hv => ?_, fun i hv => ?_, fun i v hv h0 => ?_, fun i v hv => ?_⟩
  · rcases at_ i v hv with ⟨_, rfl⟩ | ⟨_, hv⟩
    · omega
    · exact h.lo i v hv
  · rcases at_ i 0 hv with ⟨_, e⟩ | ⟨_, hv⟩
    · omega
    · exact h.zero i hv
  · rcases at_ i v hv with ⟨e, rfl⟩ | ⟨_, hv⟩
    · refine ⟨a, a0, ?_, by rw [show d + 1 - 1 = d by omega]; exact keep _ _ ha hd⟩
      rw [e, show ((b.toNat : Nat) : Int) = b by omega]; exact hadj
    · obtain ⟨j, j0, hj, hv2⟩ := h.pred i v hv h0
      exact ⟨j, j0, hj, keep _ _ hv2 (by omega)⟩
  · rcases at_ i v hv with ⟨e, rfl⟩ | ⟨_, hv⟩
    · have := h.hi _ _ ha
      omega
    · have := h.hi _ _ hv
      omega
structure Dist (w : WorksD) (goal : Int) (st : List Int) : Prop where
  base : Base w goal st
  step : ∀ (a b : Int) x, 0 ≤ a → adj w a b → st[a.toNat]? = some x → 0 ≤ x → ∃ y, st[b.toNat]? = some y ∧ 0 ≤ y ∧ y ≤ x + 1
theorem dist_le {w : WorksD} {goal : Int} {s s' : List Int} (h : Dist w goal s) (h' : Dist w goal s') : ∀ (k : Nat) (i : Nat), s[i]? = some (k : Int) → ∃ y, s'[i]? = some y ∧ 0 ≤ y ∧ y ≤ (k : Int) := by
  intro k
  induction k with
  | zero =>
    intro i hi
    have e := h.base.zero i hi
    have := h'.base.gz
    rw [← e] at this
    exact ⟨0, by simpa using this, Int.le_refl _, Int.le_refl _⟩
  | succ k ih =>
    intro i hi
    obtain ⟨j, j0, hj, hv⟩ := h.base.pred i _ hi (by omega)
    rw [show ((k + 1 : Nat) : Int) - 1 = (k : Int) by omega] at hv
    obtain ⟨y, hy, y0, y1⟩ := ih j.toNat hv
    obtain ⟨z, hz, z0, z1⟩ := h'.step j i y j0 hj.symm (by simpa using hy) y0
    exact ⟨z, by simpa using hz, z0, by omega⟩
theorem dist_unique {w : WorksD} {goal : Int} {s s' : List Int} (h : Dist w goal s) (h' : Dist w goal s') : s = s' := by
  have hl : s.length = s'.length := by rw [h.base.len, h'.base.len]
  apply List.ext_getElem?
  intro i
  by_cases hi : i < s.length
  · have e1 : s[i]? = some s[i] := List.getElem?_eq_getElem hi
    have e2 : s'[i]? = some s'[i] := List.getElem?_eq_getElem (by omega)
    rw [e1, e2]
    congr 1
    generalize s[i] = x at e1
    generalize s'[i]'(by omega) = y at e2
    have lx := h.base.lo i x e1
    have ly := h'.base.lo i y e2
    by_cases hx : 0 ≤ x
    · obtain ⟨z, hz, z0, z1⟩ := dist_le h h' x.toNat i (by rw [e1]; congr 1; omega)
      rw [e2] at hz; cases hz
      obtain ⟨z, hz, z2, z3⟩ := dist_le h' h y.toNat i (by rw [e2]; congr 1; omega)
      rw [e1] at hz; cases hz
      omega
    · by_cases hy : 0 ≤ y
      · obtain ⟨z, hz, z2, z3⟩ := dist_le h' h y.toNat i (by rw [e2]; congr 1; omega)
        rw [e1] at hz; cases hz
        omega
      · omega
  · rw [List.getElem?_eq_none (by omega), List.getElem?_eq_none (by omega)]

/-! ### The beginning -/
theorem neg_rep (n : Nat) : neg (List.replicate n (-1)) = n := by
  unfold neg
  rw [List.countP_replicate, if_pos (by decide)]
def st0 (n : Nat) (goal : Int) : List Int := (List.replicate n (-1)).set goal.toNat 0
theorem st0_base {w : WorksD} {goal : Int} (h0 : 0 ≤ goal) (h1 : goal < w.1.length) : Base w goal (st0 w.1.length goal) := by
  have hg : (List.replicate w.1.length (-1 : Int))[goal.toNat]? = some (-1) := by rw [List.getElem?_replicate, if_pos (by omega)]
  have hn := neg_set (v := 0) hg (by omega) (Int.le_refl _)
  rw [neg_rep] at hn
  have at_ : ∀ (i : Nat) v, (st0 w.1.length goal)[i]? = some v → (i = goal.toNat ∧ v = 0) ∨ (i ≠ goal.toNat ∧ v = -1) := fun i v hv => by
    unfold st0 at hv
    by_cases e : i = goal.toNat
    · subst e
      rw [List.getElem?_set_self (by rw [List.length_replicate]; omega)] at hv
      cases hv; exact .inl ⟨rfl, rfl⟩
    · rw [List.getElem?_set_ne (fun e' => e e'.symm)] at hv
      exact .inr ⟨e, (List.mem_replicate.1 (List.mem_of_getElem? hv)).2⟩
  refine ⟨by unfold st0; simp, h0, List.getElem?_set_self (by rw [List.length_replicate]; omega), fun i v hv => ?_, fun i hv => ?_, fun i v hv hp => ?_, fun i v hv => ?_⟩
  · rcases at_ i v hv with ⟨_, e⟩ | ⟨_, e⟩ <;> omega
  · rcases at_ i 0 hv with ⟨e, _⟩ | ⟨_, e⟩
    · omega
    · cases e
  · rcases at_ i v hv with ⟨_, e⟩ | ⟨_, e⟩ <;> omega
  · have e0 : neg (st0 w.1.length goal) + 1 = w.1.length := hn
    rcases at_ i v hv with ⟨_, e⟩ | ⟨_, e⟩ <;> omega

/-! ### Along the queue -/
structure Mid (w : WorksD) (goal : Int) (st q : List Int) (h : Int) (t : List Int) (d : Int) (D : Int → Prop) : Prop where
  base : Base w goal st
  qin : ∀ x ∈ q, 0 ≤ x ∧ ∃ v, st[x.toNat]? = some v ∧ 0 ≤ v
  sorted : q.Pairwise fun a b => ∀ x y, st[a.toNat]? = some x → st[b.toNat]? = some y → x ≤ y
  hq : q = h :: t
  hd : st[h.toNat]? = some d
  top : ∀ (i : Nat) v, st[i]? = some v → v ≤ d + 1
  closed : ∀ (a b : Int) x, 0 ≤ a → a ∉ q → adj w a b → st[a.toNat]? = some x → 0 ≤ x → ∃ y, st[b.toNat]? = some y ∧ 0 ≤ y ∧ y ≤ x + 1
  dn : ∀ b, D b → ∃ y, st[b.toNat]? = some y ∧ 0 ≤ y ∧ y ≤ d + 1
  cnt : q.length + neg st ≤ w.1.length
theorem Mid.h0 {w : WorksD} {goal : Int} {st q : List Int} {h : Int} {t : List Int} {d : Int} {D : Int → Prop} (M : Mid w goal st q h t d D) : 0 ≤ h ∧ 0 ≤ d := by
  obtain ⟨h1, v, h2, h3⟩ := M.qin h (by rw [M.hq]; simp)
  rw [M.hd] at h2; cases h2
  exact ⟨h1, h3⟩
theorem Mid.more {w : WorksD} {goal : Int} {st q : List Int} {h : Int} {t : List Int} {d : Int} {D D' : Int → Prop} (M : Mid w goal st q h t d D) (hD : ∀ b, D' b → D b ∨ ∃ y, st[b.toNat]? = some y ∧ 0 ≤ y) : Mid w goal st q h t d D' :=
  ⟨M.base, M.qin, M.sorted, M.hq, M.hd, M.top, M.closed, fun b hb => by
      rcases hD b hb with h1 | ⟨y, h1, h2⟩
      · exact M.dn b h1
      · exact ⟨y, h1, h2, M.top _ _ h1⟩, M.cnt⟩
theorem Mid.set {w : WorksD} {goal : Int} {st q : List Int} {h : Int} {t : List Int} {d : Int} {D D' : Int → Prop} (M : Mid w goal st q h t d D) {b y : Int} (b0 : 0 ≤ b) (hb : st[b.toNat]? = some y) (hy : y < 0) (hadj : adj w h b) (hD : ∀ x, D' x → D x ∨ x = b) :
    Mid w goal (st.set b.toNat (d + 1)) (q ++ [b]) h (t ++ [b]) d D' := by
  obtain ⟨hh, hd0⟩ := M.h0
  have bl := (List.getElem?_eq_some_iff.1 hb).1
  have hn := neg_set (v := d + 1) hb hy (by omega)
  have self : (st.set b.toNat (d + 1))[b.toNat]? = some (d + 1) := List.getElem?_set_self bl
  have keep : ∀ (i : Nat) v, st[i]? = some v → 0 ≤ v → (st.set b.toNat (d + 1))[i]? = some v := fun i v hv h0 => by
    have : b.toNat ≠ i := fun e => by
      rw [e] at hb; rw [hv] at hb; cases hb; omega
    rw [List.getElem?_set_ne this]; exact hv
  have at_ : ∀ (i : Nat) v, (st.set b.toNat (d + 1))[i]? = some v → (i = b.toNat ∧ v = d + 1) ∨ (i ≠ b.toNat ∧ st[i]? = some v) := fun i v hv => by
    by_cases e : i = b.toNat
    · subst e
      rw [self] at hv
      cases hv; exact .inl ⟨rfl, rfl⟩
    · rw [List.getElem?_set_ne (fun e' => e e'.symm)] at hv
      exact .inr ⟨e, hv⟩
  have qb : ∀ x ∈ q, x.toNat ≠ b.toNat := fun x hx e => by
    obtain ⟨_, v, h1, h2⟩ := M.qin x hx
    rw [e, hb] at h1; cases h1; omega
  refine ⟨M.base.set hh b0 hb hy M.hd hd0 hadj.symm, fun x hx => ?_, ?_, by rw [M.hq]; rfl, keep _ _ M.hd hd0, fun i v hv => ?_, fun a c x a0 haq had hx hx0 => ?_, fun x hx => ?_, ?_⟩
  · rcases List.mem_append.1 hx with h1 | h1
    · obtain ⟨h2, v, h3, h4⟩ := M.qin x h1
      exact ⟨h2, v, keep _ _ h3 h4, h4⟩
    · rw [List.mem_singleton.1 h1]
      exact ⟨b0, d + 1, self, by omega⟩
  · rw [List.pairwise_append]
    refine ⟨M.sorted.imp_of_mem fun {x z} hx hz hp u v hu hv => ?_, List.pairwise_singleton _ _, fun x hx z hz u v hu hv => ?_⟩
    · rcases at_ _ _ hu with ⟨e, _⟩ | ⟨_, hu⟩
      · exact absurd e (qb x hx)
      · rcases at_ _ _ hv with ⟨e, _⟩ | ⟨_, hv⟩
        · exact absurd e (qb z hz)
        · exact hp u v hu hv
    · rw [List.mem_singleton.1 hz, self] at hv
      cases hv
      rcases at_ _ _ hu with ⟨_, rfl⟩ | ⟨_, hu⟩
      · exact Int.le_refl _
      · exact M.top _ _ hu
  · rcases at_ i v hv with ⟨_, rfl⟩ | ⟨_, hv⟩
    · exact Int.le_refl _
    · exact M.top i v hv
  · rw [List.mem_append, not_or, List.mem_singleton] at haq
    rcases at_ _ _ hx with ⟨e, _⟩ | ⟨_, hx⟩
    · exact absurd (show a = b by omega) haq.2
    · obtain ⟨z, hz, z0, z1⟩ := M.closed a c x a0 haq.1 had hx hx0
      exact ⟨z, keep _ _ hz z0, z0, z1⟩
  · rcases hD x hx with h1 | rfl
    · obtain ⟨z, hz, z0, z1⟩ := M.dn x h1
      exact ⟨z, keep _ _ hz z0, z0, z1⟩
    · exact ⟨d + 1, self, by omega, Int.le_refl _⟩
  · have := M.cnt
    rw [List.length_append, List.length_singleton]; omega

theorem at0 {q t : List Int} {h : Int} (e : q = h :: t) : idx q (0 : Int) = some h ∧ q[(0 : Int).toNat]? = some h := by
  subst e
  exact ⟨rfl, rfl⟩
theorem side_step {w : WorksD} {goal : Int} {st q : List Int} {h : Int} {t : List Int} {d : Int} {D D' : Int → Prop} (M : Mid w goal st q h t d D) (hn : w.1.length ≤ 16) {a b k : Int} {l : List (Int × Int)} (hk : 0 ≤ k ∧ k < 2) (hl : idx l k = some (a, b)) (hl2 : l[k.toNat]? = some (a, b))
    (ha : 0 ≤ a ∧ a < w.1.length) (hb : 0 ≤ b ∧ b < w.1.length) (hadj : adj w a b) (hD : ∀ x, D' x → D x ∨ (a = h ∧ x = b)) (ms : List MeshD) (ln i : Int) :
    ∃ st' q' t', stepIS_step (goal, w, st, q, ms, ln, i, l, 2, k) = some (.next, goal, w, st', q', ms, ln, i, l, 2, k + 1) ∧ Mid w goal st' q' h t' d D' ∧ q'.length + neg st' = q.length + neg st := by
  obtain ⟨hh, hd0⟩ := M.h0
  have hcnt := M.cnt
  have hlen := M.base.len
  obtain ⟨q1, q2⟩ := at0 M.hq
  obtain ⟨y, hy, hy2⟩ := idx_get (l := st) hb.1 (by omega)
  have ew : IntKind.i64.wrap (k + 1) = k + 1 := w64 (by omega) (by omega)
  unfold stepIS_step
  dsimp only
  rw [br_t (by simpa using hk.2), hl, ob_s, gi, hl2, ob_s, q1, ob_s, gi, q2, ob_s, ew]
  by_cases e : a = h
  · subst e
    have hi := M.base.hi _ _ M.hd
    have hd1 := idx_nat hh M.hd
    rw [br_t (by simp), hy, ob_s, gi, hy2, ob_s]
    by_cases hy0 : y < 0
    · rw [br_t (by simpa using hy0), hd1, ob_s, gi, M.hd, ob_s, ob_s, ob_s, br_t (by simp; omega), w64 (x := d + 1) (by omega) (by omega)]
      have hn' := neg_set (v := d + 1) hy2 hy0 (by omega)
      refine ⟨_, _, _, rfl, M.set hb.1 hy2 hy0 hadj fun x hx => (hD x hx).imp id fun h => h.2, ?_⟩
      show (q ++ [b]).length + neg (st.set b.toNat (d + 1)) = _
      rw [List.length_append, List.length_singleton]; omega
    · rw [br_f (by simpa using hy0)]
      refine ⟨_, _, _, rfl, M.more fun x hx => (hD x hx).imp id fun h => ?_, rfl⟩
      rw [h.2]
      exact ⟨y, hy2, by omega⟩
  · rw [br_f (by simpa using e)]
    exact ⟨_, _, _, rfl, M.more fun x hx => .inl ((hD x hx).resolve_right fun h => e h.1), rfl⟩
def seenTo (w : WorksD) (h : Int) (i : Nat) (b : Int) : Prop := ∃ (j : Nat) (m : MeshD), j < i ∧ w.2[j]? = some m ∧ ((m.1 = h ∧ m.2.2.1 = b) ∨ (m.1 = b ∧ m.2.2.1 = h))
theorem mesh_walk {w : WorksD} (hk : worksOk w = true) (hn : w.1.length ≤ 16) (hm : w.2.length ≤ 24) {goal h d : Int} : ∀ (f : Nat) (st q t : List Int) (i : Nat), Mid w goal st q h t d (seenTo w h i) → i ≤ w.2.length → w.2.length - i < f →
    ∃ st' q' t', iterP stepIM_step f (goal, w, st, q, w.2, (w.2.length : Int), (i : Int)) = some (goal, w, st', q', w.2, (w.2.length : Int), (w.2.length : Int)) ∧ Mid w goal st' q' h t' d (seenTo w h w.2.length) ∧ q'.length + neg st' = q.length + neg st := by
  intro f
  induction f with
  | zero => intro st q t i _ _ h; omega
  | succ f ih =>
    intro st q t i M hi hf
    show ∃ st' q' t', ob (stepIM_step (goal, w, st, q, w.2, (w.2.length : Int), (i : Int))) _ = _ ∧ _
    by_cases hlt : i < w.2.length
    · obtain ⟨m, hm1, hm2⟩ := idx_get (l := w.2) (i := (i : Int)) (by omega) (by omega)
      have hm3 : w.2[i]? = some m := hm2
      have hmm := List.mem_of_getElem? hm3
      obtain ⟨p, a1, a2, _, _, _, _⟩ := meshes_ok hk hmm
      let l : List (Int × Int) := [(m.1, m.2.2.1), (m.2.2.1, m.1)]
      obtain ⟨st1, q1, t1, e1, M1, c1⟩ := side_step (D' := fun b => seenTo w h i b ∨ (m.1 = h ∧ b = m.2.2.1)) M hn (a := m.1) (b := m.2.2.1) (k := 0) (l := l) (by omega) rfl rfl a1 a2 ⟨m, hmm, .inl ⟨rfl, rfl⟩⟩ (fun x hx => hx) w.2 (w.2.length : Int) (i : Int)
      obtain ⟨st2, q2, t2, e2, M2, c2⟩ := side_step (D' := seenTo w h (i + 1)) M1 hn (a := m.2.2.1) (b := m.1) (k := 1) (l := l) (by omega) rfl rfl a2 a1 ⟨m, hmm, .inr ⟨rfl, rfl⟩⟩ (fun x hx => by
        obtain ⟨j, m', hj, hm', h1⟩ := hx
        by_cases hji : j < i
        · exact .inl (.inl ⟨j, m', hji, hm', h1⟩)
        · have : j = i := by omega
          subst this
          rw [hm3] at hm'; cases hm'
          rcases h1 with h1 | h1
          · exact .inl (.inr ⟨h1.1, h1.2.symm⟩)
          · exact .inr ⟨h1.2, h1.1.symm⟩) w.2 (w.2.length : Int) (i : Int)
      have e3 : stepIS (goal, w, st, q, w.2, (w.2.length : Int), (i : Int), l, (l.length : Int), 0) = some (goal, w, st2, q2, w.2, (w.2.length : Int), (i : Int), l, 2, 2) := by
        have e4 : stepIS_step (goal, w, st2, q2, w.2, (w.2.length : Int), (i : Int), l, 2, 2) = some (.out, goal, w, st2, q2, w.2, (w.2.length : Int), (i : Int), l, 2, 2) := rfl
        rw [show (0 : Int) + 1 = 1 from rfl] at e1
        rw [show (1 : Int) + 1 = 2 from rfl] at e2
        show iterP stepIS_step 3 (goal, w, st, q, w.2, (w.2.length : Int), (i : Int), l, 2, 0) = _
        simp only [iterP, e1, e2, e4, ob]
      obtain ⟨st', q', t', e5, M5, c5⟩ := ih st2 q2 t2 (i + 1) M2 (by omega) (by omega)
      refine ⟨st', q', t', ?_, M5, by omega⟩
      unfold stepIM_step
      dsimp only
      rw [br_t (by simp; omega), hm1, ob_s, show stepIS (goal, (w.1, w.2), st, q, w.2, (w.2.length : Int), (i : Int), [(m.1, m.2.2.1), (m.2.2.1, m.1)], (([(m.1, m.2.2.1), (m.2.2.1, m.1)] : List (Int × Int)).length : Int), 0) = _ from e3, ob_s]
      dsimp only
      rw [w64 (by omega) (by omega)]
      exact e5
    · have : i = w.2.length := by omega
      subst this
      refine ⟨st, q, t, ?_, M, rfl⟩
      unfold stepIM_step
      dsimp only
      rw [br_f (by simp)]
      rfl
structure Bfs (w : WorksD) (goal : Int) (st q : List Int) : Prop where
  base : Base w goal st
  qin : ∀ x ∈ q, 0 ≤ x ∧ ∃ v, st[x.toNat]? = some v ∧ 0 ≤ v
  sorted : q.Pairwise fun a b => ∀ x y, st[a.toNat]? = some x → st[b.toNat]? = some y → x ≤ y
  top : ∀ h t d, q = h :: t → st[h.toNat]? = some d → ∀ (i : Nat) v, st[i]? = some v → v ≤ d + 1
  closed : ∀ (a b : Int) x, 0 ≤ a → a ∉ q → adj w a b → st[a.toNat]? = some x → 0 ≤ x → ∃ y, st[b.toNat]? = some y ∧ 0 ≤ y ∧ y ≤ x + 1
  cnt : q.length + neg st ≤ w.1.length
theorem queue_walk {w : WorksD} (hk : worksOk w = true) (hn : w.1.length ≤ 16) (hm : w.2.length ≤ 24) {goal : Int} : ∀ (f : Nat) (st q : List Int), Bfs w goal st q → q.length + neg st < f → ∃ st', iterP stepIQ_step f (goal, w, st, q) = some (goal, w, st', []) ∧ Dist w goal st' := by
  intro f
  induction f with
  | zero => intro st q _ h; omega
  | succ f ih =>
    intro st q B hf
    show ∃ st', ob (stepIQ_step (goal, w, st, q)) _ = _ ∧ _
    cases q with
    | nil => exact ⟨st, rfl, B.base, fun a b x a0 had hx hx0 => B.closed a b x a0 (by simp) had hx hx0⟩
    | cons h t =>
      obtain ⟨hh, d, hd, hd0⟩ := B.qin h (by simp)
      have M : Mid w goal st (h :: t) h t d (seenTo w h 0) := ⟨B.base, B.qin, B.sorted, rfl, hd, B.top h t d rfl hd, B.closed, fun b ⟨j, _, hj, _⟩ => by omega, B.cnt⟩
      obtain ⟨st', q', t', e, M', c⟩ := mesh_walk hk hn hm (((w.2.length : Int) - 0).toNat + 1) st (h :: t) t 0 M (by omega) (by omega)
      have e' : stepIM (goal, w, st, h :: t, w.2, (w.2.length : Int), 0) = some (goal, w, st', q', w.2, (w.2.length : Int), (w.2.length : Int)) := e
      have hq' := M'.hq
      subst hq'
      have hso := M'.sorted
      rw [List.pairwise_cons] at hso
      have B' : Bfs w goal st' t' := by
        refine ⟨M'.base, fun x hx => M'.qin x (by simp [hx]), hso.2, fun h2 t2 d2 ht hd2 i v hv => ?_, fun a b x a0 hat had hx hx0 => ?_, ?_⟩
        · have := hso.1 h2 (by rw [ht]; simp) d d2 M'.hd hd2
          have := M'.top i v hv
          omega
        · by_cases eah : a = h
          · subst eah
            rw [M'.hd] at hx; cases hx
            obtain ⟨m, hmm, h1⟩ := had
            obtain ⟨j, hj1, hj2⟩ := List.mem_iff_getElem.1 hmm
            exact M'.dn b ⟨j, m, hj1, by rw [List.getElem?_eq_getElem hj1, hj2], h1⟩
          · exact M'.closed a b x a0 (by simp [eah, hat]) had hx hx0
        · have := M'.cnt
          rw [List.length_cons] at this; omega
      rw [List.length_cons] at c
      obtain ⟨st2, e2, D2⟩ := ih st' t' B' (by rw [List.length_cons] at c hf; omega)
      refine ⟨st2, ?_, D2⟩
      unfold stepIQ_step
      dsimp only
      rw [br_t (by simp), show stepIM (goal, (w.1, w.2), st, h :: t, w.2, (w.2.length : Int), 0) = _ from e', ob_s]
      dsimp only
      rw [br_t (by simp; omega)]
      exact e2
theorem stepsI_eq {w : WorksD} (hk : worksOk w = true) (hs : smallW w) {goal : Int} (h0 : 0 ≤ goal) (h1 : goal < w.1.length) : ∃ st, stepsI ((w.1, w.2), goal) = some st ∧ Dist w goal st := by
  have hk' := hk
  unfold worksOk at hk'
  simp only [Bool.and_eq_true, decide_eq_true_eq] at hk'
  have hn : w.1.length ≤ 16 := by omega
  have hm : w.2.length ≤ 24 := by omega
  have hl : (List.replicate w.1.length (0 : Int)).length = w.1.length := List.length_replicate
  have e1 := map_loop (step := stepIA_step) (l := List.replicate w.1.length (0 : Int)) (f := fun _ => -1) (fun o i => (goal, w, o, (w.1.length : Int), i))
    (fun o i y ho i0 i1 _ hy hy2 => by
      unfold stepIA_step
      dsimp only
      rw [br_t (by simp; omega), hy2, ob_s, gi, hy, ob_s, w64 (by omega) (by omega)])
    (fun o ho => by
      unfold stepIA_step
      dsimp only
      rw [br_f (by simp)]) (n := ((w.1.length : Int) - 0).toNat + 1) (by omega)
  have e1' : stepIA (goal, w, List.replicate w.1.length (0 : Int), (w.1.length : Int), 0) = some (goal, w, List.replicate w.1.length (-1), (w.1.length : Int), (w.1.length : Int)) := by
    rw [List.map_replicate, hl] at e1
    exact e1
  have hg : (List.replicate w.1.length (-1 : Int))[goal.toNat]? = some (-1) := by rw [List.getElem?_replicate, if_pos (by omega)]
  have hn' := neg_set (v := 0) hg (by omega) (Int.le_refl _)
  rw [neg_rep] at hn'
  have hb := st0_base (w := w) h0 h1
  have B : Bfs w goal (st0 w.1.length goal) [goal] := by
    refine ⟨hb, fun x hx => ?_, List.pairwise_singleton _ _, fun h t d e hd i v hv => ?_, fun a b x a0 hat _ hx hx0 => ?_, ?_⟩
    · rw [List.mem_singleton.1 hx]
      exact ⟨h0, 0, hb.gz, Int.le_refl _⟩
    · cases e
      rw [hb.gz] at hd; cases hd
      have hd' := hb.hi i v hv
      have hd'' : neg (st0 w.1.length goal) + 1 = w.1.length := hn'
      omega
    · exfalso
      have hd' := hb.hi _ x hx
      have hd'' : neg (st0 w.1.length goal) + 1 = w.1.length := hn'
      have hx00 : x = 0 := by omega
      subst hx00
      have := hb.zero _ hx
      exact hat (by rw [List.mem_singleton]; omega)
    · show 1 + neg ((List.replicate w.1.length (-1)).set goal.toNat 0) ≤ _
      omega
  obtain ⟨st, e2, D⟩ := queue_walk hk hn hm (w.1.length + 2) (st0 w.1.length goal) [goal] B (by
    show 1 + neg ((List.replicate w.1.length (-1)).set goal.toNat 0) < _
    omega)
  refine ⟨st, ?_, D⟩
  unfold stepsI
  dsimp only
  have hd : decide ((0 : Int) ≤ (w.1.length : Int) ∧ (w.1.length : Int) = (w.1.length : Int) ∧ (w.1.length : Int) ≤ 1048576) = true := by simp; omega
  rw [br_t hd, show ((w.1.length : Int)).toNat = w.1.length by omega, hl, show stepIA (goal, (w.1, w.2), List.replicate w.1.length (0 : Int), (w.1.length : Int), 0) = _ from e1', ob_s]
  dsimp only
  rw [idx_nat h0 hg, ob_s, gi, hg, ob_s, show stepIQ (goal, (w.1, w.2), (List.replicate w.1.length (-1)).set goal.toNat 0, [goal]) = _ from e2]
  rfl
end Rx
end Go.Proofs.Ythehdbedojcpdaa
