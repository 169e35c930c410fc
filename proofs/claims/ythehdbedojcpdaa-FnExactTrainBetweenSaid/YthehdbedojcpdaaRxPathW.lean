/- The walk along falling distances: both sides take the same meshes. In plain terms. No program in sight. -/
import Derived.Test.YthehdbedojcpdaaRxPathLaw
namespace Go.Proofs.Ythehdbedojcpdaa
namespace Rx
open Go

/-! ### The first that fits -/
theorem least {α : Type} (p : α → Bool) : ∀ (l : List α), (∃ m ∈ l, p m = true) → ∃ k m, l[k]? = some m ∧ p m = true ∧ ∀ (j : Nat) m', j < k → l[j]? = some m' → p m' = false
  | [], h => by obtain ⟨m, hm, _⟩ := h; cases hm
  | y :: l, h => by
    cases hy : p y with
    | true => exact ⟨0, y, rfl, hy, fun j m' hj => by omega⟩
    | false =>
      obtain ⟨m, hm, hp⟩ := h
      rcases List.mem_cons.1 hm with rfl | hm
      · rw [hy] at hp; cases hp
      · obtain ⟨k, m, h1, h2, h3⟩ := least p l ⟨m, hm, hp⟩
        refine ⟨k + 1, m, by simpa using h1, h2, fun j m' hj hm' => ?_⟩
        cases j with
        | zero => simp at hm'; subst hm'; exact hy
        | succ j => exact h3 j m' (by omega) (by simpa using hm')
theorem findP {σ : Type} {step : σ → Option (LRes × σ)} (S : Nat → σ) {r : σ} {k : Nat} (hn : ∀ i, i < k → step (S i) = some (.next, S (i + 1))) (hk : step (S k) = some (.out, r)) : ∀ (f i : Nat), i ≤ k → k - i < f → iterP step f (S i) = some r := by
  intro f
  induction f with
  | zero => intro i _ h; omega
  | succ f ih =>
    intro i hi hf
    show ob (step (S i)) _ = _
    by_cases e : i = k
    · subst e
      rw [hk]; rfl
    · rw [hn i (by omega)]
      exact ih (i + 1) (by omega) (by omega)
def fitP (st : List Int) (a x : Int) (m : MeshD) : Bool := if m.2.2.1 = a then decide (st[m.1.toNat]? = some (x - 1)) else if m.1 = a then decide (st[m.2.2.1.toNat]? = some (x - 1)) else false
def nbP (a : Int) (m : MeshD) : Int := if m.2.2.1 = a then m.1 else m.2.2.1
def turnP (a : Int) (m : MeshD) : MeshD := if m.2.2.1 = a then (m.2.2.1, m.2.2.2, m.1, m.2.1) else m
theorem fitP_t {st : List Int} {a x : Int} {m : MeshD} (h : fitP st a x m = true) : st[(nbP a m).toNat]? = some (x - 1) ∧ (m.2.2.1 = a ∨ m.1 = a) := by
  unfold fitP at h
  unfold nbP
  by_cases e : m.2.2.1 = a
  · rw [if_pos e] at h ⊢
    exact ⟨of_decide_eq_true h, .inl e⟩
  · rw [if_neg e] at h ⊢
    by_cases e' : m.1 = a
    · rw [if_pos e'] at h
      exact ⟨of_decide_eq_true h, .inr e'⟩
    · rw [if_neg e'] at h; cases h
theorem pathIN_at {w : WorksD} (hk : worksOk w = true) (hm : w.2.length ≤ 24) {st : List Int} (hst : st.length = w.1.length) {to a x : Int} (a0 : 0 ≤ a) (ha : st[a.toNat]? = some x) (hx : 0 ≤ x ∧ x ≤ 100) {path : List Int} (hp : path.length ≤ 1000) {i : Nat} {m : MeshD} (hi : w.2[i]? = some m) :
    pathIN_step (to, w, st, path, a, w.2, (w.2.length : Int), (i : Int)) = some (if fitP st a x m = true then (.out, to, w, st, path ++ [(i : Int)], nbP a m, w.2, (w.2.length : Int), (i : Int)) else (.next, to, w, st, path, a, w.2, (w.2.length : Int), ((i + 1 : Nat) : Int))) ∧
    ∀ out, out.length ≤ 1000 → pathSN_step (w, to, st, out, path, a, (i : Int)) = some (if fitP st a x m = true then (.out, w, to, st, out ++ [turnP a m], path ++ [(i : Int)], nbP a m, (i : Int)) else (.next, w, to, st, out, path, a, ((i + 1 : Nat) : Int))) := by
  have hlt := (List.getElem?_eq_some_iff.1 hi).1
  have hm1 : idx w.2 (i : Int) = some m := idx_nat (by omega) (by simpa using hi)
  obtain ⟨p, a1, a2, a3, _, _, _⟩ := meshes_ok hk (List.mem_of_getElem? hi)
  obtain ⟨u, hu, hu2⟩ := idx_get (l := st) a1.1 (by omega)
  obtain ⟨v, hv, hv2⟩ := idx_get (l := st) a2.1 (by omega)
  have ha' : idx st a = some x := idx_nat a0 ha
  have ew : IntKind.i64.wrap ((i : Int) + 1) = ((i + 1 : Nat) : Int) := by rw [w64 (by omega) (by omega)]; push_cast; rfl
  have ex : IntKind.i64.wrap (x - 1) = x - 1 := w64 (by omega) (by omega)
  have hl : decide (path.length + [(i : Int)].length ≤ 4294967296) = true := by simp; omega
  unfold pathIN_step pathSN_step fitP nbP turnP
  dsimp only
  refine ⟨?_, fun out ho => ?_⟩
  · rw [br_t (by simp; omega), hm1, ob_s]
    by_cases e : m.2.2.1 = a
    · have e' : m.1 ≠ a := fun h => a3 (h.trans e.symm)
      rw [br_t (by simpa using e), br_f (by simpa using e'), br_t (by simpa using e), hu, ob_s, gi, hu2, ob_s, ha', ob_s, gi, ha, ob_s, ex, br_t hl, if_pos e, if_pos e]
      by_cases eu : u = x - 1
      · rw [br_t (by simpa using eu), if_pos (by simpa [hu2] using eu)]
      · rw [br_f (by simpa using eu), if_neg (by simpa [hu2] using eu), ew]
    · rw [br_f (by simpa using e), if_neg e, if_neg e]
      by_cases e' : m.1 = a
      · rw [br_t (by simpa using e'), hv, ob_s, gi, hv2, ob_s, ha', ob_s, gi, ha, ob_s, ex, br_t hl, if_pos e']
        by_cases eu : v = x - 1
        · rw [br_t (by simpa using eu), if_pos (by simpa [hv2] using eu)]
        · rw [br_f (by simpa using eu), if_neg (by simpa [hv2] using eu), ew]
      · rw [br_f (by simpa using e'), br_f (by simpa using e), if_neg e', ew]
        rfl
  · have hl2 : ∀ z : MeshD, decide (out.length + [z].length ≤ 4294967296) = true := fun z => by simp; omega
    rw [br_t (by simp; omega), hm1, ob_s]
    by_cases e : m.2.2.1 = a
    · have e' : m.1 ≠ a := fun h => a3 (h.trans e.symm)
      rw [br_t (by simpa using e), br_t (by simpa using e), hu, ob_s, gi, hu2, ob_s, ha', ob_s, gi, ha, ob_s, ex, br_t (hl2 _), br_t hl, if_pos e, if_pos e, if_pos e]
      by_cases eu : u = x - 1
      · rw [br_t (by simpa using eu), if_pos (by simpa [hu2] using eu)]
      · rw [br_f (by simpa using eu), if_neg (by simpa [hu2] using eu), ew]
    · rw [br_f (by simpa using e), if_neg e, if_neg e, if_neg e]
      by_cases e' : m.1 = a
      · rw [br_t (by simpa using e'), hv, ob_s, gi, hv2, ob_s, ha', ob_s, gi, ha, ob_s, ex, br_t (hl2 _), br_t hl, if_pos e']
        by_cases eu : v = x - 1
        · rw [br_t (by simpa using eu), if_pos (by simpa [hv2] using eu)]
        · rw [br_f (by simpa using eu), if_neg (by simpa [hv2] using eu), ew]
      · rw [br_f (by simpa using e'), if_neg e', ew]
        rfl
/-- One round of both: the first mesh that leads nearer. -/
theorem round_both {w : WorksD} (hk : worksOk w = true) (hm : w.2.length ≤ 24) {goal : Int} {st : List Int} (D : Dist w goal st) {a x : Int} (a0 : 0 ≤ a) (ha : st[a.toNat]? = some x) (hx : 0 < x ∧ x ≤ 100) {path : List Int} {out : List MeshD} (hp : path.length ≤ 1000) (ho : out.length ≤ 1000) :
    ∃ (k : Nat) (m : MeshD), w.2[k]? = some m ∧ (m.2.2.1 = a ∨ m.1 = a) ∧ 0 ≤ nbP a m ∧ st[(nbP a m).toNat]? = some (x - 1) ∧
      pathIN (goal, w, st, path, a, w.2, (w.2.length : Int), 0) = some (goal, w, st, path ++ [(k : Int)], nbP a m, w.2, (w.2.length : Int), (k : Int)) ∧
      pathSN (w, goal, st, out, path, a, 0) = some (w, goal, st, out ++ [turnP a m], path ++ [(k : Int)], nbP a m, (k : Int)) := by
  have hst := D.base.len
  have hex : ∃ m ∈ w.2, fitP st a x m = true := by
    obtain ⟨j, j0, ⟨m, hmm, hj⟩, hv⟩ := D.base.pred _ x ha hx.1
    rw [show ((a.toNat : Nat) : Int) = a by omega] at hj
    refine ⟨m, hmm, ?_⟩
    obtain ⟨p, a1, a2, a3, _, _, _⟩ := meshes_ok hk hmm
    unfold fitP
    rcases hj with ⟨e1, e2⟩ | ⟨e1, e2⟩
    · rw [if_neg (fun h => a3 (e1.trans h.symm)), if_pos e1, e2]
      exact decide_eq_true hv
    · rw [if_pos e2, e1]
      exact decide_eq_true hv
  obtain ⟨k, m, h1, h2, h3⟩ := least _ _ hex
  have hkl := (List.getElem?_eq_some_iff.1 h1).1
  obtain ⟨f1, f2⟩ := fitP_t h2
  have nb0 : 0 ≤ nbP a m := by
    obtain ⟨p, a1, a2, _, _, _, _⟩ := meshes_ok hk (List.mem_of_getElem? h1)
    unfold nbP
    by_cases e : m.2.2.1 = a
    · rw [if_pos e]; exact a1.1
    · rw [if_neg e]; exact a2.1
  have at_ := fun (i : Nat) m (hi : w.2[i]? = some m) => pathIN_at hk hm hst (to := goal) a0 ha ⟨by omega, hx.2⟩ hp hi
  refine ⟨k, m, h1, f2, nb0, f1, ?_, ?_⟩
  · refine findP (step := pathIN_step) (fun i => (goal, w, st, path, a, w.2, (w.2.length : Int), (i : Int))) (k := k) (fun i hi => ?_) ?_ _ 0 (by omega) ?_
    · have hl : i < w.2.length := by omega
      have hg : w.2[i]? = some w.2[i] := List.getElem?_eq_getElem hl
      rw [(at_ i _ hg).1, if_neg (by rw [h3 i _ hi hg]; decide)]
    · rw [(at_ k m h1).1, if_pos h2]
    · show k - 0 < ((w.2.length : Int) - 0).toNat + 1
      omega
  · refine findP (step := pathSN_step) (fun i => (w, goal, st, out, path, a, (i : Int))) (k := k) (fun i hi => ?_) ?_ _ 0 (by omega) ?_
    · have hl : i < w.2.length := by omega
      have hg : w.2[i]? = some w.2[i] := List.getElem?_eq_getElem hl
      rw [(at_ i _ hg).2 out ho, if_neg (by rw [h3 i _ hi hg]; decide)]
    · rw [(at_ k m h1).2 out ho, if_pos h2]
    · show k - 0 < (w.2.length - (0 : Int).toNat) + 1
      simp; omega

/-! ### The whole walk -/
def ChainP (w : WorksD) : Int → List Int → List MeshD → Int → Prop
  | a, [], [], to => a = to
  | a, k :: ks, m' :: ms, to => ∃ m, idx w.2 k = some m ∧ m ∈ w.2 ∧ (m.2.2.1 = a ∨ m.1 = a) ∧ m' = turnP a m ∧ ChainP w (nbP a m) ks ms to
  | _, _, _, _ => False
theorem ChainP.len {w : WorksD} {to : Int} : ∀ {ks : List Int} {ms : List MeshD} {a : Int}, ChainP w a ks ms to → ks.length = ms.length
  | [], [], _, _ => rfl
  | _ :: ks, _ :: ms, _, h => by
    obtain ⟨m, _, _, _, _, h⟩ := h
    rw [List.length_cons, List.length_cons, h.len]
theorem walk_both {w : WorksD} (hk : worksOk w = true) (hm : w.2.length ≤ 24) {goal : Int} {st : List Int} (D : Dist w goal st) : ∀ (d : Nat) (a : Int) (path : List Int) (out : List MeshD) (f g : Nat), 0 ≤ a → st[a.toNat]? = some (d : Int) → d ≤ 100 → d < f → d < g → path.length + d ≤ 1000 → out.length + d ≤ 1000 →
    ∃ ks ms, iterP pathIL_step f (goal, w, st, path, a) = some (goal, w, st, path ++ ks, goal) ∧ iterP pathSL_step g (w, goal, st, out, path, a) = some (w, goal, st, out ++ ms, path ++ ks, goal) ∧ ChainP w a ks ms goal ∧ ks.length = d := by
  intro d
  induction d with
  | zero =>
    intro a path out f g a0 ha _ hf hg _ _
    have e := D.base.zero _ ha
    rw [show ((a.toNat : Nat) : Int) = a by omega] at e
    subst e
    obtain ⟨f, rfl⟩ : ∃ n, f = n + 1 := ⟨f - 1, by omega⟩
    obtain ⟨g, rfl⟩ : ∃ n, g = n + 1 := ⟨g - 1, by omega⟩
    refine ⟨[], [], ?_, ?_, rfl, rfl⟩
    · show ob (pathIL_step (a, w, st, path, a)) _ = _
      unfold pathIL_step
      dsimp only
      rw [br_f (by simp), List.append_nil]
      rfl
    · show ob (pathSL_step (w, a, st, out, path, a)) _ = _
      unfold pathSL_step
      dsimp only
      rw [br_f (by simp), List.append_nil, List.append_nil]
      rfl
  | succ d ih =>
    intro a path out f g a0 ha hd hf hg hp ho
    have hne : a ≠ goal := fun e => by
      have := D.base.gz
      rw [← e, ha] at this
      injection this with this
      omega
    obtain ⟨f, rfl⟩ : ∃ n, f = n + 1 := ⟨f - 1, by omega⟩
    obtain ⟨g, rfl⟩ : ∃ n, g = n + 1 := ⟨g - 1, by omega⟩
    obtain ⟨k, m, h1, h2, h3, h4, h5, h6⟩ := round_both hk hm D a0 ha ⟨by omega, by omega⟩ (path := path) (out := out) (by omega) (by omega)
    rw [show ((d + 1 : Nat) : Int) - 1 = (d : Int) by omega] at h4
    obtain ⟨ks, ms, g1, g2, g3, g4⟩ := ih (nbP a m) (path ++ [(k : Int)]) (out ++ [turnP a m]) f g h3 h4 (by omega) (by omega) (by omega) (by simp; omega) (by simp; omega)
    refine ⟨(k : Int) :: ks, turnP a m :: ms, ?_, ?_, ⟨m, idx_nat (by omega) (by simpa using h1), List.mem_of_getElem? h1, h2, rfl, g3⟩, by rw [List.length_cons, g4]⟩
    · show ob (pathIL_step (goal, w, st, path, a)) _ = _
      unfold pathIL_step
      dsimp only
      have h5' : pathIN (goal, (w.1, w.2), st, path, a, w.2, (w.2.length : Int), 0) = _ := h5
      rw [br_t (by simpa using hne), h5', ob_s]
      rw [List.append_assoc] at g1
      exact g1
    · show ob (pathSL_step (w, goal, st, out, path, a)) _ = _
      unfold pathSL_step
      dsimp only
      rw [br_t (by simpa using hne), h6, ob_s]
      rw [List.append_assoc, List.append_assoc] at g2
      exact g2
end Rx
end Go.Proofs.Ythehdbedojcpdaa
