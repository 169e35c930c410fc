/- Works of arbors and meshes: what the laws make of them, when two are the same, when one is valid, an arbor by its name, the wheels of a mesh. No program in sight. -/
import Derived.Test.YtonbgpliomhboaaGreatDoorRxSitesLaw
import Derived.Test.YtonbgpliomhboaaGreatDoorRxWorks
namespace Go.Proofs.YtonbgpliomhboaaGreatDoor
namespace Rx
open Go

abbrev ArborD := ByteArray × List Int
abbrev MeshD := Int × Int × Int × Int
abbrev WorksD := List ArborD × List MeshD

/-! ### Loops -/
def atE {α : Type} (e : α → α → Bool) (m : List α) (i : Nat) (y : α) : Bool := match m[i]? with | some z => e y z | none => false
theorem pair_loop {α σ : Type} {step : σ → Option (LRes × σ)} {l m : List α} (e : α → α → Bool) (st : Int → σ) (O Q : σ → Prop) (hlm : l.length = m.length)
    (hn : ∀ (i : Int) (y z : α), 0 ≤ i → i < l.length → idx l i = some y → idx m i = some z → e y z = true → step (st i) = some (.next, st (i + 1)))
    (hb : ∀ (i : Int) (y z : α), 0 ≤ i → i < l.length → idx l i = some y → idx m i = some z → e y z = false → ∃ s, step (st i) = some (.ret, s) ∧ Q s)
    (ho : ∃ s, step (st l.length) = some (.out, s) ∧ O s) {n : Nat} (hf : l.length < n) :
    ∃ s, iter step n (st 0) = some (allI (atE e m) l 0, s) ∧ (allI (atE e m) l 0 = true → O s) ∧ (allI (atE e m) l 0 = false → Q s) :=
  all_loopI (step := step) (l := l) st (atE e m) O Q
    (fun i y h0 h1 hy _ hp => by
      obtain ⟨z, hz, hz2⟩ := idx_get (l := m) h0 (by omega)
      unfold atE at hp; rw [hz2] at hp
      exact hn i y z h0 h1 hy hz hp)
    (fun i y h0 h1 hy _ hp => by
      obtain ⟨z, hz, hz2⟩ := idx_get (l := m) h0 (by omega)
      unfold atE at hp; rw [hz2] at hp
      exact hb i y z h0 h1 hy hz hp) ho hf
/-- The first one that fits. -/
theorem find_loop {α σ : Type} {step : σ → Option (LRes × σ)} {l : List α} (st : Int → σ) (p : α → Bool) (Q : Int → σ → Prop)
    (hn : ∀ (i : Int) (y : α), 0 ≤ i → i < l.length → idx l i = some y → p y = false → step (st i) = some (.next, st (i + 1)))
    (hb : ∀ (i : Int) (y : α), 0 ≤ i → i < l.length → idx l i = some y → p y = true → ∃ s, step (st i) = some (.ret, s) ∧ Q i s)
    (ho : ∃ s, step (st l.length) = some (.out, s)) {n : Nat} (hf : l.length < n) :
    ∃ b s, iter step n (st 0) = some (b, s) ∧ (b = true → l.findIdx? p = none) ∧ (b = false → ∃ k : Nat, l.findIdx? p = some k ∧ Q k s) := by
  have key : ∀ (n : Nat) (i : Nat), i ≤ l.length → l.length - i < n → ∃ b s, iter step n (st i) = some (b, s) ∧ (b = true → (l.drop i).findIdx? p = none) ∧ (b = false → ∃ k : Nat, (l.drop i).findIdx? p = some k ∧ Q (i + k : Nat) s) := by
    intro n
    induction n with
    | zero => intro i _ h; omega
    | succ n ih =>
      intro i hi h
      show ∃ b s, ob (step (st i)) _ = _ ∧ _
      by_cases hlt : i < l.length
      · obtain ⟨y, hy, hy2⟩ := idx_get (l := l) (i := (i : Int)) (by omega) (by omega)
        have hd : l.drop i = y :: l.drop (i + 1) := by
          rw [List.drop_eq_getElem_cons hlt]
          congr 1
          have := List.getElem?_eq_getElem hlt
          rw [show l[(i : Int).toNat]? = l[i]? by simp, this] at hy2
          cases hy2; rfl
        rw [hd, List.findIdx?_cons]
        cases hp : p y with
        | false =>
          rw [hn i y (by omega) (by omega) hy hp]
          obtain ⟨b, s, h1, h2, h3⟩ := ih (i + 1) (by omega) (by omega)
          refine ⟨b, s, h1, fun hb => by simp [h2 hb], fun hb => ?_⟩
          obtain ⟨k, k1, k2⟩ := h3 hb
          exact ⟨k + 1, by simp [k1], by rw [show i + (k + 1) = i + 1 + k by omega]; exact k2⟩
        | true =>
          obtain ⟨s, h1, h2⟩ := hb i y (by omega) (by omega) hy hp
          rw [h1]
          exact ⟨false, s, rfl, fun h => (by cases h), fun _ => ⟨0, by simp, by simpa using h2⟩⟩
      · have : i = l.length := by omega
        subst this
        obtain ⟨s, h1⟩ := ho
        rw [h1, List.drop_length]
        exact ⟨true, s, rfl, fun _ => rfl, fun h => by cases h⟩
  obtain ⟨b, s, h1, h2, h3⟩ := key n 0 (by omega) (by omega)
  refine ⟨b, s, h1, fun hb => by simpa using h2 hb, fun hb => ?_⟩
  obtain ⟨k, k1, k2⟩ := h3 hb
  exact ⟨k, by simpa using k1, by simpa using k2⟩
/-- Its place, or -1. -/
def placeOf {α : Type} (p : α → Bool) (l : List α) : Int := match l.findIdx? p with | some k => (k : Int) | none => -1
theorem placeOf_any {α : Type} (p : α → Bool) (l : List α) : decide (0 ≤ placeOf p l) = l.any p := by
  unfold placeOf
  cases h : l.findIdx? p with
  | none =>
    rw [List.findIdx?_eq_none_iff] at h
    symm
    rw [show decide ((0 : Int) ≤ -1) = false by decide, List.any_eq_false]
    intro x hx
    rw [h x hx]; simp
  | some k =>
    obtain ⟨hk, hp, _⟩ := List.findIdx?_eq_some_iff_getElem.1 h
    rw [show decide (0 ≤ (k : Int)) = true by simp]
    symm
    rw [List.any_eq_true]
    exact ⟨_, List.getElem_mem hk, hp⟩
theorem placeOf_first {α : Type} {p : α → Bool} {l : List α} {i : Nat} {y : α} (hy : l[i]? = some y) (hp : p y = true) : (placeOf p l != (i : Int)) = (l.take i).any p := by
  obtain ⟨hi, rfl⟩ := List.getElem?_eq_some_iff.1 hy
  unfold placeOf
  cases ha : (l.take i).any p with
  | false =>
    have : l.findIdx? p = some i := by
      refine List.findIdx?_eq_some_iff_getElem.2 ⟨hi, hp, fun j hj => ?_⟩
      rw [List.any_eq_false] at ha
      exact ha _ (by
        rw [List.mem_take_iff_getElem]
        exact ⟨j, by omega, rfl⟩)
    rw [this]; simp
  | true =>
    cases h : l.findIdx? p with
    | none =>
      rw [List.findIdx?_eq_none_iff] at h
      rw [h _ (List.getElem_mem hi)] at hp
      cases hp
    | some k =>
      obtain ⟨hk, hp, hb⟩ := List.findIdx?_eq_some_iff_getElem.1 h
      have : k ≠ i := by
        rintro rfl
        rw [List.any_eq_true] at ha
        obtain ⟨x, hx, hpx⟩ := ha
        rw [List.mem_take_iff_getElem] at hx
        obtain ⟨j, hj, rfl⟩ := hx
        exact hb j (by omega) hpx
      show (((k : Int)) != (i : Int)) = true
      simp; omega

/-! ### Copies -/
/-- Small enough to be copied. -/
def smallW (w : WorksD) : Prop := w.1.length ≤ 1048576 ∧ (∀ a ∈ w.1, a.2.length ≤ 1048576) ∧ w.2.length ≤ 1048576
/-! ### Sizes -/
/-! ### Each is itself -/
/-! ### The same works -/
def listEq {α : Type} (e : α → α → Bool) (l m : List α) : Bool := decide (l.length = m.length) && allI (atE e m) l 0
theorem len_ne {α β : Type} {l : List α} {m : List β} : ((l.length : Int) != (m.length : Int)) = !decide (l.length = m.length) := by
  by_cases h : l.length = m.length
  · simp [h]
  · simp [h]; omega
theorem sameIntS_eq {l m : List Int} (hl : l.length ≤ 4294967296) : sameIntS (l, m) = some (listEq (fun y z => y == z) l m) := by
  unfold sameIntS listEq
  dsimp only
  rw [len_ne]
  by_cases hlm : l.length = m.length
  · obtain ⟨s, h, _, h2⟩ := pair_loop (step := sameIntSL_step) (l := l) (m := m) (fun y z => y == z) (fun i => (l, m, false, i)) (fun _ => True) (fun s => s.2.2.1 = false) hlm
      (fun i y z h0 h1 hy hz he => by
        show br (decide (i < (l.length : Int))) (ob (idx l i) fun y => ob (idx m i) fun z => br (y != z) _ (some (LRes.next, l, m, false, IntKind.i64.wrap (i + 1)))) _ = _
        rw [br_t (by simpa using h1), hy, hz, ob_s, ob_s, br_f (by simpa using he), w64 (by omega) (by omega)])
      (fun i y z h0 h1 hy hz he => by
        refine ⟨(l, m, false, i), ?_, rfl⟩
        show br (decide (i < (l.length : Int))) (ob (idx l i) fun y => ob (idx m i) fun z => br (y != z) (some (LRes.ret, l, m, false, i)) _) _ = _
        rw [br_t (by simpa using h1), hy, hz, ob_s, ob_s, br_t (by simpa using he)])
      ⟨_, by
        show br (decide ((l.length : Int) < (l.length : Int))) _ _ = _
        rw [br_f (by simp)], trivial⟩ (n := l.length - (0 : Int).toNat + 1) (by omega)
    have h' : sameIntSL (l, m, false, 0) = some (allI (atE (fun y z => y == z) m) l 0, s) := h
    rw [h', decide_eq_true hlm, br_f (c := !true) rfl, Bool.true_and]
    cases hb : allI (atE (fun y z => y == z) m) l 0 with
    | true => rfl
    | false =>
      show some s.2.2.1 = _
      rw [h2 hb]
  · rw [decide_eq_false hlm]; rfl
def meshE (y z : MeshD) : Bool := y.1 == z.1 && (y.2.1 == z.2.1 && (y.2.2.1 == z.2.2.1 && y.2.2.2 == z.2.2.2))
def arborE (y z : ArborD) : Bool := y.1.toList == z.1.toList && listEq (fun y z => y == z) y.2 z.2
theorem mem_idx {α : Type} {l : List α} {i : Int} {y : α} (h : idx l i = some y) : y ∈ l := by
  unfold idx at h
  split at h
  · exact List.mem_of_getElem? h
  · cases h
def worksE (v w : WorksD) : Bool := listEq meshE v.2 w.2 && listEq arborE v.1 w.1
theorem sameWSA_eq {v w : WorksD} (h : smallW v) (hlm : v.1.length = w.1.length) : ∃ s, sameWSA (v, w, false, 0) = some (allI (atE arborE w.1) v.1 0, s) ∧ s.1 = v ∧ s.2.1 = w ∧ s.2.2.1 = false := by
  have hl := h.1
  have main : ∀ (i : Int) (y z : ArborD), 0 ≤ i → i < v.1.length → idx v.1 i = some y → idx w.1 i = some z → sameWSA_step (v, w, false, i) = some (if arborE y z then (.next, v, w, false, i + 1) else (.ret, v, w, false, i)) := by
    intro i y z h0 h1 hy hz
    show br (decide (i < (v.1.length : Int))) (ob (idx v.1 i) fun y => ob (idx w.1 i) fun z => br (!y.1.toList == z.1.toList) (some (LRes.ret, v, w, false, i)) (ob (idx v.1 i) fun y => ob (idx w.1 i) fun z => ob (sameIntS (y.2, z.2)) fun y => br (!y) (some (LRes.ret, v, w, false, i)) (some (LRes.next, v, w, false, IntKind.i64.wrap (i + 1))))) _ = _
    have := h.2.1 y (mem_idx hy)
    rw [br_t (by simpa using h1), hy, hz]
    simp only [ob_s]
    rw [sameIntS_eq (by omega), ob_s, w64 (by omega) (by omega)]
    unfold arborE
    cases y.1.toList == z.1.toList <;> cases listEq (fun y z => y == z) y.2 z.2 <;> rfl
  obtain ⟨s, h, h1, h2⟩ := pair_loop (step := sameWSA_step) (l := v.1) (m := w.1) arborE (fun i => (v, w, false, i)) (fun s => s.1 = v ∧ s.2.1 = w ∧ s.2.2.1 = false) (fun s => s.1 = v ∧ s.2.1 = w ∧ s.2.2.1 = false) hlm
      (fun i y z h0 h1 hy hz he => by rw [main i y z h0 h1 hy hz, he]; rfl)
      (fun i y z h0 h1 hy hz he => ⟨(v, w, false, i), by rw [main i y z h0 h1 hy hz, he]; rfl, rfl, rfl, rfl⟩)
      ⟨(v, w, false, (v.1.length : Int)), by
        show br (decide ((v.1.length : Int) < (v.1.length : Int))) _ _ = _
        rw [br_f (by simp)], rfl, rfl, rfl⟩ (n := v.1.length - (0 : Int).toNat + 1) (by omega)
  refine ⟨s, h, ?_⟩
  cases hb : allI (atE arborE w.1) v.1 0 with
  | true => exact h1 hb
  | false => exact h2 hb
theorem sameWSM_eq {v w : WorksD} (h : smallW v) (hlm : v.2.length = w.2.length) : ∃ s, sameWSM (v, w, false, 0) = some (allI (atE meshE w.2) v.2 0, s) ∧ (allI (atE meshE w.2) v.2 0 = false → s.2.2.1 = false) := by
  have hl := h.2.2
  obtain ⟨s, h, h1, h2⟩ := pair_loop (step := sameWSM_step) (l := v.2) (m := w.2) meshE (fun i => (v, w, false, i)) (fun s => True) (fun s => s.2.2.1 = false) hlm
      (fun i y z h0 h1 hy hz he => by
        show br (decide (i < (v.2.length : Int))) (ob (idx v.2 i) fun y => ob (idx w.2 i) fun z => br (!meshE y z) _ (some (LRes.next, v, w, false, IntKind.i64.wrap (i + 1)))) _ = _
        rw [br_t (by simpa using h1), hy, hz, ob_s, ob_s, br_f (by simp [he]), w64 (by omega) (by omega)])
      (fun i y z h0 h1 hy hz he => by
        refine ⟨(v, w, false, i), ?_, rfl⟩
        show br (decide (i < (v.2.length : Int))) (ob (idx v.2 i) fun y => ob (idx w.2 i) fun z => br (!meshE y z) (some (LRes.ret, v, w, false, i)) _) _ = _
        rw [br_t (by simpa using h1), hy, hz, ob_s, ob_s, br_t (by simp [he])])
      ⟨(v, w, false, (v.2.length : Int)), by
        show br (decide ((v.2.length : Int) < (v.2.length : Int))) _ _ = _
        rw [br_f (by simp)], trivial⟩ (n := v.2.length - (0 : Int).toNat + 1) (by omega)
  exact ⟨s, h, h2⟩
theorem sameWS_eq {v w : WorksD} (h : smallW v) : sameWS (v, w) = some (worksE v w) := by
  show br ((v.1.length : Int) != (w.1.length : Int)) (some false) (br ((v.2.length : Int) != (w.2.length : Int)) (some false) (ob (sameWSA (v, w, false, 0)) fun r => br r.1 (ob (sameWSM (r.2.1, r.2.2.1, r.2.2.2.1, 0)) fun r => br r.1 (some true) (some r.2.2.2.1)) (some r.2.2.2.1))) = _
  unfold worksE listEq
  rw [len_ne, len_ne]
  by_cases h1 : v.1.length = w.1.length
  · by_cases h2 : v.2.length = w.2.length
    · obtain ⟨s, e, s1, s2, s3⟩ := sameWSA_eq h h1
      obtain ⟨t, e2, t1⟩ := sameWSM_eq h h2
      rw [e, decide_eq_true h1, decide_eq_true h2, br_f (c := !true) rfl, br_f (c := !true) rfl, ob_s, s1, s2, s3, e2, Bool.true_and, Bool.true_and]
      cases allI (atE arborE w.1) v.1 0 with
      | false => simp [br]
      | true =>
        cases hb : allI (atE meshE w.2) v.2 0 with
        | true => rfl
        | false =>
          show some t.2.2.1 = _
          rw [t1 hb]; rfl
    · rw [decide_eq_false h2, decide_eq_true h1]; rfl
  · rw [decide_eq_false h1]; simp [br]
/-! ### Valid works -/
def teethF (y : Int) : Bool := inF y 6 240
theorem toothedW_eq (y : Int) : toothedW y = some (teethF y) := by
  unfold toothedW
  rw [withinP_eq]; rfl
theorem teethW_eq (y : Int) : teethW y = some (teethF y) := by
  unfold teethW
  rw [inP_eq]; rfl
def arborOk (a : ArborD) : Bool := a.2.all teethF && (nameF a.1 && decide ((a.2.length : Int) ≤ 5))
theorem validArborI_eq {a : ArborD} (h : a.2.length ≤ 1048576) : validArborI a = some (arborOk a) := by
  obtain ⟨s, e, h1, h2⟩ := all_loop (step := validArborIL_step) (l := a.2) (fun i => (a, false, a.2, (a.2.length : Int), i)) teethF (fun s => s.1 = a) (fun s => s.2.1 = false)
    (fun i y h0 h1 hy hp => by
      show br (decide (i < (a.2.length : Int))) (ob (idx a.2 i) fun y => ob (toothedW y) fun y => br (!y) _ (some (LRes.next, a, false, a.2, (a.2.length : Int), IntKind.i64.wrap (i + 1)))) _ = _
      rw [br_t (by simpa using h1), hy, ob_s, toothedW_eq, hp, ob_s, br_f (c := !true) rfl, w64 (by omega) (by omega)])
    (fun i y h0 h1 hy hp => by
      refine ⟨(a, false, a.2, (a.2.length : Int), i), ?_, rfl⟩
      show br (decide (i < (a.2.length : Int))) (ob (idx a.2 i) fun y => ob (toothedW y) fun y => br (!y) (some (LRes.ret, a, false, a.2, (a.2.length : Int), i)) _) _ = _
      rw [br_t (by simpa using h1), hy, ob_s, toothedW_eq, hp, ob_s, br_t (c := !false) rfl])
    ⟨(a, false, a.2, (a.2.length : Int), (a.2.length : Int)), by
      show br (decide ((a.2.length : Int) < (a.2.length : Int))) _ _ = _
      rw [br_f (by simp)], rfl⟩ (n := ((a.2.length : Int) - 0).toNat + 1) (by omega)
  have e' : validArborIL ((a.1, a.2), false, a.2, (a.2.length : Int), 0) = some (a.2.all teethF, s) := e
  unfold validArborI arborOk
  rw [e', ob_s]
  cases hb : a.2.all teethF with
  | false =>
    show some s.2.1 = _
    rw [h2 hb]; rfl
  | true =>
    show ob (nameI s.1.1) (fun y => br y (some (decide ((s.1.2.length : Int) ≤ 5))) (some false)) = _
    rw [h1 hb, nameI_eq, ob_s, Bool.true_and]
    cases nameF a.1 <;> rfl
theorem okArborS_eq {a : ArborD} (h : a.2.length ≤ 1048576) : okArborS a = some (arborOk a) := by
  obtain ⟨s, e, h1, h2⟩ := all_loop (step := okArborSL_step) (l := a.2) (fun i => (a, false, i)) teethF (fun s => s.1 = a) (fun s => s.2.1 = false)
    (fun i y h0 h1 hy hp => by
      show br (decide (i < (a.2.length : Int))) (ob (idx a.2 i) fun y => ob (teethW y) fun y => br (!y) _ (some (LRes.next, a, false, IntKind.i64.wrap (i + 1)))) _ = _
      rw [br_t (by simpa using h1), hy, ob_s, teethW_eq, hp, ob_s, br_f (c := !true) rfl, w64 (by omega) (by omega)])
    (fun i y h0 h1 hy hp => by
      refine ⟨(a, false, i), ?_, rfl⟩
      show br (decide (i < (a.2.length : Int))) (ob (idx a.2 i) fun y => ob (teethW y) fun y => br (!y) (some (LRes.ret, a, false, i)) _) _ = _
      rw [br_t (by simpa using h1), hy, ob_s, teethW_eq, hp, ob_s, br_t (c := !false) rfl])
    ⟨(a, false, (a.2.length : Int)), by
      show br (decide ((a.2.length : Int) < (a.2.length : Int))) _ _ = _
      rw [br_f (by simp)], rfl⟩ (n := a.2.length - (0 : Int).toNat + 1) (by omega)
  have e' : okArborSL (a, false, 0) = some (a.2.all teethF, s) := e
  unfold okArborS arborOk
  rw [e', ob_s]
  cases hb : a.2.all teethF with
  | false =>
    show some s.2.1 = _
    rw [h2 hb]; rfl
  | true =>
    show ob (nameS s.1.1) (fun y => br y (some (decide ((s.1.2.length : Int) ≤ 5))) (some false)) = _
    rw [h1 hb, nameS_eq, ob_s, Bool.true_and]
    cases nameF a.1 <;> rfl

/-! Names of arbors -/
def sameN (s : ByteArray) (z : ArborD) : Bool := z.1.toList == s.toList
theorem findArborI_eq {l : List ArborD} (hl : l.length ≤ 1048576) (s : ByteArray) : findArborI (l, s) = some (placeOf (sameN s) l) := by
  obtain ⟨b, t, e, h1, h2⟩ := find_loop (step := findArborIL_step) (l := l) (fun i => (l, s, 0, (l.length : Int), i)) (sameN s) (fun i t => t.2.2.1 = i)
    (fun i y h0 h1 hy hp => by
      show br (decide (i < (l.length : Int))) (ob (idx l i) fun y => br (sameN s y) _ (some (LRes.next, l, s, 0, (l.length : Int), IntKind.i64.wrap (i + 1)))) _ = _
      rw [br_t (by simpa using h1), hy, ob_s, br_f hp, w64 (by omega) (by omega)])
    (fun i y h0 h1 hy hp => by
      refine ⟨(l, s, i, (l.length : Int), i), ?_, rfl⟩
      show br (decide (i < (l.length : Int))) (ob (idx l i) fun y => br (sameN s y) (some (LRes.ret, l, s, i, (l.length : Int), i)) _) _ = _
      rw [br_t (by simpa using h1), hy, ob_s, br_t hp])
    ⟨_, by
      show br (decide ((l.length : Int) < (l.length : Int))) _ _ = _
      rw [br_f (by simp)]⟩ (n := ((l.length : Int) - 0).toNat + 1) (by omega)
  have e' : findArborIL (l, s, 0, (l.length : Int), 0) = some (b, t) := e
  unfold findArborI placeOf
  dsimp only
  rw [e', ob_s]
  cases b with
  | true => rw [h1 rfl]; rfl
  | false =>
    obtain ⟨k, k1, k2⟩ := h2 rfl
    rw [k1]
    show some t.2.2.1 = _
    rw [k2]
theorem findArborS_eq {w : WorksD} (hl : w.1.length ≤ 1048576) (s : ByteArray) : findArborS (w, s) = some (placeOf (sameN s) w.1) := by
  obtain ⟨b, t, e, h1, h2⟩ := find_loop (step := findArborSL_step) (l := w.1) (fun i => (w, s, 0, i)) (sameN s) (fun i t => t.2.2.1 = i)
    (fun i y h0 h1 hy hp => by
      show br (decide (i < (w.1.length : Int))) (ob (idx w.1 i) fun y => br (sameN s y) _ (some (LRes.next, w, s, 0, IntKind.i64.wrap (i + 1)))) _ = _
      rw [br_t (by simpa using h1), hy, ob_s, br_f hp, w64 (by omega) (by omega)])
    (fun i y h0 h1 hy hp => by
      refine ⟨(w, s, i, i), ?_, rfl⟩
      show br (decide (i < (w.1.length : Int))) (ob (idx w.1 i) fun y => br (sameN s y) (some (LRes.ret, w, s, i, i)) _) _ = _
      rw [br_t (by simpa using h1), hy, ob_s, br_t hp])
    ⟨_, by
      show br (decide ((w.1.length : Int) < (w.1.length : Int))) _ _ = _
      rw [br_f (by simp)]⟩ (n := w.1.length - (0 : Int).toNat + 1) (by omega)
  have e' : findArborSL (w, s, 0, 0) = some (b, t) := e
  unfold findArborS placeOf
  dsimp only
  rw [e', ob_s]
  cases b with
  | true => rw [h1 rfl]; rfl
  | false =>
    obtain ⟨k, k1, k2⟩ := h2 rfl
    rw [k1]
    show some t.2.2.1 = _
    rw [k2]

/-! Arbors at their places -/
def arborPlace (w : WorksD) (i : Nat) (a : ArborD) : Bool := arborOk a && !((w.1.take i).any (sameN a.1))
theorem validWN_eq {w : WorksD} (hw : smallW w) {i : Int} (a : ArborD) (h0 : 0 ≤ i) (h1 : i ≤ w.1.length) :
    ∃ j : Int, validWN (w, false, a, w.1, (w.1.length : Int), i, w.1.take i.toNat, ((w.1.take i.toNat).length : Int), 0) = some (!((w.1.take i.toNat).any (sameN a.1)), (w, false, a, w.1, (w.1.length : Int), i, w.1.take i.toNat, ((w.1.take i.toNat).length : Int), j)) := by
  have hl := hw.1
  have hlen : (w.1.take i.toNat).length = i.toNat := by rw [List.length_take]; omega
  generalize hL : w.1.take i.toNat = L at hlen
  have hcomm : ∀ z : ArborD, (a.1.toList == z.1.toList) = sameN a.1 z := fun z => Bool.beq_comm
  obtain ⟨t, e, h3, h4⟩ := all_loop (step := validWN_step) (l := L) (fun j => (w, false, a, w.1, (w.1.length : Int), i, L, (L.length : Int), j)) (fun z => !sameN a.1 z)
    (fun t => ∃ j : Int, t = (w, false, a, w.1, (w.1.length : Int), i, L, (L.length : Int), j)) (fun t => ∃ j : Int, t = (w, false, a, w.1, (w.1.length : Int), i, L, (L.length : Int), j))
    (fun j z j0 j1 hz hp => by
      show br (decide (j < (L.length : Int))) (ob (idx L j) fun z => br (a.1.toList == z.1.toList) _ (some (LRes.next, w, false, a, w.1, (w.1.length : Int), i, L, (L.length : Int), IntKind.i64.wrap (j + 1)))) _ = _
      rw [br_t (by simpa using j1), hz, ob_s, hcomm, br_f (by simpa using hp), w64 (by omega) (by omega)])
    (fun j z j0 j1 hz hp => by
      refine ⟨(w, false, a, w.1, (w.1.length : Int), i, L, (L.length : Int), j), ?_, j, rfl⟩
      show br (decide (j < (L.length : Int))) (ob (idx L j) fun z => br (a.1.toList == z.1.toList) (some (LRes.ret, w, false, a, w.1, (w.1.length : Int), i, L, (L.length : Int), j)) _) _ = _
      rw [br_t (by simpa using j1), hz, ob_s, hcomm, br_t (by simpa using hp)])
    ⟨(w, false, a, w.1, (w.1.length : Int), i, L, (L.length : Int), (L.length : Int)), by
      show br (decide ((L.length : Int) < (L.length : Int))) _ _ = _
      rw [br_f (by simp)], _, rfl⟩ (n := ((L.length : Int) - 0).toNat + 1) (by omega)
  have ha : (!(L.any (sameN a.1))) = L.all fun z => !sameN a.1 z := by
    rw [List.any_eq_not_all_not, Bool.not_not]
  obtain ⟨j, rfl⟩ : ∃ j : Int, t = (w, false, a, w.1, (w.1.length : Int), i, L, (L.length : Int), j) := by
    cases hb : L.all fun z => !sameN a.1 z with
    | true => exact h3 hb
    | false => exact h4 hb
  rw [ha]
  exact ⟨j, e⟩
theorem validWA_eq {w : WorksD} (hw : smallW w) : ∃ t, validWA (w, false, w.1, (w.1.length : Int), 0) = some (allI (arborPlace w) w.1 0, t) ∧ t.1 = w ∧ t.2.1 = false := by
  have hl := hw.1
  have main : ∀ (i : Int) (y : ArborD), 0 ≤ i → i < w.1.length → idx w.1 i = some y → validWA_step (w, false, w.1, (w.1.length : Int), i) = some (if arborPlace w i.toNat y then (.next, w, false, w.1, (w.1.length : Int), i + 1) else (.ret, w, false, w.1, (w.1.length : Int), i)) := by
    intro i y h0 h1 hy
    obtain ⟨j, e⟩ := validWN_eq hw y h0 (by omega)
    show br (decide (i < (w.1.length : Int))) (ob (idx w.1 i) fun y => ob (validArborI y) fun y_1 => br (!y_1) (some (LRes.ret, w, false, w.1, (w.1.length : Int), i)) (br (decide ((0 : Int) ≤ 0 ∧ 0 ≤ i ∧ i ≤ (w.1.length : Int))) (ob (validWN (w, false, y, w.1, (w.1.length : Int), i, w.1.take i.toNat, ((w.1.take i.toNat).length : Int), 0)) fun r => br r.1 (some (LRes.next, r.2.1, r.2.2.1, r.2.2.2.2.1, r.2.2.2.2.2.1, IntKind.i64.wrap (r.2.2.2.2.2.2.1 + 1))) (some (LRes.ret, r.2.1, r.2.2.1, r.2.2.2.2.1, r.2.2.2.2.2.1, r.2.2.2.2.2.2.1))) none)) _ = _
    rw [br_t (by simpa using h1), hy, ob_s, validArborI_eq (hw.2.1 y (mem_idx hy)), ob_s]
    unfold arborPlace
    cases arborOk y with
    | false => rfl
    | true =>
      rw [br_f (c := !true) rfl, br_t (by simp; omega), e, ob_s]
      dsimp only
      rw [w64 (by omega) (by omega)]
      cases (w.1.take i.toNat).any (sameN y.1) <;> rfl
  obtain ⟨t, h, h1, h2⟩ := all_loopI (step := validWA_step) (l := w.1) (fun i => (w, false, w.1, (w.1.length : Int), i)) (arborPlace w) (fun t => t.1 = w ∧ t.2.1 = false) (fun t => t.1 = w ∧ t.2.1 = false)
      (fun i y h0 h1 hy _ hp => by rw [main i y h0 h1 hy, if_pos hp])
      (fun i y h0 h1 hy _ hp => ⟨(w, false, w.1, (w.1.length : Int), i), by rw [main i y h0 h1 hy, if_neg (by simp [hp])], rfl, rfl⟩)
      ⟨(w, false, w.1, (w.1.length : Int), (w.1.length : Int)), by
        show br (decide ((w.1.length : Int) < (w.1.length : Int))) _ _ = _
        rw [br_f (by simp)], rfl, rfl⟩ (n := ((w.1.length : Int) - 0).toNat + 1) (by omega)
  refine ⟨t, h, ?_⟩
  cases hb : allI (arborPlace w) w.1 0 with
  | true => exact h1 hb
  | false => exact h2 hb
theorem okWSA_eq {w : WorksD} (hw : smallW w) : ∃ t, okWSA (w, false, 0) = some (allI (arborPlace w) w.1 0, t) ∧ t.1 = w ∧ t.2.1 = false := by
  have hl := hw.1
  have main : ∀ (i : Int) (y : ArborD), 0 ≤ i → i < w.1.length → idx w.1 i = some y → w.1[i.toNat]? = some y → okWSA_step (w, false, i) = some (if arborPlace w i.toNat y then (.next, w, false, i + 1) else (.ret, w, false, i)) := by
    intro i y h0 h1 hy hy2
    show br (decide (i < (w.1.length : Int))) (ob (idx w.1 i) fun y => ob (okArborS y) fun y => br (!y) (some (LRes.ret, w, false, i)) (ob (idx w.1 i) fun y => ob (findArborS (w, y.1)) fun y => br (y != i) (some (LRes.ret, w, false, i)) (some (LRes.next, w, false, IntKind.i64.wrap (i + 1))))) _ = _
    have hf := placeOf_first (p := sameN y.1) hy2 (by unfold sameN; simp)
    rw [show ((i.toNat : Nat) : Int) = i by omega] at hf
    rw [br_t (by simpa using h1), hy, ob_s, okArborS_eq (hw.2.1 y (mem_idx hy)), ob_s, ob_s, findArborS_eq hl, ob_s, hf, w64 (by omega) (by omega)]
    unfold arborPlace
    cases arborOk y <;> cases (w.1.take i.toNat).any (sameN y.1) <;> rfl
  obtain ⟨t, h, h1, h2⟩ := all_loopI (step := okWSA_step) (l := w.1) (fun i => (w, false, i)) (arborPlace w) (fun t => t.1 = w ∧ t.2.1 = false) (fun t => t.1 = w ∧ t.2.1 = false)
      (fun i y h0 h1 hy hy2 hp => by rw [main i y h0 h1 hy hy2, if_pos hp])
      (fun i y h0 h1 hy hy2 hp => ⟨(w, false, i), by rw [main i y h0 h1 hy hy2, if_neg (by simp [hp])], rfl, rfl⟩)
      ⟨(w, false, (w.1.length : Int)), by
        show br (decide ((w.1.length : Int) < (w.1.length : Int))) _ _ = _
        rw [br_f (by simp)], rfl, rfl⟩ (n := w.1.length - (0 : Int).toNat + 1) (by omega)
  refine ⟨t, h, ?_⟩
  cases hb : allI (arborPlace w) w.1 0 with
  | true => exact h1 hb
  | false => exact h2 hb

/-! Meshes at their places -/
def wheelF (w : WorksD) (a k : Int) : Bool := inF a 0 ((w.1.length : Int) - 1) && (match idx w.1 a with | some y => inF k 0 ((y.2.length : Int) - 1) | none => false)
theorem wheel_at {w : WorksD} {a k : Int} (h : wheelF w a k = true) : ∃ y z, idx w.1 a = some y ∧ idx y.2 k = some z := by
  unfold wheelF at h
  rw [Bool.and_eq_true] at h
  obtain ⟨h1, h2⟩ := h
  unfold inF at h1
  rw [Bool.and_eq_true, decide_eq_true_eq, decide_eq_true_eq] at h1
  obtain ⟨y, hy, _⟩ := idx_get (l := w.1) h1.1 (by omega)
  rw [hy] at h2
  unfold inF at h2
  simp only [Bool.and_eq_true, decide_eq_true_eq] at h2
  obtain ⟨z, hz, _⟩ := idx_get (l := y.2) h2.1 (by omega)
  exact ⟨y, z, hy, hz⟩
theorem hasWheelI_eq {w : WorksD} (hw : smallW w) (a k : Int) : hasWheelI (w, a, k) = some (wheelF w a k) := by
  have hl := hw.1
  show ob (withinP (a, 0, IntKind.i64.wrap ((w.1.length : Int) - 1))) (fun y => br y (ob (idx w.1 a) fun y => ob (withinP (k, 0, IntKind.i64.wrap ((y.2.length : Int) - 1))) fun y => some y) (some false)) = _
  rw [w64 (by omega) (by omega), withinP_eq, ob_s]
  unfold wheelF
  cases h : inF a 0 ((w.1.length : Int) - 1) with
  | false => rfl
  | true =>
    have h1 := h
    unfold inF at h1
    rw [Bool.and_eq_true, decide_eq_true_eq, decide_eq_true_eq] at h1
    obtain ⟨y, hy, _⟩ := idx_get (l := w.1) h1.1 (by omega)
    have hs := hw.2.1 y (mem_idx hy)
    rw [hy, br_t rfl, ob_s, w64 (by omega) (by omega), withinP_eq]
    rfl
theorem wheelS_eq {w : WorksD} (hw : smallW w) (a k : Int) : wheelS (w, a, k) = some (wheelF w a k) := hasWheelI_eq hw a k
def joinF (w : WorksD) (m : MeshD) : Bool := m.1 != m.2.2.1 && (wheelF w m.1 m.2.1 && wheelF w m.2.2.1 m.2.2.2)
theorem joinsI_eq {w : WorksD} (hw : smallW w) (m : MeshD) : joinsI (w, m) = some (joinF w m) := by
  show br (m.1 != m.2.2.1) (ob (hasWheelI (w, m.1, m.2.1)) fun y => br y (ob (hasWheelI (w, m.2.2.1, m.2.2.2)) fun y => some y) (some false)) (some false) = _
  rw [hasWheelI_eq hw, hasWheelI_eq hw]
  unfold joinF
  cases m.1 != m.2.2.1 <;> cases wheelF w m.1 m.2.1 <;> rfl
theorem meshS_eq {w : WorksD} (hw : smallW w) (m : MeshD) : meshS (w, m) = some (joinF w m) := by
  show br (m.1 != m.2.2.1) (ob (wheelS (w, m.1, m.2.1)) fun y => br y (ob (wheelS (w, m.2.2.1, m.2.2.2)) fun y => some y) (some false)) (some false) = _
  rw [wheelS_eq hw, wheelS_eq hw]
  unfold joinF
  cases m.1 != m.2.2.1 <;> cases wheelF w m.1 m.2.1 <;> rfl
/-- One earlier mesh is the same, or the same turned round. -/
def knownF (m z : MeshD) : Bool := (z.1 == m.1 && (z.2.1 == m.2.1 && (z.2.2.1 == m.2.2.1 && z.2.2.2 == m.2.2.2))) || (z.1 == m.2.2.1 && (z.2.1 == m.2.2.2 && (z.2.2.1 == m.1 && z.2.2.2 == m.2.1)))
theorem equalMeshS_eq (z m : MeshD) : equalMeshS (z, m) = some (knownF m z) := by
  unfold equalMeshS knownF
  dsimp only
  cases z.1 == m.1 && (z.2.1 == m.2.1 && (z.2.2.1 == m.2.2.1 && z.2.2.2 == m.2.2.2)) <;> cases z.1 == m.2.2.1 <;> cases z.2.1 == m.2.2.2 <;> cases z.2.2.1 == m.1 <;> rfl
theorem meshFnI_eq (z m : MeshD) : meshFnI (z, m) = some (knownF m z) := by
  have e : sameMeshI (m, z) = some (knownF m z) := by
    have hk : knownF m z = ((m.1 == z.1 && (m.2.1 == z.2.1 && (m.2.2.1 == z.2.2.1 && m.2.2.2 == z.2.2.2))) || (m.1 == z.2.2.1 && (m.2.1 == z.2.2.2 && (m.2.2.1 == z.1 && m.2.2.2 == z.2.1)))) := by
      unfold knownF
      rw [Bool.eq_iff_iff]
      simp only [Bool.or_eq_true, Bool.and_eq_true, beq_iff_eq]
      omega
    rw [hk]
    unfold sameMeshI
    dsimp only
    cases m.1 == z.1 && (m.2.1 == z.2.1 && (m.2.2.1 == z.2.2.1 && m.2.2.2 == z.2.2.2)) <;> rfl
  show ob (sameMeshI (m, z)) (fun y => some y) = _
  rw [e]; rfl
theorem hasMesh_eq {l : List MeshD} (hl : l.length ≤ 1048576) (m : MeshD) : hasMesh (l, m) = some (l.any (knownF m)) := by
  obtain ⟨b, t, e, h1, h2⟩ := find_loop (step := findMeshL_step) (l := l) (fun i => (l, m, 0, (l.length : Int), i)) (knownF m) (fun i t => t.2.2.1 = i)
    (fun i y h0 h1 hy hp => by
      show br (decide (i < (l.length : Int))) (ob (idx l i) fun y => ob (meshFnI (y, m)) fun y => br y _ (some (LRes.next, l, m, 0, (l.length : Int), IntKind.i64.wrap (i + 1)))) _ = _
      rw [br_t (by simpa using h1), hy, ob_s, meshFnI_eq, hp, ob_s, br_f rfl, w64 (by omega) (by omega)])
    (fun i y h0 h1 hy hp => by
      refine ⟨(l, m, i, (l.length : Int), i), ?_, rfl⟩
      show br (decide (i < (l.length : Int))) (ob (idx l i) fun y => ob (meshFnI (y, m)) fun y => br y (some (LRes.ret, l, m, i, (l.length : Int), i)) _) _ = _
      rw [br_t (by simpa using h1), hy, ob_s, meshFnI_eq, hp, ob_s, br_t rfl])
    ⟨_, by
      show br (decide ((l.length : Int) < (l.length : Int))) _ _ = _
      rw [br_f (by simp)]⟩ (n := ((l.length : Int) - 0).toNat + 1) (by omega)
  have e' : findMeshL (l, m, 0, (l.length : Int), 0) = some (b, t) := e
  have ef : findMesh (l, m) = some (placeOf (knownF m) l) := by
    unfold findMesh placeOf
    dsimp only
    rw [e', ob_s]
    cases b with
    | true => rw [h1 rfl]; rfl
    | false =>
      obtain ⟨k, k1, k2⟩ := h2 rfl
      rw [k1]
      show some t.2.2.1 = _
      rw [k2]
  show ob (findMesh (l, m)) (fun y => some (decide (0 ≤ y))) = _
  rw [ef, ob_s, placeOf_any]
theorem knownS_eq {w : WorksD} (hw : smallW w) {i : Int} (m : MeshD) (h0 : 0 ≤ i) (h1 : i ≤ w.2.length) : knownS (w, m, i) = some ((w.2.take i.toNat).any (knownF m)) := by
  have hl := hw.2.2
  have hlen : (w.2.take i.toNat).length = i.toNat := by rw [List.length_take]; omega
  have hat : ∀ (j : Int) z, 0 ≤ j → j < ((w.2.take i.toNat).length : Int) → idx (w.2.take i.toNat) j = some z → idx w.2 j = some z := by
    intro j z j0 j1 hz
    unfold idx at hz ⊢
    rw [if_pos j0] at hz ⊢
    rw [List.getElem?_take_of_lt (by omega)] at hz
    exact hz
  obtain ⟨t, e, h3, h2⟩ := all_loop (step := knownSL_step) (l := w.2.take i.toNat) (fun j => (w, i, m, false, j)) (fun z => !knownF m z) (fun _ => True) (fun t => t.2.2.2.1 = true)
    (fun j z j0 j1 hz hp => by
      have hz' := hat j z j0 j1 hz
      show br (decide (j < i)) (ob (idx w.2 j) fun z => ob (equalMeshS (z, m)) fun y => br y _ (some (LRes.next, w, i, m, false, IntKind.i64.wrap (j + 1)))) _ = _
      rw [br_t (by simp; omega), hz', ob_s, equalMeshS_eq, ob_s, br_f (by simpa using hp), w64 (by omega) (by omega)])
    (fun j z j0 j1 hz hp => by
      have hz' := hat j z j0 j1 hz
      refine ⟨(w, i, m, true, j), ?_, rfl⟩
      show br (decide (j < i)) (ob (idx w.2 j) fun z => ob (equalMeshS (z, m)) fun y => br y (some (LRes.ret, w, i, m, true, j)) _) _ = _
      rw [br_t (by simp; omega), hz', ob_s, equalMeshS_eq, ob_s, br_t (by simpa using hp)])
    ⟨_, by
      show br (decide (((w.2.take i.toNat).length : Int) < i)) _ _ = _
      rw [br_f (by simp; omega)], trivial⟩ (n := (i - 0).toNat + 1) (by omega)
  have e' : knownSL (w, i, (m.1, m.2.1, m.2.2.1, m.2.2.2), false, 0) = some ((w.2.take i.toNat).all fun z => !knownF m z, t) := e
  have ha : (w.2.take i.toNat).any (knownF m) = !((w.2.take i.toNat).all fun z => !knownF m z) := by
    rw [List.any_eq_not_all_not]
  unfold knownS
  dsimp only
  rw [e', ob_s, ha]
  cases hb : (w.2.take i.toNat).all fun z => !knownF m z with
  | true => rfl
  | false =>
    show some t.2.2.2.1 = _
    rw [h2 hb]; rfl
def meshPlace (w : WorksD) (i : Nat) (m : MeshD) : Bool := joinF w m && !((w.2.take i).any (knownF m))
theorem validWM_eq {w : WorksD} (hw : smallW w) : ∃ t, validWM (w, false, w.2, (w.2.length : Int), 0) = some (allI (meshPlace w) w.2 0, t) ∧ (allI (meshPlace w) w.2 0 = false → t.2.1 = false) := by
  have hl := hw.2.2
  have main : ∀ (i : Int) (y : MeshD), 0 ≤ i → i < w.2.length → idx w.2 i = some y → validWM_step (w, false, w.2, (w.2.length : Int), i) = some (if meshPlace w i.toNat y then (.next, w, false, w.2, (w.2.length : Int), i + 1) else (.ret, w, false, w.2, (w.2.length : Int), i)) := by
    intro i y h0 h1 hy
    show br (decide (i < (w.2.length : Int))) (ob (idx w.2 i) fun y => ob (joinsI (w, y)) fun y_1 => br (!y_1) (some (LRes.ret, w, false, w.2, (w.2.length : Int), i)) (br (decide ((0 : Int) ≤ 0 ∧ 0 ≤ i ∧ i ≤ (w.2.length : Int))) (ob (hasMesh (w.2.take i.toNat, y)) fun y => br y (some (LRes.ret, w, false, w.2, (w.2.length : Int), i)) (some (LRes.next, w, false, w.2, (w.2.length : Int), IntKind.i64.wrap (i + 1)))) none)) _ = _
    rw [br_t (by simpa using h1), hy, ob_s, joinsI_eq hw, ob_s]
    unfold meshPlace
    cases joinF w y with
    | false => rfl
    | true =>
      rw [br_f (c := !true) rfl, br_t (by simp; omega), hasMesh_eq (by rw [List.length_take]; omega), ob_s, w64 (by omega) (by omega)]
      cases (w.2.take i.toNat).any (knownF y) <;> rfl
  obtain ⟨t, h, h1, h2⟩ := all_loopI (step := validWM_step) (l := w.2) (fun i => (w, false, w.2, (w.2.length : Int), i)) (meshPlace w) (fun t => True) (fun t => t.2.1 = false)
      (fun i y h0 h1 hy _ hp => by rw [main i y h0 h1 hy, if_pos hp])
      (fun i y h0 h1 hy _ hp => ⟨(w, false, w.2, (w.2.length : Int), i), by rw [main i y h0 h1 hy, if_neg (by simp [hp])], rfl⟩)
      ⟨(w, false, w.2, (w.2.length : Int), (w.2.length : Int)), by
        show br (decide ((w.2.length : Int) < (w.2.length : Int))) _ _ = _
        rw [br_f (by simp)], trivial⟩ (n := ((w.2.length : Int) - 0).toNat + 1) (by omega)
  exact ⟨t, h, h2⟩
theorem okWSM_eq {w : WorksD} (hw : smallW w) : ∃ t, okWSM (w, false, 0) = some (allI (meshPlace w) w.2 0, t) ∧ t.1 = w ∧ t.2.1 = false := by
  have hl := hw.2.2
  have main : ∀ (i : Int) (y : MeshD), 0 ≤ i → i < w.2.length → idx w.2 i = some y → okWSM_step (w, false, i) = some (if meshPlace w i.toNat y then (.next, w, false, i + 1) else (.ret, w, false, i)) := by
    intro i y h0 h1 hy
    show br (decide (i < (w.2.length : Int))) (ob (idx w.2 i) fun y => ob (meshS (w, y)) fun y => br (!y) (some (LRes.ret, w, false, i)) (ob (idx w.2 i) fun y => ob (knownS (w, y, i)) fun y => br y (some (LRes.ret, w, false, i)) (some (LRes.next, w, false, IntKind.i64.wrap (i + 1))))) _ = _
    rw [br_t (by simpa using h1), hy, ob_s, meshS_eq hw, ob_s, ob_s, knownS_eq hw y h0 (by omega), ob_s, w64 (by omega) (by omega)]
    unfold meshPlace
    cases joinF w y <;> cases (w.2.take i.toNat).any (knownF y) <;> rfl
  obtain ⟨t, h, h1, h2⟩ := all_loopI (step := okWSM_step) (l := w.2) (fun i => (w, false, i)) (meshPlace w) (fun t => t.1 = w ∧ t.2.1 = false) (fun t => t.1 = w ∧ t.2.1 = false)
      (fun i y h0 h1 hy _ hp => by rw [main i y h0 h1 hy, if_pos hp])
      (fun i y h0 h1 hy _ hp => ⟨(w, false, i), by rw [main i y h0 h1 hy, if_neg (by simp [hp])], rfl, rfl⟩)
      ⟨(w, false, (w.2.length : Int)), by
        show br (decide ((w.2.length : Int) < (w.2.length : Int))) _ _ = _
        rw [br_f (by simp)], rfl, rfl⟩ (n := w.2.length - (0 : Int).toNat + 1) (by omega)
  refine ⟨t, h, ?_⟩
  cases hb : allI (meshPlace w) w.2 0 with
  | true => exact h1 hb
  | false => exact h2 hb

/-! Valid works -/
def worksOk (w : WorksD) : Bool := (decide ((w.1.length : Int) ≤ 16) && decide ((w.2.length : Int) ≤ 24)) && (allI (arborPlace w) w.1 0 && allI (meshPlace w) w.2 0)
theorem gt_not_le (a b : Int) : decide (a < b) = !decide (b ≤ a) := by
  by_cases h : a < b
  · rw [decide_eq_true h, decide_eq_false (by omega)]; rfl
  · rw [decide_eq_false h, decide_eq_true (by omega)]; rfl
theorem validWI_eq {w : WorksD} (hw : smallW w) : validWI w = some (worksOk w) := by
  obtain ⟨t, e1, t1, t2⟩ := validWA_eq hw
  obtain ⟨u, e2, u1⟩ := validWM_eq hw
  show br (decide (16 < (w.1.length : Int))) (some false) (br (decide (24 < (w.2.length : Int))) (some false) (ob (validWA (w, false, w.1, (w.1.length : Int), 0)) fun r => br r.1 (ob (validWM (r.2.1, r.2.2.1, r.2.1.2, (r.2.1.2.length : Int), 0)) fun r => br r.1 (some true) (some r.2.2.1)) (some r.2.2.1))) = _
  rw [e1, ob_s, t1, t2, e2, ob_s, gt_not_le, gt_not_le]
  unfold worksOk
  cases decide ((w.1.length : Int) ≤ 16) <;> cases decide ((w.2.length : Int) ≤ 24) <;> cases allI (arborPlace w) w.1 0 <;> try rfl
  cases hb : allI (meshPlace w) w.2 0 with
  | true => rfl
  | false =>
    show some u.2.1 = _
    rw [u1 hb]; rfl
theorem okWS_eq {w : WorksD} (hw : smallW w) : okWS w = some (worksOk w) := by
  obtain ⟨t, e1, t1, t2⟩ := okWSA_eq hw
  obtain ⟨u, e2, u1, u2⟩ := okWSM_eq hw
  show ob (okWSA (w, false, 0)) (fun r => br r.1 (ob (okWSM (r.2.1, r.2.2.1, 0)) fun r => br r.1 (br (decide ((r.2.1.1.length : Int) ≤ 16)) (some (decide ((r.2.1.2.length : Int) ≤ 24))) (some false)) (some r.2.2.1)) (some r.2.2.1)) = _
  rw [e1, ob_s, t1, t2, e2, ob_s, u1, u2]
  unfold worksOk
  cases decide ((w.1.length : Int) ≤ 16) <;> cases decide ((w.2.length : Int) ≤ 24) <;> cases allI (arborPlace w) w.1 0 <;> cases allI (meshPlace w) w.2 0 <;> rfl
/-! ### An arbor by its name -/
/-! ### The wheels of a mesh -/
end Rx
end Go.Proofs.YtonbgpliomhboaaGreatDoor
