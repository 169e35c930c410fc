/- Drawn works and their routes: the law, in plain terms. No program in sight. -/
import Derived.Test.YtonbgpliomhboaaGreatDoorRxRouteLaw
import Derived.Test.YtonbgpliomhboaaGreatDoorRxFnSpLaw
import Derived.Test.YtonbgpliomhboaaGreatDoorRxReadWEnd
import Derived.Test.YtonbgpliomhboaaGreatDoorRxRoutes
namespace Go.Proofs.YtonbgpliomhboaaGreatDoor
namespace Rx
open Go

/-! ### Ways there and back -/
def Walk (w : WorksD) : Nat → Int → Int → Prop
  | 0, a, b => a = b
  | k + 1, a, b => ∃ c, 0 ≤ c ∧ adj w a c ∧ Walk w k c b
theorem Walk.snoc {w : WorksD} {b c : Int} (hb : adj w b c) (hc : 0 ≤ c) : ∀ {k : Nat} {a : Int}, Walk w k a b → Walk w (k + 1) a c
  | 0, a, h => by
    have h : a = b := h
    subst h
    exact ⟨c, hc, hb, rfl⟩
  | k + 1, a, ⟨d, d0, h1, h2⟩ => ⟨d, d0, h1, Walk.snoc hb hc h2⟩
theorem Walk.rev {w : WorksD} : ∀ {k : Nat} {a b : Int}, 0 ≤ a → Walk w k a b → Walk w k b a
  | 0, a, b, _, h => h.symm
  | k + 1, a, b, ha, ⟨c, c0, h1, h2⟩ => (Walk.rev c0 h2).snoc h1.symm ha
theorem dist_walk {w : WorksD} {goal : Int} {st : List Int} (D : Dist w goal st) : ∀ (k : Nat) (i : Int), 0 ≤ i → st[i.toNat]? = some (k : Int) → Walk w k i goal
  | 0, i, h0, h => by
    have := D.base.zero _ h
    show i = goal
    omega
  | k + 1, i, h0, h => by
    obtain ⟨j, j0, hj, hv⟩ := D.base.pred _ _ h (by omega)
    rw [show ((i.toNat : Nat) : Int) = i by omega] at hj
    exact ⟨j, j0, hj, dist_walk D k j j0 (by rw [hv]; congr 1; omega)⟩
theorem walk_dist {w : WorksD} {goal : Int} {st : List Int} (D : Dist w goal st) : ∀ (k : Nat) (a : Int), 0 ≤ a → Walk w k a goal → ∃ y, st[a.toNat]? = some y ∧ 0 ≤ y ∧ y ≤ (k : Int)
  | 0, a, h0, h => by
    have h : a = goal := h
    subst h
    exact ⟨0, D.base.gz, Int.le_refl _, Int.le_refl _⟩
  | k + 1, a, h0, ⟨c, c0, h1, h2⟩ => by
    obtain ⟨y, e, y0, y1⟩ := walk_dist D k c c0 h2
    obtain ⟨z, e2, z0, z1⟩ := D.step c a y c0 h1.symm e y0
    exact ⟨z, e2, z0, by omega⟩
theorem dist_sym {w : WorksD} {a b x y : Int} {s1 s2 : List Int} (D1 : Dist w b s1) (D2 : Dist w a s2) (ha : 0 ≤ a) (hb : 0 ≤ b) (hx : s1[a.toNat]? = some x) (hy : s2[b.toNat]? = some y) : (0 ≤ x ∧ x = y) ∨ (x < 0 ∧ y < 0) := by
  have one : ∀ {a b x y : Int} {s1 s2 : List Int}, Dist w b s1 → Dist w a s2 → 0 ≤ a → 0 ≤ b → s1[a.toNat]? = some x → s2[b.toNat]? = some y → 0 ≤ x → 0 ≤ y ∧ y ≤ x := by
    intro a b x y s1 s2 D1 D2 ha hb hx hy h0
    have h1 := dist_walk D1 x.toNat a ha (by rw [hx]; congr 1; omega)
    obtain ⟨z, e, z0, z1⟩ := walk_dist D2 x.toNat b hb (Walk.rev ha h1)
    rw [hy] at e
    cases e
    omega
  by_cases h0 : 0 ≤ x
  · obtain ⟨k1, k2⟩ := one D1 D2 ha hb hx hy h0
    obtain ⟨_, k3⟩ := one D2 D1 hb ha hy hx k1
    exact .inl ⟨h0, by omega⟩
  · by_cases h1 : 0 ≤ y
    · have := (one D2 D1 hb ha hy hx h1).1
      omega
    · exact .inr ⟨by omega, by omega⟩
theorem path_code {w : WorksD} (hw : smallW w) (hk : worksOk w = true) {a b : Int} (ha : 0 ≤ a ∧ a < w.1.length) (hb : 0 ≤ b ∧ b < w.1.length) : ∃ st x, Dist w b st ∧ st[a.toNat]? = some x ∧
    ((x < 0 ∧ pathOI ((w.1, w.2), a, b) = some ([], 3)) ∨ (0 ≤ x ∧ ∃ ks ms, pathOI ((w.1, w.2), a, b) = some (ks, 0) ∧ (ks.length : Int) = x ∧ ChainP w a ks ms b)) := by
  have h1l := hw.1
  have hb16 := works_bd hk
  have e1 : validWI (w.1, w.2) = some (worksOk w) := validWI_eq hw
  have ia : inF a 0 ((w.1.length : Int) - 1) = true := by unfold inF; rw [Bool.and_eq_true, decide_eq_true_eq, decide_eq_true_eq]; omega
  have ib : inF b 0 ((w.1.length : Int) - 1) = true := by unfold inF; rw [Bool.and_eq_true, decide_eq_true_eq, decide_eq_true_eq]; omega
  obtain ⟨st, s1, _, D⟩ := steps_both hk hw (goal := b) hb.1 hb.2
  have hlen := D.base.len
  obtain ⟨x, hx, hx2⟩ := idx_get (l := st) ha.1 (by omega)
  refine ⟨st, x, D, hx2, ?_⟩
  unfold pathOI
  dsimp only
  rw [e1, hk, ob_s, br_f (c := !true) rfl, withinP_eq, ob_s, w64 (by omega) (by omega), ia, br_f (c := !true) rfl, withinP_eq, ob_s, ib, br_f (c := !true) rfl, s1, ob_s, hx, ob_s, gi, hx2, ob_s]
  by_cases x0 : x < 0
  · rw [br_t (by simpa using x0)]
    exact .inl ⟨x0, rfl⟩
  · rw [br_f (by simpa using x0)]
    have hd := D.base.hi _ _ hx2
    obtain ⟨ks, ms, g1, _, g3, g4⟩ := walk_both hk hb16.2 D x.toNat a [] [] (w.1.length + 2) (w.1.length + 2) ha.1 (by rw [hx2]; congr 1; omega) (by omega) (by omega) (by omega) (by simp; omega) (by simp; omega)
    have g1' : pathIL (b, (w.1, w.2), st, [], a) = _ := g1
    rw [g1', ob_s]
    exact .inr ⟨by omega, ks, ms, rfl, by omega, g3⟩

/-! ### The wheels along a way -/
def TrainP (w : WorksD) : Int → List (Int × Int) → Int → Prop
  | a, [], to => a = to
  | a, q :: ps, to => ∃ m p, m ∈ w.2 ∧ meshOk w m p ∧ ((m.1 = a ∧ q = p ∧ TrainP w m.2.2.1 ps to) ∨ (m.2.2.1 = a ∧ q = (p.2, p.1) ∧ TrainP w m.1 ps to))
theorem chain_train {w : WorksD} (hk : worksOk w = true) {to : Int} : ∀ (ks : List Int) (ms : List MeshD) (a : Int) (out : List (Int × Int)) (pre : List Int) (f : Nat), ChainP w a ks ms to → out.length + ks.length ≤ 1000 → pre.length + ks.length ≤ 1000 → ks.length < f →
    ∃ ps, iterP trainBI_step f (w, out, a, pre ++ ks, ((pre ++ ks).length : Int), (pre.length : Int)) = some (w, out ++ ps, to, pre ++ ks, ((pre ++ ks).length : Int), ((pre ++ ks).length : Int)) ∧ ps.length = ks.length ∧ TrainP w a ps to
  | [], [], a, out, pre, f, h, _, _, hf => by
    obtain ⟨f, rfl⟩ : ∃ n, f = n + 1 := ⟨f - 1, by omega⟩
    have h' : a = to := h
    subst h'
    refine ⟨[], ?_, rfl, rfl⟩
    show ob (trainBI_step (w, out, a, pre ++ [], ((pre ++ []).length : Int), (pre.length : Int))) _ = _
    unfold trainBI_step
    dsimp only
    rw [br_f (by simp), List.append_nil, List.append_nil]
    rfl
  | k :: ks, m' :: ms, a, out, pre, f, h, h1, h2, hf => by
    obtain ⟨m, e1, hmm, e2, e3, h⟩ := h
    obtain ⟨f, rfl⟩ : ∃ n, f = n + 1 := ⟨f - 1, by omega⟩
    rw [List.length_cons] at h1 h2 hf
    obtain ⟨p, hmo⟩ := meshes_ok hk hmm
    have hmo' := hmo
    obtain ⟨a1, a2, a3, _, _, hp⟩ := hmo'
    have hp' : pairWI (w, m.1, m.2.1, m.2.2.1, m.2.2.2) = some p := hp
    have e4 : (pre ++ k :: ks)[pre.length]? = some k := by simp
    have e5 : idx (pre ++ k :: ks) (pre.length : Int) = some k := idx_nat (by omega) (by simp)
    have hl : ∀ z : Int × Int, decide (out.length + [z].length ≤ 4294967296) = true := fun z => by simp; omega
    have w1 : IntKind.i64.wrap ((pre.length : Int) + 1) = ((pre ++ [k]).length : Int) := by rw [w64 (by omega) (by omega)]; simp
    have a4 : pre ++ k :: ks = (pre ++ [k]) ++ ks := by simp
    have step : ∀ (q : Int × Int), trainBI_step (w, out, a, pre ++ k :: ks, ((pre ++ k :: ks).length : Int), (pre.length : Int)) = some (.next, w, out ++ [q], nbP a m, pre ++ k :: ks, ((pre ++ k :: ks).length : Int), ((pre ++ [k]).length : Int)) →
        (∀ ps, TrainP w (nbP a m) ps to → TrainP w a (q :: ps) to) →
        ∃ ps, iterP trainBI_step (f + 1) (w, out, a, pre ++ k :: ks, ((pre ++ k :: ks).length : Int), (pre.length : Int)) = some (w, out ++ ps, to, pre ++ k :: ks, ((pre ++ k :: ks).length : Int), ((pre ++ k :: ks).length : Int)) ∧ ps.length = (k :: ks).length ∧ TrainP w a ps to := fun q hs ht => by
      obtain ⟨ps, g1, g2, g3⟩ := chain_train hk ks ms (nbP a m) (out ++ [q]) (pre ++ [k]) f h (by simp; omega) (by simp; omega) (by omega)
      refine ⟨q :: ps, ?_, by simp [g2], ht ps g3⟩
      show ob (trainBI_step (w, out, a, pre ++ k :: ks, ((pre ++ k :: ks).length : Int), (pre.length : Int))) _ = _
      rw [hs]
      rw [← a4, List.append_assoc] at g1
      exact g1
    by_cases e : m.1 = a
    · have eb : ¬ m.2.2.1 = a := fun h => a3 (e.trans h.symm)
      have en : nbP a m = m.2.2.1 := if_neg eb
      refine step p ?_ fun ps hps => ⟨m, p, hmm, hmo, .inl ⟨e, rfl, by rw [← en]; exact hps⟩⟩
      unfold trainBI_step
      dsimp only
      rw [br_t (by simp; omega), e5, ob_s, gi, show (pre ++ k :: ks)[((pre.length : Nat) : Int).toNat]? = some k by simp, ob_s, e1, ob_s, hp', ob_s, br_t (by simpa using e), br_t (hl _), w1, en]
    · have eb : m.2.2.1 = a := e2.resolve_right e
      have en : nbP a m = m.1 := if_pos eb
      refine step (p.2, p.1) ?_ fun ps hps => ⟨m, p, hmm, hmo, .inr ⟨eb, rfl, by rw [← en]; exact hps⟩⟩
      unfold trainBI_step
      dsimp only
      rw [br_t (by simp; omega), e5, ob_s, gi, show (pre ++ k :: ks)[((pre.length : Nat) : Int).toNat]? = some k by simp, ob_s, e1, ob_s, hp', ob_s, br_f (by simpa using e), br_t (hl _), w1, en]

/-! ### Their ratio is that of the speeds -/
noncomputable def prodC : List (Int × Int) → Rat
  | [] => 1
  | q :: ps => cf q.1 q.2 * prodC ps
theorem q_swap {x y c d : Rat} (h1 : y = x * c) (h2 : c * d = 1) : x = y * d := by grind
theorem q_assoc {x c d z : Rat} (h : z = (x * c) * d) : z = x * (c * d) := by grind
theorem train_speed {w : WorksD} {sp : List RatD} (hok : ∀ v ∈ sp, vR v = true) (hf : w.2.all (fitF w sp) = true) {to : Int} : ∀ (ps : List (Int × Int)) (a : Int) (x : RatD), TrainP w a ps to → idx sp a = some x → (∀ q ∈ ps, teeth q.1 ∧ teeth q.2) ∧ ∃ z, idx sp to = some z ∧ val z = val x * prodC ps
  | [], a, x, h, hx => by
    have h : a = to := h
    subst h
    exact ⟨fun q hq => (by cases hq), x, hx, by unfold prodC; grind⟩
  | q :: ps, a, x, ⟨m, p, hm, hp, h⟩, hx => by
    obtain ⟨u, v, hu, hv, huv⟩ := fit_at hf hm hp
    obtain ⟨_, _, _, t1, t2, _⟩ := hp
    have hvu : vR u = true := hok u (mem_idx hu)
    have hval : val v = val u * cf p.1 p.2 := by
      have := meshF_val hvu t1 t2 (by rw [huv])
      rw [huv] at this
      exact this
    rcases h with ⟨rfl, rfl, h⟩ | ⟨rfl, rfl, h⟩
    · rw [hu] at hx
      cases hx
      obtain ⟨r1, z, r2, r3⟩ := train_speed hok hf ps _ v h hv
      refine ⟨fun q hq => ?_, z, r2, ?_⟩
      · rcases List.mem_cons.1 hq with rfl | hq
        · exact ⟨t1, t2⟩
        · exact r1 q hq
      · rw [hval] at r3
        exact q_assoc r3
    · rw [hv] at hx
      cases hx
      obtain ⟨r1, z, r2, r3⟩ := train_speed hok hf ps _ u h hu
      refine ⟨fun q hq => ?_, z, r2, ?_⟩
      · rcases List.mem_cons.1 hq with rfl | hq
        · exact ⟨t2, t1⟩
        · exact r1 q hq
      · rw [q_swap hval (cf_inv t1 t2)] at r3
        exact q_assoc r3
theorem trainRat_run {ps : List (Int × Int)} (hl : ps.length ≤ 1000) (ht : ∀ q ∈ ps, teeth q.1 ∧ teeth q.2) {z : Int × Int} : ∀ (rest : List (Int × Int)) (i : Nat) (acc : RatD) (f : Nat), ps.drop i = rest → i ≤ ps.length → rest.length < f → vR acc = true →
    (∃ r, iter trainRatSL_step f (ps, z, false, acc, (i : Int)) = some (true, (ps, z, false, r, (ps.length : Int))) ∧ vR r = true ∧ val r = val acc * prodC rest) ∨ ∃ u, iter trainRatSL_step f (ps, z, false, acc, (i : Int)) = some (false, (ps, (0, 0), false, u))
  | [], i, acc, f, h, hi, hf, ha => by
    obtain ⟨f, rfl⟩ : ∃ k, f = k + 1 := ⟨f - 1, by omega⟩
    have := drop_nil h
    have e : i = ps.length := by omega
    subst e
    refine .inl ⟨acc, ?_, ha, by unfold prodC; grind⟩
    show ob (trainRatSL_step (ps, z, false, acc, (ps.length : Int))) _ = _
    unfold trainRatSL_step
    dsimp only
    rw [br_f (by simp)]
    rfl
  | q :: rest, i, acc, f, h, hi, hf, ha => by
    obtain ⟨f, rfl⟩ : ∃ k, f = k + 1 := ⟨f - 1, by omega⟩
    obtain ⟨h1, h2, h3⟩ := drop_cons h
    have e1 : idx ps (i : Int) = some q := idx_nat (by omega) (by simpa using h1)
    obtain ⟨t1, t2⟩ := ht q (List.mem_of_getElem? h1)
    have hstep : trainRatSL_step (ps, z, false, acc, (i : Int)) = some (if (meshF acc q.1 q.2).2 = 0 then (.next, ps, z, false, (meshF acc q.1 q.2).1, ((i + 1 : Nat) : Int)) else (.ret, ps, (0, 0), false, acc, (i : Int))) := by
      unfold trainRatSL_step
      dsimp only
      rw [br_t (by simp; omega), ob_some' e1, ob_some' e1, meshS_step ha t1 t2, w64 (by omega) (by omega)]
      dsimp only
      by_cases hc : (meshF acc q.1 q.2).2 = 0
      · rw [if_pos hc, hc]
        rfl
      · rw [if_neg hc, br_t (by rw [beq_eq_false_iff_ne.2 hc]; rfl)]
    show (∃ r, ob (trainRatSL_step (ps, z, false, acc, (i : Int))) _ = _ ∧ _) ∨ ∃ u, ob (trainRatSL_step (ps, z, false, acc, (i : Int))) _ = _
    rw [hstep]
    by_cases hc : (meshF acc q.1 q.2).2 = 0
    · rw [if_pos hc]
      rcases trainRat_run hl ht rest (i + 1) (meshF acc q.1 q.2).1 f h2 (by omega) (by rw [List.length_cons] at hf; omega) (meshF_valid ha t1 t2 hc) with ⟨r, g1, g2, g3⟩ | ⟨u, g1⟩
      · refine .inl ⟨r, g1, g2, ?_⟩
        rw [meshF_val ha t1 t2 hc] at g3
        exact q_assoc g3
      · exact .inr ⟨u, g1⟩
    · rw [if_neg hc]
      exact .inr ⟨_, rfl⟩
theorem trainRatio_tot {ps : List (Int × Int)} (hl : ps.length ≤ 1000) (ht : ∀ q ∈ ps, teeth q.1 ∧ teeth q.2) : ∃ r c, trainRatioS ps = some (r, c) ∧ (c = 0 → vR r = true ∧ val r = prodC ps) := by
  unfold trainRatioS
  rw [ob_some' (okTrainS_eq (by omega))]
  cases hb : (ps.all okP && decide ((ps.length : Int) ≤ 5)) with
  | false => exact ⟨_, _, rfl, fun h => (by cases h)⟩
  | true =>
    rw [br_f (c := !true) rfl]
    have hrun := trainRat_run (z := ((0 : Int), (0 : Int))) hl ht ps 0 (1, 1) ((ps.length - (0 : Int).toNat) + 1) rfl (by omega) (by simp) v11
    have hr' : trainRatSL (ps, ((0 : Int), (0 : Int)), false, (1, 1), 0) = iter trainRatSL_step ((ps.length - (0 : Int).toNat) + 1) (ps, ((0 : Int), (0 : Int)), false, (1, 1), ((0 : Nat) : Int)) := rfl
    unfold trainRatS
    rw [show wholeS 1 = some (1, 1) from rfl, ob_s]
    dsimp only
    rcases hrun with ⟨r, g1, g2, g3⟩ | ⟨u, g1⟩
    · rw [hr', g1, ob_s, br_t (c := true) rfl]
      refine ⟨r, 0, rfl, fun _ => ⟨g2, ?_⟩⟩
      rw [g3, val11]
      grind
    · rw [hr', g1, ob_s, br_f (c := false) rfl]
      exact ⟨_, _, rfl, fun h => (by cases h)⟩

theorem train_teeth {w : WorksD} {to : Int} : ∀ (ps : List (Int × Int)) (a : Int), TrainP w a ps to → ∀ q ∈ ps, teeth q.1 ∧ teeth q.2
  | [], _, _ => fun q hq => (by cases hq)
  | q :: ps, a, ⟨m, p, _, hp, h⟩ => fun z hz => by
    obtain ⟨_, _, _, t1, t2, _⟩ := hp
    rcases h with ⟨_, e, h⟩ | ⟨_, e, h⟩
    · rcases List.mem_cons.1 hz with rfl | hz
      · rw [e]; exact ⟨t1, t2⟩
      · exact train_teeth ps _ h z hz
    · rcases List.mem_cons.1 hz with rfl | hz
      · rw [e]; exact ⟨t2, t1⟩
      · exact train_teeth ps _ h z hz

/-! ### The law -/
theorem listEq_self {α : Type} {e : α → α → Bool} (he : ∀ y, e y y = true) (l : List α) : listEq e l l = true := by
  unfold listEq
  rw [Bool.and_eq_true, decide_eq_true_eq]
  exact ⟨rfl, allI_of (l := l) (k := 0) fun i y hy => by
    unfold atE
    rw [Nat.zero_add, hy]
    exact he y⟩
theorem worksE_self (w : WorksD) : worksE w w = true := by
  unfold worksE
  rw [Bool.and_eq_true]
  exact ⟨listEq_self (fun y => by unfold meshE; simp) _, listEq_self (fun y => by unfold arborE; rw [Bool.and_eq_true]; exact ⟨by simp, listEq_self (fun z => by simp) _⟩) _⟩
theorem read_back {w : WorksD} (hk : worksOk w = true) : (worksB w).size ≤ 1048576 ∧ readF (worksB w) = (w, true) := by
  have hb := works_bd hk
  constructor
  · have h1 := arbors_sz hk
    have h2 := fold_sz (hM_sz hk) (w.1.foldl hA (⟨⟨[]⟩⟩ : ByteArray))
    unfold worksB
    omega
  · have hl : linesF (worksB w) = some (w.1.map arL ++ w.2.map (meL w)) := linesF_of (fun y hy => by
      rcases List.mem_append.1 hy with hy | hy
      · obtain ⟨a, ha, rfl⟩ := List.mem_map.1 hy
        obtain ⟨j, hj1, hj2⟩ := List.mem_iff_getElem.1 ha
        exact line_no hk (i := j) (by rw [List.getElem?_eq_getElem hj1, hj2])
      · obtain ⟨m, hm, rfl⟩ := List.mem_map.1 hy
        exact (words_meL hk hm).2) (works_list w)
    unfold readF
    rw [hl]
    dsimp only
    unfold resS
    rw [run_back hk]
    dsimp only
    rw [if_pos ⟨by simp; omega, hk⟩]
theorem at_any {m : List Int} (hm : bytesOk m) {k n : Int} (hk : 0 ≤ k) (hn : 1 ≤ n) : ∃ r, a2AtW (m, k, n) = some r ∧ 0 ≤ r ∧ r < n := by
  unfold a2AtW
  dsimp only
  by_cases h : (m.length : Int) ≤ k
  · rw [br_t (by simpa using h)]
    exact ⟨0, rfl, by omega, by omega⟩
  · obtain ⟨y, hy, hy2⟩ := idx_get (l := m) (i := k) hk (by omega)
    have hb := hm y (List.mem_of_getElem? hy2)
    rw [br_f (by simpa using h), br_f (by simp; omega), hy, ob_s, br_f (by simp; omega), w64 (by omega) (by omega)]
    exact ⟨_, rfl, tmod_bd hb.1 (by omega)⟩
theorem bytes_of {c : List Int} (h : Wf (.slice (.int .u8)) c) : bytesOk c := bytes_wf (c := c) h
theorem fnRoutes_holds (x : List Int × List Int) (hw : WfAll [.slice (.int .u8), .slice (.int .u8)] x) : fnRoutes x = some true := by
  obtain ⟨c, m⟩ := x
  have hc : bytesOk c := bytes_of hw.1
  have hm : bytesOk m := bytes_of hw.2
  unfold fnRoutes
  dsimp only
  cases hlg : a2LongW (c, m) with
  | none => unfold a2LongW at hlg; cases h : decide ((3000 : Int) < (c.length : Int)) <;> simp [h, br] at hlg
  | some b =>
    rw [ob_s]
    cases b with
    | true => rfl
    | false =>
      obtain ⟨w, ew, hk, hs, hn⟩ := a2Works_ok hc
      obtain ⟨i, ei, hi⟩ := at_any hm (k := 0) (n := (w.1.length : Int)) (by omega) (by omega)
      obtain ⟨j, ej, hj⟩ := at_any hm (k := 1) (n := (w.1.length : Int)) (by omega) (by omega)
      obtain ⟨s1, x1, D1, k1, p1⟩ := path_code hs hk hi hj
      obtain ⟨s2, x2, D2, k2, p2⟩ := path_code hs hk hj hi
      have hsym := dist_sym D1 D2 hi.1 hj.1 k1 k2
      rw [br_f (c := false) rfl, ew, ob_s, ei, ob_s, ej, ob_s]
      rcases p1 with ⟨x1n, q1⟩ | ⟨x1p, ks, ms, q1, l1, ch⟩
      · rcases p2 with ⟨x2n, q2⟩ | ⟨x2p, ks2, ms2, q2, l2, _⟩
        · rw [q1, ob_s, q2, ob_s]
          rfl
        · omega
      · rcases p2 with ⟨x2n, q2⟩ | ⟨x2p, ks2, ms2, q2, l2, _⟩
        · omega
        · have hlen : ks.length = ks2.length := by omega
          have hx1 := D1.base.hi _ _ k1
          have hb16 := works_bd hk
          rw [q1, ob_s, q2, ob_s]
          dsimp only
          rw [br_f (c := (0 : Int) != 0) rfl, br_f (by simp; omega), br_f (c := (0 : Int) != 0) rfl]
          have ht : trainOI ((w.1, w.2), i, j) = (if 5 < ks.length then some ([], 5) else ob (trainBI ((w.1, w.2), [], i, ks, (ks.length : Int), 0)) fun r => some (r.2.1, 0)) := by
            unfold trainOI
            dsimp only
            rw [q1, ob_s]
            dsimp only
            rw [br_f (c := (0 : Int) != 0) rfl]
            by_cases h5 : 5 < ks.length
            · rw [br_t (decide_eq_true (by omega)), if_pos h5]
            · rw [br_f (decide_eq_false (by omega)), if_neg h5]
          by_cases h5 : 5 < ks.length
          · rw [ht, if_pos h5, ob_s]
            dsimp only
            rw [br_t (c := (5 : Int) != 0) rfl, br_t (c := (5 : Int) == 5) rfl, decide_eq_true (by omega)]
          · obtain ⟨ps, g1, g2, g3⟩ := chain_train hk ks ms i [] [] (((ks.length : Int) - 0).toNat + 1) ch (by simp; omega) (by simp; omega) (by omega)
            have g1' : trainBI ((w.1, w.2), [], i, ks, (ks.length : Int), 0) = _ := g1
            rw [ht, if_neg h5, g1', ob_s, ob_s]
            dsimp only
            rw [br_f (c := (0 : Int) != 0) rfl]
            obtain ⟨v, _, e2, hv⟩ := speeds_both (P := fun _ _ => True) hs i (closed_all w) trivial
            have hmesh : ∀ q ∈ ps, teeth q.1 ∧ teeth q.2 := train_teeth ps i g3
            obtain ⟨r, cr, er, hr⟩ := trainRatio_tot (ps := ps) (by omega) hmesh
            have et : wtI (w.1, w.2) = some (if worksOk w = true then worksB w else (⟨⟨[]⟩⟩ : ByteArray)) := wtI_eq hs
            rw [hk, if_pos rfl] at et
            obtain ⟨rb1, rb2⟩ := read_back hk
            have erd : readWI (worksB w) = some (w, true) := by rw [readWI_eq rb1, rb2]
            have esm : sameWS ((w.1, w.2), w.1, w.2) = some true := by
              have := sameWS_eq (v := w) (w := w) hs
              rw [worksE_self] at this
              exact this
            rw [List.nil_append, e2, ob_s, er, ob_s, et, ob_s, erd, ob_s]
            dsimp only
            rw [br_f (by simp [g2]), br_f (c := !true) rfl, esm, ob_s, br_f (c := !true) rfl]
            rcases hv with ⟨_, h1 | h1 | h1 | h1⟩ | ⟨v0, _, hroot, hsp, hany, hfit⟩
            · rw [h1.1]; rfl
            · rw [h1]; rfl
            · rw [h1.1]; rfl
            · rw [h1.1]; rfl
            · rw [v0, br_f (c := (0 : Int) != 0) rfl]
              by_cases hcr : cr = 0
              · obtain ⟨r1, r2⟩ := hr hcr
                have hkn := all_known hsp.ok hany
                obtain ⟨_, z, z1, z2⟩ := train_speed hkn hfit ps i (1, 1) g3 (by
                  obtain ⟨y, y1, y2⟩ := idx_get (l := v.1) hi.1 (by rw [hsp.len]; exact hi.2)
                  rw [hsp.keep] at y2
                  cases y2
                  exact y1)
                have hrz : r = z := val_inj r1 (hkn z (mem_idx z1)) (by rw [r2, z2, val11]; grind)
                obtain ⟨_, z3⟩ := idx_mem z1
                rw [hcr, br_f (c := (0 : Int) != 0) rfl, z1, ob_s, gi, z3, ob_s, hrz]
                simp
              · rw [br_t (by simpa using hcr)]
end Rx
end Go.Proofs.YtonbgpliomhboaaGreatDoor
