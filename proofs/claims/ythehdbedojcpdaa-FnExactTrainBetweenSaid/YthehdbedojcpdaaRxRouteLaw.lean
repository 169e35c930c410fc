/- Trains between arbors: the law. In plain terms. No program in sight. -/
import Derived.Test.YthehdbedojcpdaaRxPathEnd
import Derived.Test.YthehdbedojcpdaaRxRoute
namespace Go.Proofs.Ythehdbedojcpdaa
namespace Rx
open Go

theorem pair_turn {w : WorksD} {m : MeshD} {p : Int × Int} (h : pairWI (w, m) = some p) : pairWI (w, m.2.2.1, m.2.2.2, m.1, m.2.1) = some (p.2, p.1) := by
  obtain ⟨y, h1, h⟩ := ob_some h
  obtain ⟨z, h2, h⟩ := ob_some h
  obtain ⟨y', h3, h⟩ := ob_some h
  obtain ⟨z', h4, h⟩ := ob_some h
  cases h
  unfold pairWI
  dsimp only
  rw [h3, ob_s, h4, ob_s, h1, ob_s, h2, ob_s]
theorem chain_both {w : WorksD} (hk : worksOk w = true) {to : Int} : ∀ (ks : List Int) (ms : List MeshD) (a : Int) (out : List (Int × Int)) (pre : List Int) (prm : List MeshD) (f g : Nat), ChainP w a ks ms to → out.length + ks.length ≤ 1000 → pre.length + ks.length ≤ 1000 → prm.length + ks.length ≤ 1000 → ks.length < f → ks.length < g →
    ∃ ps, iterP trainBI_step f (w, out, a, pre ++ ks, ((pre ++ ks).length : Int), (pre.length : Int)) = some (w, out ++ ps, to, pre ++ ks, ((pre ++ ks).length : Int), ((pre ++ ks).length : Int)) ∧
      iterP trainBS_step g (w, prm ++ ms, out, (prm.length : Int)) = some (w, prm ++ ms, out ++ ps, ((prm ++ ms).length : Int)) ∧ ps.length = ks.length
  | [], [], a, out, pre, prm, f, g, h, _, _, _, hf, hg => by
    obtain ⟨f, rfl⟩ : ∃ n, f = n + 1 := ⟨f - 1, by omega⟩
    obtain ⟨g, rfl⟩ : ∃ n, g = n + 1 := ⟨g - 1, by omega⟩
    have h' : a = to := h
    subst h'
    refine ⟨[], ?_, ?_, rfl⟩
    · show ob (trainBI_step (w, out, a, pre ++ [], ((pre ++ []).length : Int), (pre.length : Int))) _ = _
      unfold trainBI_step
      dsimp only
      rw [br_f (by simp), List.append_nil, List.append_nil]
      rfl
    · show ob (trainBS_step (w, prm ++ [], out, (prm.length : Int))) _ = _
      unfold trainBS_step
      dsimp only
      rw [br_f (by simp), List.append_nil, List.append_nil]
      rfl
  | k :: ks, m' :: ms, a, out, pre, prm, f, g, h, h1, h2, h3, hf, hg => by
    obtain ⟨m, e1, hmm, e2, e3, h⟩ := h
    subst e3
    obtain ⟨f, rfl⟩ : ∃ n, f = n + 1 := ⟨f - 1, by omega⟩
    obtain ⟨g, rfl⟩ : ∃ n, g = n + 1 := ⟨g - 1, by omega⟩
    rw [List.length_cons] at h1 h2 h3 hf hg
    obtain ⟨p, a1, a2, a3, _, _, hp⟩ := meshes_ok hk hmm
    have hp' : pairWI (w, m.1, m.2.1, m.2.2.1, m.2.2.2) = some p := hp
    have ht := pair_turn (m := m) hp
    have e4 : (pre ++ k :: ks)[pre.length]? = some k := by simp
    have e5 : idx (pre ++ k :: ks) (pre.length : Int) = some k := idx_nat (by omega) (by simp)
    have e6 : (prm ++ turnP a m :: ms)[prm.length]? = some (turnP a m) := by simp
    have e7 : idx (prm ++ turnP a m :: ms) (prm.length : Int) = some (turnP a m) := idx_nat (by omega) (by simp)
    have hl : ∀ z : Int × Int, decide (out.length + [z].length ≤ 4294967296) = true := fun z => by simp; omega
    have w1 : IntKind.i64.wrap ((pre.length : Int) + 1) = ((pre ++ [k]).length : Int) := by rw [w64 (by omega) (by omega)]; simp
    have w2 : IntKind.i64.wrap ((prm.length : Int) + 1) = ((prm ++ [turnP a m]).length : Int) := by rw [w64 (by omega) (by omega)]; simp
    have a4 : pre ++ k :: ks = (pre ++ [k]) ++ ks := by simp
    have a5 : prm ++ turnP a m :: ms = (prm ++ [turnP a m]) ++ ms := by simp
    have key : ∀ (q : Int × Int), (m.1 = a → q = p) → (m.1 ≠ a → q = (p.2, p.1)) → ∃ ps, iterP trainBI_step (f + 1) (w, out, a, pre ++ k :: ks, ((pre ++ k :: ks).length : Int), (pre.length : Int)) = some (w, out ++ ps, to, pre ++ k :: ks, ((pre ++ k :: ks).length : Int), ((pre ++ k :: ks).length : Int)) ∧
        iterP trainBS_step (g + 1) (w, prm ++ turnP a m :: ms, out, (prm.length : Int)) = some (w, prm ++ turnP a m :: ms, out ++ ps, ((prm ++ turnP a m :: ms).length : Int)) ∧ ps.length = (k :: ks).length := fun q q1 q2 => by
      obtain ⟨ps, g1, g2, g3⟩ := chain_both hk ks ms (nbP a m) (out ++ [q]) (pre ++ [k]) (prm ++ [turnP a m]) f g h (by simp; omega) (by simp; omega) (by simp; omega) (by omega) (by omega)
      refine ⟨q :: ps, ?_, ?_, by simp [g3]⟩
      · show ob (trainBI_step (w, out, a, pre ++ k :: ks, ((pre ++ k :: ks).length : Int), (pre.length : Int))) _ = _
        unfold trainBI_step
        dsimp only
        rw [br_t (by simp; omega), e5, ob_s, gi, show (pre ++ k :: ks)[((pre.length : Nat) : Int).toNat]? = some k by simp, ob_s, e1, ob_s, hp', ob_s]
        rw [← a4] at g1
        rw [List.append_assoc] at g1
        by_cases e : m.1 = a
        · have eb : ¬ m.2.2.1 = a := fun h => a3 (e.trans h.symm)
          rw [br_t (by simpa using e), br_t (hl _), ob_s, w1, show (p.1, p.2) = q from (q1 e).symm ▸ rfl]
          rw [show nbP a m = m.2.2.1 from if_neg eb] at g1
          exact g1
        · have eb : m.2.2.1 = a := e2.resolve_right e
          rw [br_f (by simpa using e), br_t (hl _), ob_s, w1, ← q2 e]
          rw [show nbP a m = m.1 from if_pos eb] at g1
          exact g1
      · show ob (trainBS_step (w, prm ++ turnP a m :: ms, out, (prm.length : Int))) _ = _
        unfold trainBS_step
        dsimp only
        have hq : pairWS ((w.1, w.2), (turnP a m).1, (turnP a m).2.1, (turnP a m).2.2.1, (turnP a m).2.2.2) = some q := by
          rw [pairS_I]
          unfold turnP
          by_cases e : m.1 = a
          · have eb : ¬ m.2.2.1 = a := fun h => a3 (e.trans h.symm)
            rw [if_neg eb, q1 e]; exact hp
          · have eb : m.2.2.1 = a := e2.resolve_right e
            rw [if_pos eb, q2 e]; exact ht
        rw [br_t (by simp; omega), e7, ob_s, gi, show (prm ++ turnP a m :: ms)[((prm.length : Nat) : Int).toNat]? = some (turnP a m) by simp, ob_s, hq, ob_s, br_t (hl _), ob_s, w2]
        rw [← a5] at g2
        rw [List.append_assoc] at g2
        exact g2
    by_cases e : m.1 = a
    · exact key p (fun _ => rfl) (fun h => (h e).elim)
    · exact key (p.2, p.1) (fun h => (e h).elim) (fun _ => rfl)
theorem trains_both {w : WorksD} (hw : smallW w) (a b : Int) : ∃ ps c, trainOI ((w.1, w.2), a, b) = some (ps, c) ∧ trainOS ((w.1, w.2), a, b) = some (ps, c) ∧ ps.length ≤ 16 := by
  obtain ⟨ks, ms, c, e1, _, hl, h⟩ := paths_both hw a b
  have e2 : okWS (w.1, w.2) = some (worksOk w) := okWS_eq hw
  unfold trainOI trainOS
  dsimp only
  rw [e1, e2, ob_s, ob_s]
  rcases h with ⟨rfl, rfl, hk⟩ | ⟨hk, h, h2⟩
  · rw [hk]
    exact ⟨[], 1, rfl, rfl, by simp⟩
  · rw [hk, br_f (c := !true) rfl, h, ob_s]
    dsimp only
    rcases h2 with ⟨h2, rfl⟩ | ⟨rfl, h2⟩
    · rw [br_t (by simpa using h2), br_t (by simpa using h2)]
      exact ⟨[], c, rfl, rfl, by simp⟩
    · rw [br_f (c := (0 : Int) != 0) rfl, br_f (c := (0 : Int) != 0) rfl, ← h2.len]
      by_cases e : 5 < (ks.length : Int)
      · rw [br_t (by simpa using e), br_t (by simpa using e)]
        exact ⟨[], 5, rfl, rfl, by simp⟩
      · rw [br_f (by simpa using e), br_f (by simpa using e)]
        have hl2 := h2.len
        obtain ⟨ps, g1, g2, g3⟩ := chain_both hk ks ms a [] [] [] (((ks.length : Int) - 0).toNat + 1) (ms.length - (0 : Int).toNat + 1) h2 (by simp; omega) (by simp; omega) (by simp; omega) (by omega) (by simp; omega)
        have g1' : trainBI ((w.1, w.2), [], a, ks, (ks.length : Int), 0) = _ := g1
        have g2' : trainBS ((w.1, w.2), ms, [], 0) = _ := g2
        rw [g1', g2', ob_s, ob_s]
        exact ⟨ps, 0, rfl, rfl, by omega⟩
theorem eqPairRS_self {l : List (Int × Int)} (hl : l.length ≤ 4294967296) : eqPairRS (l, l) = some true := by
  obtain ⟨i', h⟩ := eq_loop (step := eqPairRL_step) hl (fun i b y h0 h1 hy => by
    have e : eqPairR (y, y) = some true := by
      unfold eqPairR
      simp only [bne_self_eq_false, br]
    show br (decide (i < (l.length : Int))) (ob (idx l i) fun y => ob (idx l i) fun y_1 => ob (eqPairR (y, y_1)) fun y => br (!y) _ (some (LRes.next, l, l, b, IntKind.i64.wrap (i + 1)))) _ = _
    rw [br_t (by simpa using h1), hy]
    show ob (eqPairR (y, y)) _ = _
    rw [e]
    show some (LRes.next, l, l, b, IntKind.i64.wrap (i + 1)) = _
    rw [w64 (by omega) (by omega)]) (fun i b h => by
    show br (decide (i < (l.length : Int))) _ _ = _
    rw [br_f (by simpa using h)]) false
  have h' : eqPairRL (l, l, false, 0) = some (true, (l, l, false, i')) := h
  show br ((l.length : Int) != (l.length : Int)) _ (ob (eqPairRL (l, l, false, 0)) _) = _
  rw [br_f (by simp), h']
  rfl
abbrev fPr : Int → Int × Int → Int × Int := fun k _ => (k, k + 1)
abbrev gPr : Int → Int × Int → Int := fun k _ => k + 2
theorem gPr_bd (k : Int) (y : Int × Int) : k ≤ gPr k y ∧ gPr k y ≤ k + 2 := ⟨by show k ≤ k + 2; omega, Int.le_refl _⟩
theorem markPairR_eq {l : List (Int × Int)} (hl : l.length ≤ 1048576) : markPairR (l, 1) = some (scanK gPr l 1, scanL fPr gPr l 1, 1) := by
  have h := scan_loop (step := markPairRL_step) (f := fPr) (g := gPr) (c := 2) (by omega) hl (k0 := 1) (by omega) (fun k y _ => gPr_bd k y)
    (fun l' k i y hl' h0 h1 k0 k1 _ hy hy2 => by
      have e1 : idx (l'.set i.toNat (k, y.2)) i = some (k, y.2) := idx_set h0 (by omega)
      have e2 : (l'.set i.toNat (k, y.2))[i.toNat]? = some (k, y.2) := get_set (by omega)
      show br (decide (i < (l'.length : Int))) (ob (idx l' i) fun _ => ob (l'[i.toNat]?) fun x_2 => ob (idx (l'.set i.toNat (k, x_2.2)) i) fun _ => ob ((l'.set i.toNat (k, x_2.2))[i.toNat]?) fun x_4 => some (LRes.next, (l'.set i.toNat (k, x_2.2)).set i.toNat (x_4.1, IntKind.i64.wrap (k + 1)), IntKind.i64.wrap (IntKind.i64.wrap (k + 1) + 1), IntKind.i64.wrap (i + 1))) _ = _
      rw [br_t (by simp; omega), hy, hy2, ob_s, ob_s, e1, e2, ob_s, ob_s, w64 (x := k + 1) (by omega) (by omega), w64 (x := k + 1 + 1) (by omega) (by omega), w64 (x := i + 1) (by omega) (by omega), List.set_set, show k + 1 + 1 = k + 2 by omega])
    (fun l' k i hl' hi => by
      show br (decide (i < (l'.length : Int))) _ _ = _
      rw [br_f (by simp; omega)]) (n := l.length - (0 : Int).toNat + 1) (by simp)
  have h' : markPairRL (l, 1, 0) = some (scanL fPr gPr l 1, scanK gPr l 1, (l.length : Int)) := h
  unfold markPairR
  rw [h']; rfl
theorem heldPairR_eq {l : List (Int × Int)} (hl : l.length ≤ 1048576) : heldPairR (scanL fPr gPr l 1, 1) = some (scanK gPr l 1) := by
  have hlen := scanL_len fPr gPr l 1
  have h := scan_held (step := heldPairRL_step) (f := fPr) (g := gPr) (c := 2) (by omega) hl (k0 := 1) (by omega) (fun k y _ => gPr_bd k y)
    (fun k' r i y h0 h1 k0 k1 _ hy => by
      show br (decide (i < ((scanL fPr gPr l 1).length : Int))) (ob (idx (scanL fPr gPr l 1) i) fun y => br (y.1 != k') _ (ob (idx (scanL fPr gPr l 1) i) fun y => br (y.2 != IntKind.i64.wrap (k' + 1)) _ (some (LRes.next, scanL fPr gPr l 1, IntKind.i64.wrap (IntKind.i64.wrap (k' + 1) + 1), r, IntKind.i64.wrap (i + 1))))) _ = _
      rw [br_t (by simp; omega), hy, ob_s, br_f (by simp), ob_s, w64 (x := k' + 1) (by omega) (by omega), br_f (by simp), w64 (x := k' + 1 + 1) (by omega) (by omega), w64 (x := i + 1) (by omega) (by omega), show k' + 1 + 1 = k' + 2 by omega])
    (fun k' r i hi => by
      show br (decide (i < ((scanL fPr gPr l 1).length : Int))) _ _ = _
      rw [br_f (by simp; omega)]) 0 (n := (scanL fPr gPr l 1).length - (0 : Int).toNat + 1) (by rw [hlen]; simp)
  have h' : heldPairRL (scanL fPr gPr l 1, 1, 0, 0) = some (true, (scanL fPr gPr l 1, scanK gPr l 1, 0, (l.length : Int))) := h
  unfold heldPairR
  rw [h']; rfl
theorem lawRoute_holds (x : WorksD × Int × Int) (h : WfAll [WorksT, i64, i64] x) : lawRoute x = some true := by
  obtain ⟨w, a, b⟩ := x
  have hw : Wf WorksT w := h.1
  unfold lawRoute
  dsimp only
  rcases szWorksL_cases hw (k := 1048576) (by omega) (by omega) with e | ⟨k, e, l1, k0, k1⟩
  · have e' : szWorksL ((w.1, w.2), 1048576) = some (-1) := e
    rw [e']; rfl
  · have e' : szWorksL ((w.1, w.2), 1048576) = some k := e
    have ew : toWorksD (w.1, w.2) = some w := toWorksD_eq l1
    obtain ⟨ps, c, e1, e2, hl⟩ := trains_both l1 a b
    have e3 : eqWorksL ((w.1, w.2), (w.1, w.2)) = some true := eqWorksL_self l1
    have e4 : eqPairRS (ps, ps) = some true := eqPairRS_self (by omega)
    obtain ⟨k', w', e5, k2⟩ := markWorksD_tot l1
    have e5' : markWorksD ((w.1, w.2), 1) = some (k', w', 1) := e5
    have b1 := scanK_bd (g := gPr) (c := 2) (by omega) ps 1 fun k y _ => gPr_bd k y
    rw [e', ob_s, br_f (by simpa using k0)]
    simp only [ew, e1, e2, e3, e4, e5', markPairR_eq (l := ps) (by omega), heldPairR_eq (l := ps) (by omega), ob_s]
    rw [br_f (c := !true) rfl, br_f (by simp), br_f (c := !true) rfl, br_f (by simp; omega), br_f (c := !true) rfl, br_f (by simp), br_f (by simp; omega), br_f (by simp), br_f (c := !true) rfl, br_f (by simp), br_f (by simp; omega), br_f (by simp)]
end Rx
end Go.Proofs.Ythehdbedojcpdaa
