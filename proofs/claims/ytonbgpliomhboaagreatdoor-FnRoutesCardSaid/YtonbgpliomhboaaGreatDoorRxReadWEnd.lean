/- Texts of works and their lines: what is read is what is written. In plain terms. No program in sight. -/
import Derived.Test.YtonbgpliomhboaaGreatDoorRxPieces
import Derived.Test.YtonbgpliomhboaaGreatDoorRxWTextLaw
import Derived.Test.YtonbgpliomhboaaGreatDoorRxReadW
import Derived.Test.YtonbgpliomhboaaGreatDoorRxDeepWLaw
namespace Go.Proofs.YtonbgpliomhboaaGreatDoor
namespace Rx
open Go

def arbB : BA := (⟨⟨[(97 : UInt8), (114 : UInt8), (98 : UInt8), (111 : UInt8), (114 : UInt8)]⟩⟩ : ByteArray)
def mshB : BA := (⟨⟨[(109 : UInt8), (101 : UInt8), (115 : UInt8), (104 : UInt8)]⟩⟩ : ByteArray)
def wordsF (y : BA) : List BA := (cutL 32 y.data.toList).map ba
def isW (b : BA) (ws : List BA) : Bool := (ws.getD 0 ByteArray.empty).toList == b.toList
noncomputable def arF (ws : List BA) : ArborD := (ws.getD 1 ByteArray.empty, (ws.drop 2).map fun t => (numF t).1)
noncomputable def meF (w : WorksD) (ws : List BA) : MeshD := (placeOf (sameN (ws.getD 1 ByteArray.empty)) w.1, (numF (ws.getD 2 ByteArray.empty)).1, placeOf (sameN (ws.getD 3 ByteArray.empty)) w.1, (numF (ws.getD 4 ByteArray.empty)).1)
noncomputable def iF (w : WorksD) (ws : List BA) : Option WorksD :=
  if (isW arbB ws && decide (2 ≤ ws.length)) = true then some (w.1 ++ [arF ws], w.2)
  else if (isW mshB ws && decide (ws.length = 5)) = true then some (w.1, w.2 ++ [meF w ws]) else none
noncomputable def sF (w : WorksD) (ws : List BA) : Option WorksD :=
  if (isW arbB ws && (decide (1 < ws.length) && (decide (ws.length ≤ 7) && decide (w.2.length = 0)))) = true then (if ((ws.drop 2).all fun t => (numF t).2) = true then some (w.1 ++ [arF ws], w.2) else none)
  else if (isW mshB ws && decide (ws.length = 5)) = true then (if ((numF (ws.getD 2 ByteArray.empty)).2 && (numF (ws.getD 4 ByteArray.empty)).2) = true then some (w.1, w.2 ++ [meF w ws]) else none) else none
def runF (F : WorksD → List BA → Option WorksD) : List BA → WorksD → Option WorksD
  | [], w => some w
  | y :: W, w => (F w (wordsF y)).bind (runF F W)
theorem sF_iF {w w' : WorksD} {ws : List BA} (h : sF w ws = some w') : iF w ws = some w' := by
  unfold sF at h
  unfold iF
  split at h
  · rename_i h1
    simp only [Bool.and_eq_true, decide_eq_true_eq] at h1
    split at h
    · rw [if_pos (by simp only [Bool.and_eq_true, decide_eq_true_eq]; exact ⟨h1.1, by omega⟩)]
      exact h
    · cases h
  · split at h
    · rename_i h2
      split at h
      · simp only [Bool.and_eq_true, decide_eq_true_eq] at h2
        rw [if_neg (fun h3 => ?_), if_pos (by simp only [Bool.and_eq_true, decide_eq_true_eq]; exact h2)]
        · exact h
        · simp only [Bool.and_eq_true, decide_eq_true_eq] at h3
          have e1 := beq_iff_eq.1 h2.1
          have e2 := beq_iff_eq.1 h3.1
          rw [e1, ByteArray.toList_eq, ByteArray.toList_eq] at e2
          exact absurd e2 (by decide)
      · cases h
    · cases h
theorem run_iF : ∀ {W : List BA} {w w' : WorksD}, runF sF W w = some w' → runF iF W w = some w'
  | [], _, _, h => h
  | y :: W, w, w', h => by
    obtain ⟨v, h1, h2⟩ := Option.bind_eq_some_iff.1 h
    show (iF w (wordsF y)).bind _ = _
    rw [sF_iF h1]
    exact run_iF h2

/-! ### Lines that are read strictly -/
def strictA (y : BA) (a : ArborD) : Prop := wordsF y = arbB :: a.1 :: a.2.map decB
def strictM (xs : List ArborD) (y : BA) (m : MeshD) : Prop := ∃ n1 n2, wordsF y = [mshB, n1, decB m.2.1, n2, decB m.2.2.2] ∧ m.1 = placeOf (sameN n1) xs ∧ m.2.2.1 = placeOf (sameN n2) xs
theorem isW_eq {b : BA} {x : BA} {ws : List BA} (h : isW b (x :: ws) = true) : x = b := by
  have := beq_iff_eq.1 h
  exact ba_ext (by rw [← ByteArray.toList_eq, ← ByteArray.toList_eq]; exact this)
theorem dec_back {ts : List BA} (h : (ts.all fun t => (numF t).2) = true) : (ts.map fun t => (numF t).1).map decB = ts := by
  rw [List.map_map]
  conv => rhs; rw [← List.map_id ts]
  exact List.map_congr_left fun t ht => numF_canon (List.all_eq_true.1 h t ht)
theorem sF_some {w w' : WorksD} {y : BA} (h : sF w (wordsF y) = some w') : (∃ a, w.2 = [] ∧ strictA y a ∧ w' = (w.1 ++ [a], [])) ∨ (∃ m, strictM w.1 y m ∧ w' = (w.1, w.2 ++ [m])) := by
  unfold sF at h
  split at h
  · rename_i h1
    simp only [Bool.and_eq_true, decide_eq_true_eq] at h1
    obtain ⟨h1, h2, h3, h4⟩ := h1
    split at h
    · rename_i h5
      cases h
      have h4' : w.2 = [] := List.eq_nil_of_length_eq_zero h4
      refine .inl ⟨arF (wordsF y), h4', ?_, by rw [h4']⟩
      unfold strictA
      generalize wordsF y = ws at h1 h2 h5
      match ws, h2 with
      | x :: n :: ts, _ =>
        rw [isW_eq h1]
        show arbB :: n :: ts = arbB :: n :: (ts.map fun t => (numF t).1).map decB
        have h6 : (ts.map fun t => (numF t).1).map decB = ts := dec_back h5
        rw [h6]
    · cases h
  · split at h
    · rename_i h2
      simp only [Bool.and_eq_true, decide_eq_true_eq] at h2
      split at h
      · rename_i h5
        simp only [Bool.and_eq_true] at h5
        cases h
        refine .inr ⟨meF w (wordsF y), ?_, rfl⟩
        unfold strictM
        generalize wordsF y = ws at h2 h5
        match ws, h2.2 with
        | [x, n1, t1, n2, t2], _ =>
          refine ⟨n1, n2, ?_, rfl, rfl⟩
          rw [isW_eq h2.1]
          show [mshB, n1, t1, n2, t2] = [mshB, n1, decB (numF t1).1, n2, decB (numF t2).1]
          have e1 : decB (numF t1).1 = t1 := numF_canon h5.1
          have e2 : decB (numF t2).1 = t2 := numF_canon h5.2
          rw [e1, e2]
      · cases h
    · cases h
theorem run_M {xs : List ArborD} : ∀ {W : List BA} {ms : List MeshD} {w' : WorksD}, ms ≠ [] → runF sF W (xs, ms) = some w' → ∃ ns, w' = (xs, ms ++ ns) ∧ All2 (strictM xs) W ns
  | [], ms, w', _, h => by
    cases h
    exact ⟨[], by rw [List.append_nil], trivial⟩
  | y :: W, ms, w', h0, h => by
    obtain ⟨v, h1, h2⟩ := Option.bind_eq_some_iff.1 h
    rcases sF_some h1 with ⟨a, e, _⟩ | ⟨m, hm, rfl⟩
    · exact (h0 e).elim
    · obtain ⟨ns, e, hns⟩ := run_M (by simp) h2
      exact ⟨m :: ns, by rw [e]; simp, hm, hns⟩
theorem run_A : ∀ {W : List BA} {xs : List ArborD} {w' : WorksD}, runF sF W (xs, []) = some w' → ∃ WA WM bs ms, W = WA ++ WM ∧ w' = (xs ++ bs, ms) ∧ All2 strictA WA bs ∧ All2 (strictM (xs ++ bs)) WM ms
  | [], xs, w', h => by
    cases h
    exact ⟨[], [], [], [], rfl, by rw [List.append_nil], trivial, trivial⟩
  | y :: W, xs, w', h => by
    obtain ⟨v, h1, h2⟩ := Option.bind_eq_some_iff.1 h
    rcases sF_some h1 with ⟨a, _, ha, rfl⟩ | ⟨m, hm, rfl⟩
    · obtain ⟨WA, WM, bs, ms, e1, e2, e3, e4⟩ := run_A h2
      refine ⟨y :: WA, WM, a :: bs, ms, by rw [e1]; rfl, by rw [e2]; simp, ⟨ha, e3⟩, by simpa using e4⟩
    · obtain ⟨ns, e, hns⟩ := run_M (by simp) h2
      exact ⟨[], y :: W, [], m :: ns, rfl, by rw [e]; simp, trivial, by rw [List.append_nil]; exact ⟨hm, hns⟩⟩

/-! ### The text of works, line by line -/
def lineCat (W : List BA) : List UInt8 := (W.map fun y => y.data.toList ++ [10]).flatten
def arL (a : ArborD) : BA := ba (glueL 32 (arbB.data.toList :: a.1.data.toList :: a.2.map Lib.itoa))
def meL (w : WorksD) (m : MeshD) : BA := ba (glueL 32 [mshB.data.toList, (nameAt w m.1).data.toList, Lib.itoa m.2.1, (nameAt w m.2.2.1).data.toList, Lib.itoa m.2.2.2])
theorem glue_cons {c : UInt8} : ∀ (x : List UInt8) (xs : List (List UInt8)), glueL c (x :: xs) = x ++ (xs.map fun z => c :: z).flatten
  | x, [] => by simp [glueL]
  | x, y :: r => by
    show x ++ c :: glueL c (y :: r) = _
    rw [glue_cons y r]
    simp
theorem lineCat_cons (y : BA) (W : List BA) : lineCat (y :: W) = y.data.toList ++ 10 :: lineCat W := by simp [lineCat]
theorem hW_list : ∀ (ws : List Int) (acc : BA), (ws.foldl hW acc).data.toList = acc.data.toList ++ (ws.map fun t => 32 :: Lib.itoa t).flatten
  | [], acc => by simp
  | t :: ws, acc => by
    rw [List.foldl_cons, hW_list ws]
    unfold hW
    rw [ba_app, ba_app]
    show (acc.data.toList ++ ([32] ++ Lib.itoa t)) ++ _ = _
    simp
theorem hA_list (acc : BA) (a : ArborD) : (hA acc a).data.toList = acc.data.toList ++ ((arL a).data.toList ++ [10]) := by
  unfold hA arL
  rw [ba_app, hW_list, ba_app, ba_app, ba_list, glue_cons]
  show (acc.data.toList ++ ([97, 114, 98, 111, 114, 32] ++ a.1.data.toList) ++ _) ++ [10] = acc.data.toList ++ (([97, 114, 98, 111, 114] ++ _) ++ [10])
  simp [List.map_map, Function.comp_def]
theorem hM_list (w : WorksD) (acc : BA) (m : MeshD) : (hM w acc m).data.toList = acc.data.toList ++ ((meL w m).data.toList ++ [10]) := by
  unfold hM meL
  simp only [ba_app, ba_list, glue_cons]
  show acc.data.toList ++ (([109, 101, 115, 104, 32] ++ _ ++ [32] ++ Lib.itoa m.2.1 ++ [32] ++ _ ++ [32] ++ Lib.itoa m.2.2.2 ++ [10])) = acc.data.toList ++ (([109, 101, 115, 104] ++ _) ++ [10])
  simp
theorem foldA_list : ∀ (xs : List ArborD) (acc : BA), (xs.foldl hA acc).data.toList = acc.data.toList ++ lineCat (xs.map arL)
  | [], acc => by simp [lineCat]
  | a :: xs, acc => by
    rw [List.foldl_cons, foldA_list xs, hA_list, List.map_cons, lineCat_cons]
    simp
theorem foldM_list (w : WorksD) : ∀ (ms : List MeshD) (acc : BA), (ms.foldl (hM w) acc).data.toList = acc.data.toList ++ lineCat (ms.map (meL w))
  | [], acc => by simp [lineCat]
  | m :: ms, acc => by
    rw [List.foldl_cons, foldM_list w ms, hM_list, List.map_cons, lineCat_cons]
    simp
theorem works_list (w : WorksD) : (worksB w).data.toList = lineCat (w.1.map arL ++ w.2.map (meL w)) := by
  unfold worksB
  rw [foldM_list, foldA_list]
  show [] ++ _ ++ _ = _
  simp [lineCat]
theorem words_list (y : BA) : (wordsF y).map (fun x : BA => x.data.toList) = cutL 32 y.data.toList := by
  unfold wordsF
  rw [List.map_map]
  exact (List.map_congr_left fun x _ => rfl).trans (List.map_id _)
theorem words_glue (y : BA) : glueL 32 ((wordsF y).map fun x : BA => x.data.toList) = y.data.toList := by rw [words_list, glue_cut]
theorem strictA_line {y : BA} {a : ArborD} (h : strictA y a) : arL a = y := by
  apply ba_ext
  have := words_glue y
  rw [h] at this
  rw [← this]
  unfold arL
  rw [ba_list, List.map_cons, List.map_cons, List.map_map]
  rfl
theorem sameN_eq {n : BA} {z : ArborD} (h : sameN n z = true) : z.1 = n := by
  have := beq_iff_eq.1 h
  exact ba_ext (by rw [← ByteArray.toList_eq, ← ByteArray.toList_eq]; exact this)
theorem place_name {w : WorksD} {n : BA} {i : Int} (h : i = placeOf (sameN n) w.1) (h0 : 0 ≤ i) : nameAt w i = n := by
  unfold placeOf at h
  cases hf : w.1.findIdx? (sameN n) with
  | none => rw [hf] at h; dsimp only at h; omega
  | some k =>
    rw [hf] at h
    dsimp only at h
    obtain ⟨hk, hp, _⟩ := List.findIdx?_eq_some_iff_getElem.1 hf
    unfold nameAt
    rw [h, idx_nat (i := (k : Int)) (y := w.1[k]) (by omega) (by simp [hk])]
    exact sameN_eq hp
theorem strictM_line {w : WorksD} {y : BA} {m : MeshD} (h : strictM w.1 y m) (h1 : 0 ≤ m.1) (h2 : 0 ≤ m.2.2.1) : meL w m = y := by
  obtain ⟨n1, n2, hw, e1, e2⟩ := h
  apply ba_ext
  have := words_glue y
  rw [hw] at this
  rw [← this]
  unfold meL
  rw [place_name e1 h1, place_name e2 h2]
  rfl
theorem all2_A : ∀ {W : List BA} {xs : List ArborD}, All2 strictA W xs → xs.map arL = W
  | [], [], _ => rfl
  | y :: W, a :: xs, h => by rw [List.map_cons, strictA_line h.1, all2_A h.2]
theorem all2_M {w : WorksD} : ∀ {W : List BA} {ms : List MeshD}, All2 (strictM w.1) W ms → (∀ m ∈ ms, 0 ≤ m.1 ∧ 0 ≤ m.2.2.1) → ms.map (meL w) = W
  | [], [], _, _ => rfl
  | y :: W, m :: ms, h, h0 => by rw [List.map_cons, strictM_line h.1 (h0 m (by simp)).1 (h0 m (by simp)).2, all2_M h.2 fun m hm => h0 m (List.mem_cons_of_mem _ hm)]
theorem wheel_pos {w : WorksD} {a k : Int} (h : wheelF w a k = true) : 0 ≤ a ∧ a < w.1.length := by
  unfold wheelF inF at h
  simp only [Bool.and_eq_true, decide_eq_true_eq] at h
  omega
/-- What is read strictly is the text of what was read. -/
theorem read_text {W : List BA} {w : WorksD} (h : runF sF W ([], []) = some w) (hk : worksOk w = true) : (worksB w).data.toList = lineCat W := by
  obtain ⟨WA, WM, xs, ms, rfl, rfl, h1, h2⟩ := run_A h
  rw [List.nil_append] at h2 hk ⊢
  rw [works_list]
  show lineCat (xs.map arL ++ ms.map (meL (xs, ms))) = _
  rw [all2_A h1, all2_M (w := (xs, ms)) h2 fun m hm => by
    obtain ⟨k1, k2⟩ := mesh_bd hk hm
    exact ⟨(wheel_pos k1).1, (wheel_pos k2).1⟩]

/-! ### Works that are written are read back -/
theorem name_no {n : BA} (h : nameF n = true) {c : UInt8} (hc : c = 32 ∨ c = 10) : c ∉ n.data.toList := fun hm => by
  unfold nameF at h
  simp only [Bool.and_eq_true] at h
  obtain ⟨j, hj1, hj2⟩ := List.mem_iff_getElem.1 hm
  have hj : (bytesIn n)[j]? = some (c.toNat : Int) := by
    unfold bytesIn
    rw [List.getElem?_map, List.getElem?_eq_getElem hj1, hj2]
    rfl
  have hp := allI_true h.2.2 j _ hj
  unfold nameP restF smallF digitF at hp
  rcases hc with rfl | rfl
  · split at hp <;> revert hp <;> decide
  · split at hp <;> revert hp <;> decide
theorem names_good {w : WorksD} (hk : worksOk w = true) {i : Nat} {y : ArborD} (hy : w.1[i]? = some y) : nameF y.1 = true := by
  unfold worksOk at hk
  simp only [Bool.and_eq_true] at hk
  have hp := allI_true hk.2.1 i y hy
  unfold arborPlace arborOk at hp
  simp only [Bool.and_eq_true] at hp
  exact hp.1.2.1
theorem words_arL {w : WorksD} (hk : worksOk w = true) {i : Nat} {a : ArborD} (ha : w.1[i]? = some a) : wordsF (arL a) = arbB :: a.1 :: a.2.map decB := by
  unfold wordsF arL
  rw [ba_list, cutL_glue _ (by simp) (fun x hx => by
    rcases List.mem_cons.1 hx with rfl | hx
    · decide
    · rcases List.mem_cons.1 hx with rfl | hx
      · exact name_no (names_good hk ha) (.inl rfl)
      · obtain ⟨t, _, rfl⟩ := List.mem_map.1 hx
        exact itoa_no (by decide) (by decide))]
  rw [List.map_cons, List.map_cons, List.map_map, ba_of, ba_of]
  rfl
theorem line_no {w : WorksD} (hk : worksOk w = true) {i : Nat} {a : ArborD} (ha : w.1[i]? = some a) : (10 : UInt8) ∉ (arL a).data.toList := by
  unfold arL
  rw [ba_list, glue_cons]
  intro h
  rcases List.mem_append.1 h with h | h
  · exact absurd h (by decide)
  · obtain ⟨l, hl, hm⟩ := List.mem_flatten.1 h
    rw [List.map_cons, List.map_map] at hl
    rcases List.mem_cons.1 hl with rfl | hl
    · rcases List.mem_cons.1 hm with e | hm
      · exact absurd e (by decide)
      · exact name_no (names_good hk ha) (.inr rfl) hm
    · obtain ⟨t, _, rfl⟩ := List.mem_map.1 hl
      rcases List.mem_cons.1 hm with e | hm
      · exact absurd e (by decide)
      · exact itoa_no (by decide) (by decide) hm
theorem mesh_at {w : WorksD} (hk : worksOk w = true) {a k : Int} (h : wheelF w a k = true) : ∃ (i : Nat) (y : ArborD), w.1[i]? = some y ∧ a = (i : Int) ∧ nameAt w a = y.1 ∧ 0 ≤ k ∧ k ≤ 5 ∧ placeOf (sameN y.1) w.1 = a := by
  obtain ⟨y, h1, h2, _, h4, h5⟩ := wheel_bd hk h
  have hp := wheel_pos h
  have hy : w.1[a.toNat]? = some y := by
    unfold idx at h1
    rwa [if_pos hp.1] at h1
  refine ⟨a.toNat, y, hy, by omega, h2, h4, h5, ?_⟩
  have hk' := hk
  unfold worksOk at hk'
  simp only [Bool.and_eq_true] at hk'
  have hpl := allI_true hk'.2.1 a.toNat y hy
  unfold arborPlace at hpl
  simp only [Bool.and_eq_true, Bool.not_eq_true'] at hpl
  have hf := placeOf_first (p := sameN y.1) hy (by unfold sameN; simp)
  rw [Nat.zero_add] at hpl
  rw [hpl.2] at hf
  have : placeOf (sameN y.1) w.1 = (a.toNat : Int) := by simpa using hf
  omega
theorem words_meL {w : WorksD} (hk : worksOk w = true) {m : MeshD} (hm : m ∈ w.2) : wordsF (meL w m) = [mshB, nameAt w m.1, decB m.2.1, nameAt w m.2.2.1, decB m.2.2.2] ∧ (10 : UInt8) ∉ (meL w m).data.toList := by
  obtain ⟨k1, k2⟩ := mesh_bd hk hm
  obtain ⟨i, y, hy, _, n1, _⟩ := mesh_at hk k1
  obtain ⟨j, z, hz, _, n2, _⟩ := mesh_at hk k2
  unfold wordsF meL
  rw [n1, n2]
  constructor
  · rw [ba_list, cutL_glue _ (by simp) (fun x hx => by
      simp only [List.mem_cons, List.not_mem_nil, or_false] at hx
      rcases hx with rfl | rfl | rfl | rfl | rfl
      · decide
      · exact name_no (names_good hk hy) (.inl rfl)
      · exact itoa_no (by decide) (by decide)
      · exact name_no (names_good hk hz) (.inl rfl)
      · exact itoa_no (by decide) (by decide))]
    simp only [List.map_cons, List.map_nil, ba_of]
    rfl
  · rw [ba_list]
    simp only [glue_cons, List.map_cons, List.map_nil, List.flatten_cons, List.flatten_nil, List.append_nil, List.mem_append, List.mem_cons]
    have a1 := name_no (names_good hk hy) (c := 10) (.inr rfl)
    have a2 := name_no (names_good hk hz) (c := 10) (.inr rfl)
    have a3 : ∀ n, (10 : UInt8) ∉ Lib.itoa n := fun n => itoa_no (by decide) (by decide)
    have a4 : (10 : UInt8) ∉ mshB.data.toList := by decide
    have a5 : ¬ (10 : UInt8) = 32 := by decide
    simp [a1, a2, a3, a4, a5]
theorem run_arL {w : WorksD} (hk : worksOk w = true) : ∀ (xs pre : List ArborD), w.1 = pre ++ xs → runF sF (xs.map arL) (pre, []) = some (w.1, [])
  | [], pre, h => by rw [h, List.append_nil]; rfl
  | a :: xs, pre, h => by
    have ha : w.1[pre.length]? = some a := by rw [h]; simp
    have hb := arbor_bd hk ha
    show (sF (pre, []) (wordsF (arL a))).bind (runF sF (xs.map arL)) = _
    rw [words_arL hk ha]
    have hs : sF (pre, []) (arbB :: a.1 :: a.2.map decB) = some (pre ++ [a], []) := by
      have hn : ∀ t ∈ a.2, numF (decB t) = (t, true) := fun t ht => numF_dec (by have := hb.2.2.2 t ht; omega)
      unfold sF
      rw [if_pos (by
        simp only [Bool.and_eq_true, decide_eq_true_eq, List.length_cons, List.length_map]
        exact ⟨beq_iff_eq.2 rfl, by omega, by omega, rfl⟩), if_pos (by
        rw [List.all_eq_true]
        intro t ht
        obtain ⟨u, hu, rfl⟩ := List.mem_map.1 ht
        rw [hn u hu])]
      unfold arF
      show some (pre ++ [(a.1, (a.2.map decB).map fun t => (numF t).1)], []) = _
      rw [List.map_map, show a.2.map ((fun t => (numF t).1) ∘ decB) = a.2 from (List.map_congr_left fun t ht => by show (numF (decB t)).1 = id t; rw [hn t ht]; rfl).trans (List.map_id _)]
    rw [hs]
    exact run_arL hk xs (pre ++ [a]) (by rw [h]; simp)
theorem run_meL {w : WorksD} (hk : worksOk w = true) : ∀ (ms pre : List MeshD), w.2 = pre ++ ms → runF sF (ms.map (meL w)) (w.1, pre) = some w
  | [], pre, h => by
    rw [List.append_nil] at h
    show some (w.1, pre) = _
    rw [← h]
  | m :: ms, pre, h => by
    have hm : m ∈ w.2 := by rw [h]; simp
    obtain ⟨k1, k2⟩ := mesh_bd hk hm
    obtain ⟨i, y, hy, _, n1, b1, b2, p1⟩ := mesh_at hk k1
    obtain ⟨j, z, hz, _, n2, c1, c2, p2⟩ := mesh_at hk k2
    show (sF (w.1, pre) (wordsF (meL w m))).bind (runF sF (ms.map (meL w))) = _
    rw [(words_meL hk hm).1]
    have e1 := numF_dec (n := m.2.1) (by omega)
    have e2 := numF_dec (n := m.2.2.2) (by omega)
    have hs : sF (w.1, pre) [mshB, nameAt w m.1, decB m.2.1, nameAt w m.2.2.1, decB m.2.2.2] = some (w.1, pre ++ [m]) := by
      unfold sF
      rw [if_neg (fun h3 => by
        simp only [Bool.and_eq_true] at h3
        exact absurd (isW_eq h3.1) (fun e => absurd (congrArg (fun x : BA => x.data.toList) e) (by decide))), if_pos (by
        simp only [Bool.and_eq_true, decide_eq_true_eq]
        exact ⟨beq_iff_eq.2 rfl, rfl⟩), if_pos (by
        show ((numF (decB m.2.1)).2 && (numF (decB m.2.2.2)).2) = true
        rw [e1, e2]; rfl)]
      show some (w.1, pre ++ [(placeOf (sameN (nameAt w m.1)) w.1, (numF (decB m.2.1)).1, placeOf (sameN (nameAt w m.2.2.1)) w.1, (numF (decB m.2.2.2)).1)]) = _
      rw [e1, e2, n1, n2, p1, p2]
    rw [hs]
    exact run_meL hk ms (pre ++ [m]) (by rw [h]; simp)
theorem runF_append {F : WorksD → List BA → Option WorksD} : ∀ (A B : List BA) (w : WorksD), runF F (A ++ B) w = (runF F A w).bind (runF F B)
  | [], B, w => rfl
  | y :: A, B, w => by
    show (F w (wordsF y)).bind (runF F (A ++ B)) = ((F w (wordsF y)).bind (runF F A)).bind (runF F B)
    rw [Option.bind_assoc]
    congr 1
    funext v
    exact runF_append A B v
theorem run_back {w : WorksD} (hk : worksOk w = true) : runF sF (w.1.map arL ++ w.2.map (meL w)) ([], []) = some w := by
  rw [runF_append, run_arL hk w.1 [] rfl]
  exact run_meL hk w.2 [] rfl

/-! ### Lines -/
theorem cut_lineCat : ∀ (W : List BA), (∀ y ∈ W, (10 : UInt8) ∉ y.data.toList) → cutL 10 (lineCat W) = W.map (fun y : BA => y.data.toList) ++ [[]]
  | [], _ => by simp [lineCat, cutL]
  | y :: W, h => by
    rw [lineCat_cons, cutL_hit _ (h y (by simp)), cut_lineCat W fun z hz => h z (List.mem_cons_of_mem _ hz)]
    rfl
theorem glue_lines : ∀ (P : List (List UInt8)), glueL 10 (P ++ [[]]) = lineCat (P.map ba)
  | [] => rfl
  | [x] => by show x ++ 10 :: [] = _; simp [lineCat, ba]
  | x :: y :: P => by
    show x ++ 10 :: glueL 10 ((y :: P) ++ [[]]) = lineCat (ba x :: (y :: P).map ba)
    rw [lineCat_cons, glue_lines (y :: P), ba_list]
/-- The lines of a text; none if the last has no end. -/
def linesF (s : BA) : Option (List BA) := if (cutL 10 s.data.toList).getLast? = some [] then some ((cutL 10 s.data.toList).dropLast.map ba) else none
theorem linesF_some {s : BA} {W : List BA} (h : linesF s = some W) : s.data.toList = lineCat W ∧ cutL 10 s.data.toList = W.map (fun y : BA => y.data.toList) ++ [[]] := by
  unfold linesF at h
  split at h
  · rename_i h1
    cases h
    have hne := cutL_ne 10 s.data.toList
    have hl := List.dropLast_concat_getLast hne
    have hg : (cutL 10 s.data.toList).getLast hne = [] := by
      rw [List.getLast?_eq_some_getLast hne] at h1
      exact Option.some.inj h1
    rw [hg] at hl
    refine ⟨?_, ?_⟩
    · rw [← glue_lines, hl, glue_cut]
    · rw [List.map_map]
      conv => lhs; rw [← hl]
      congr 1
      exact ((List.map_congr_left fun x _ => rfl).trans (List.map_id _)).symm
  · cases h
theorem linesF_of {W : List BA} (h : ∀ y ∈ W, (10 : UInt8) ∉ y.data.toList) {s : BA} (hs : s.data.toList = lineCat W) : linesF s = some W := by
  have hc := cut_lineCat W h
  unfold linesF
  rw [hs, hc, if_pos (by simp)]
  congr 1
  rw [List.dropLast_concat, List.map_map]
  exact (List.map_congr_left fun x _ => ba_of x).trans (List.map_id _)

/-! ### Both read the same -/
open Classical in
noncomputable def resS (W : List BA) : WorksD × Bool := match runF sF W ([], []) with
  | some w => if W.length ≤ 40 ∧ worksOk w = true then (w, true) else (([], []), false)
  | none => (([], []), false)
open Classical in
noncomputable def resI (s : BA) (W : List BA) : WorksD × Bool := match runF iF W ([], []) with
  | some w => if worksOk w = true ∧ worksB w = s then (w, true) else (([], []), false)
  | none => (([], []), false)
theorem res_same {s : BA} {W : List BA} (h : linesF s = some W) : resI s W = resS W := by
  obtain ⟨h1, _⟩ := linesF_some h
  have back : ∀ w, worksOk w = true → worksB w = s → runF sF W ([], []) = some w ∧ W.length ≤ 40 := fun w hk hs => by
    have hw := works_bd hk
    have hl : linesF s = some (w.1.map arL ++ w.2.map (meL w)) := linesF_of (fun y hy => by
      rcases List.mem_append.1 hy with hy | hy
      · obtain ⟨a, ha, rfl⟩ := List.mem_map.1 hy
        obtain ⟨j, hj1, hj2⟩ := List.mem_iff_getElem.1 ha
        exact line_no hk (i := j) (by rw [List.getElem?_eq_getElem hj1, hj2])
      · obtain ⟨m, hm, rfl⟩ := List.mem_map.1 hy
        exact (words_meL hk hm).2) (by rw [← hs]; exact works_list w)
    rw [h] at hl
    cases hl
    exact ⟨run_back hk, by simp; omega⟩
  unfold resI resS
  cases hi : runF iF W ([], []) with
  | none =>
    cases hs : runF sF W ([], []) with
    | none => rfl
    | some w => rw [run_iF hs] at hi; cases hi
  | some w =>
    dsimp only
    by_cases hc : worksOk w = true ∧ worksB w = s
    · obtain ⟨b1, b2⟩ := back w hc.1 hc.2
      rw [if_pos hc, b1]
      dsimp only
      rw [if_pos ⟨b2, hc.1⟩]
    · rw [if_neg hc]
      cases hs : runF sF W ([], []) with
      | none => rfl
      | some v =>
        have := run_iF hs
        rw [hi] at this
        cases this
        dsimp only
        rw [if_neg fun hd => hc ⟨hd.2, ba_ext (by rw [read_text hs hd.2, h1])⟩]
end Rx
end Go.Proofs.YtonbgpliomhboaaGreatDoor

namespace Go.Proofs.YtonbgpliomhboaaGreatDoor
namespace Rx
open Go

theorem drop_cons {α : Type} {l r : List α} {i : Nat} {t : α} (h : l.drop i = t :: r) : l[i]? = some t ∧ l.drop (i + 1) = r ∧ i < l.length := by
  have h1 : l[i]? = some t := by
    have := congrArg (fun z : List α => z[0]?) h
    simpa using this
  refine ⟨h1, ?_, (List.getElem?_eq_some_iff.1 h1).1⟩
  have := congrArg List.tail h
  simpa [List.tail_drop] using this
theorem drop_nil {α : Type} {l : List α} {i : Nat} (h : l.drop i = []) : l.length ≤ i := by
  have := congrArg List.length h
  simp at this
  omega
/-! ### The reference -/
theorem isW_two {ws : List BA} (h : isW arbB ws = true) : isW mshB ws = false := by
  rw [Bool.eq_false_iff]
  intro h2
  have e1 := beq_iff_eq.1 h
  have e2 := beq_iff_eq.1 h2
  rw [e1, ByteArray.toList_eq, ByteArray.toList_eq] at e2
  exact absurd e2 (by decide)
theorem words_bd {y : BA} (h : y.size ≤ 1048576) : wordsF y ≠ [] ∧ (wordsF y).length ≤ 1048577 := by
  refine ⟨fun e => cutL_ne 32 y.data.toList (List.map_eq_nil_iff.1 e), ?_⟩
  unfold wordsF
  have := cutL_many (c := 32) y.data.toList
  rw [← ba_size] at this
  simp; omega
theorem sF_grow {w v : WorksD} {ws : List BA} (h : iF w ws = some v) : v.1.length ≤ w.1.length + 1 ∧ v.2.length ≤ w.2.length + 1 := by
  unfold iF at h
  split at h
  · cases h; simp
  · split at h
    · cases h; simp
    · cases h
theorem read_grow : ∀ {W : List BA} {w v : WorksD}, (∀ y ∈ W, y.size ≤ 1048576) → runF iF W w = some v → v.1.length ≤ w.1.length + W.length ∧ v.2.length ≤ w.2.length + W.length ∧ ((∀ a ∈ w.1, a.2.length ≤ 1048576) → ∀ a ∈ v.1, a.2.length ≤ 1048576)
  | [], w, v, _, h => by
    cases h
    exact ⟨by simp, by simp, fun h => h⟩
  | y :: W, w, v, hs, h => by
    obtain ⟨u, h1, h2⟩ := Option.bind_eq_some_iff.1 h
    obtain ⟨g1, g2, g3⟩ := read_grow (fun z hz => hs z (List.mem_cons_of_mem _ hz)) h2
    have hg := sF_grow h1
    have hb := words_bd (hs y (by simp))
    refine ⟨by rw [List.length_cons]; omega, by rw [List.length_cons]; omega, fun hw => g3 ?_⟩
    unfold iF at h1
    split at h1
    · cases h1
      intro a ha
      rcases List.mem_append.1 ha with ha | ha
      · exact hw a ha
      · rw [List.mem_singleton] at ha
        rw [ha]
        unfold arF
        have := hb.2
        simp
        omega
    · split at h1
      · cases h1
        exact hw
      · cases h1
theorem small_read {W : List BA} {w : WorksD} (hs : ∀ y ∈ W, y.size ≤ 1048576) (hl : W.length ≤ 1048576) (h : runF iF W ([], []) = some w) : smallW w := by
  obtain ⟨g1, g2, g3⟩ := read_grow hs h
  exact ⟨by simpa using Nat.le_trans g1 (by simpa using hl), g3 (fun a ha => by cases ha), by simpa using Nat.le_trans g2 (by simpa using hl)⟩
noncomputable def readF (s : BA) : WorksD × Bool := match linesF s with
  | some W => resS W
  | none => (([], []), false)
theorem lines_bd {s : BA} (h : s.size ≤ 1048576) {W : List BA} (hW : linesF s = some W) : (∀ y ∈ W, y.size ≤ 1048576) ∧ W.length ≤ 1048576 := by
  obtain ⟨h1, h2⟩ := linesF_some hW
  refine ⟨fun y hy => ?_, ?_⟩
  · have := cutL_len (c := 10) s.data.toList y.data.toList (by rw [h2]; exact List.mem_append.2 (.inl (List.mem_map_of_mem hy)))
    rw [← ba_size, ← ba_size] at this
    omega
  · have := cutL_many (c := 10) s.data.toList
    rw [h2, ← ba_size] at this
    simp at this
    omega
end Rx
end Go.Proofs.YtonbgpliomhboaaGreatDoor

namespace Go.Proofs.YtonbgpliomhboaaGreatDoor
namespace Rx
open Go

/-! ### Lines -/
theorem cut_end {c : UInt8} : ∀ (t : List UInt8), cutL c (t ++ [c]) = cutL c t ++ [[]]
  | [] => by simp [cutL]
  | b :: t => by
    rw [List.cons_append, cutL, cut_end t, cutL]
    split
    · rfl
    · obtain ⟨x, r, e⟩ := List.exists_cons_of_ne_nil (cutL_ne c t)
      rw [e]
      rfl
theorem lineCat_end : ∀ {W : List BA}, W ≠ [] → (lineCat W).getLast? = some 10
  | [], h => (h rfl).elim
  | [y], _ => by simp [lineCat]
  | y :: z :: W, _ => by
    rw [lineCat_cons]
    have := lineCat_end (W := z :: W) (by simp)
    rw [List.getLast?_append, List.getLast?_cons, this]
    rfl
theorem take_last {l : List UInt8} (h : l ≠ []) : (l.drop (l.length - 1)).take (1) = [l.getLast h] := by
  have h1 := List.dropLast_concat_getLast h
  conv => lhs; rw [← h1]
  have h2 : (l.dropLast ++ [l.getLast h]).length - 1 = l.dropLast.length := by simp
  rw [h2, List.drop_left]
  rfl
theorem hasSuf_eq {s : BA} (h : s.size ≤ 1048576) (h0 : s.data.toList ≠ []) : hasSufX (s, (⟨⟨[(10 : UInt8)]⟩⟩ : ByteArray)) = some (decide (s.data.toList.getLast? = some 10)) := by
  have hp := List.length_pos_iff.2 h0
  rw [← ba_size] at hp
  have h1 : (((⟨⟨[(10 : UInt8)]⟩⟩ : ByteArray).size : Nat) : Int) = 1 := rfl
  have ew : IntKind.i64.wrap ((s.size : Int) - (((⟨⟨[(10 : UInt8)]⟩⟩ : ByteArray).size : Nat) : Int)) = ((s.size - 1 : Nat) : Int) := by rw [h1, w64 (by omega) (by omega)]; omega
  unfold hasSufX hasSufA
  dsimp only
  rw [ew, br_t (decide_eq_true (by rw [h1]; omega)), br_t (decide_eq_true ⟨by omega, by omega, by omega⟩), ob_s]
  congr 1
  have e1 : (s.extract ((s.size - 1 : Nat) : Int).toNat (s.size : Int).toNat).data.toList = [s.data.toList.getLast h0] := by
    have hl : s.size = s.data.toList.length := ba_size s
    rw [ext_list, show ((s.size - 1 : Nat) : Int).toNat = s.size - 1 by omega, show (s.size : Int).toNat = s.size by omega, show s.size - (s.size - 1) = 1 by omega, hl]
    exact take_last h0
  rw [Bool.eq_iff_iff, decide_eq_true_eq, beq_iff_eq, ByteArray.toList_eq, ByteArray.toList_eq, e1, List.getLast?_eq_some_getLast h0]
  show [s.data.toList.getLast h0] = [10] ↔ _
  simp
theorem trimSuf_eq {s : BA} (h : s.size ≤ 1048576) {t : List UInt8} (ht : s.data.toList = t ++ [10]) : trimSufX (s, (⟨⟨[(10 : UInt8)]⟩⟩ : ByteArray)) = some (ba t) := by
  have h0 : s.data.toList ≠ [] := by rw [ht]; simp
  have hs : s.size = t.length + 1 := by rw [ba_size, ht]; simp
  have hh : hasSufA (s, (⟨⟨[(10 : UInt8)]⟩⟩ : ByteArray)) = some true := by
    have := hasSuf_eq h h0
    unfold hasSufX at this
    obtain ⟨b, h1, h2⟩ := ob_some this
    rw [ht] at h2
    simp at h2
    rw [← h2]
    exact h1
  have h1 : (((⟨⟨[(10 : UInt8)]⟩⟩ : ByteArray).size : Nat) : Int) = 1 := rfl
  have ew : IntKind.i64.wrap ((s.size : Int) - (((⟨⟨[(10 : UInt8)]⟩⟩ : ByteArray).size : Nat) : Int)) = (t.length : Int) := by rw [h1, w64 (by omega) (by omega)]; omega
  unfold trimSufX trimSufA
  dsimp only
  rw [ob_some' hh, br_t (c := true) rfl, ew, br_t (decide_eq_true ⟨by omega, by omega, by omega⟩), ob_s]
  congr 1
  apply ba_ext
  rw [ext_list, ht]
  simp [ba]
theorem linesI_eq {s : BA} (h : s.size ≤ 1048576) : linesI s = some (match linesF s with | some W => (W, true) | none => ([], false)) := by
  unfold linesI
  by_cases h0 : s.data.toList = []
  · have he : (ByteArray.toList s == (⟨⟨[]⟩⟩ : ByteArray).toList) = true := by rw [beq_iff_eq, ByteArray.toList_eq, ByteArray.toList_eq]; exact h0
    have hW : linesF s = some [] := by
      unfold linesF
      rw [h0]
      rfl
    rw [br_t he, hW]
  · have he : (ByteArray.toList s == (⟨⟨[]⟩⟩ : ByteArray).toList) = false := by
      rw [Bool.eq_false_iff]
      intro h
      have := beq_iff_eq.1 h
      rw [ByteArray.toList_eq, ByteArray.toList_eq] at this
      exact h0 this
    rw [br_f he, ob_some' (hasSuf_eq h h0)]
    by_cases hl : s.data.toList.getLast? = some 10
    · obtain ⟨t, ht⟩ : ∃ t, s.data.toList = t ++ [10] := by
        refine ⟨s.data.toList.dropLast, ?_⟩
        have := List.dropLast_concat_getLast h0
        rw [List.getLast?_eq_some_getLast h0] at hl
        rw [Option.some.inj hl] at this
        exact this.symm
      have hs : s.size = t.length + 1 := by rw [ba_size, ht]; simp
      have hW : linesF s = some ((cutL 10 t).map ba) := by
        unfold linesF
        rw [ht, cut_end, if_pos (by simp), List.dropLast_concat]
      have hx : splitX (ba t, (⟨⟨[(10 : UInt8)]⟩⟩ : ByteArray)) = some ((cutL 10 t).map ba) := splitX_eq 10 (s := ba t) (by rw [ba_len]; omega)
      rw [br_f (by rw [decide_eq_true hl]; rfl), ob_some' (trimSuf_eq h ht), ob_some' hx, hW]
    · have hW : linesF s = none := by
        cases hf : linesF s with
        | none => rfl
        | some W =>
          obtain ⟨h1, _⟩ := linesF_some hf
          have hne : W ≠ [] := fun e => h0 (by rw [h1, e]; rfl)
          exact (hl (by rw [h1]; exact lineCat_end hne)).elim
      rw [br_t (by rw [decide_eq_false hl]; rfl), hW]

/-! ### Line by line -/
theorem wheelIL_run {s : BA} {z w : WorksD} {b : Bool} {n : BA} {W ts : List BA} {N I : Int} (hl : ts.length ≤ 1048577) (hz : ∀ t ∈ ts, t.size ≤ 1048576) : ∀ (rest : List BA) (i : Nat) (acc : List Int) (f : Nat), ts.drop i = rest → i ≤ ts.length → rest.length < f → acc.length ≤ i →
    iterP wheelIL_step f (s, z, b, w, (n, acc), W, N, I, ts, (ts.length : Int), (i : Int)) = some (s, z, b, w, (n, acc ++ rest.map fun t => (numF t).1), W, N, I, ts, (ts.length : Int), (ts.length : Int))
  | [], i, acc, f, h, hi, hf, _ => by
    obtain ⟨f, rfl⟩ : ∃ k, f = k + 1 := ⟨f - 1, by omega⟩
    have := drop_nil h
    have e : i = ts.length := by omega
    subst e
    show ob (wheelIL_step (s, z, b, w, (n, acc), W, N, I, ts, (ts.length : Int), (ts.length : Int))) _ = _
    unfold wheelIL_step
    dsimp only
    rw [br_f (by simp), List.map_nil, List.append_nil]
    rfl
  | t :: rest, i, acc, f, h, hi, hf, ha => by
    obtain ⟨f, rfl⟩ : ∃ k, f = k + 1 := ⟨f - 1, by omega⟩
    obtain ⟨h1, h2, h3⟩ := drop_cons h
    have e1 : idx ts (i : Int) = some t := idx_nat (by omega) (by simpa using h1)
    have hr : readX t = some (numF t) := readX_eq (by have := hz t (List.mem_of_getElem? h1); omega)
    have ih := wheelIL_run (s := s) (z := z) (w := w) (b := b) (n := n) (W := W) (N := N) (I := I) hl hz rest (i + 1) (acc ++ [(numF t).1]) f h2 (by omega) (by rw [List.length_cons] at hf; omega) (by simp; omega)
    show ob (wheelIL_step (s, z, b, w, (n, acc), W, N, I, ts, (ts.length : Int), (i : Int))) _ = _
    unfold wheelIL_step
    dsimp only
    rw [br_t (by simp; omega), ob_some' e1, ob_some' hr, br_t (by simp; omega), w64 (by omega) (by omega), List.map_cons]
    rw [List.append_assoc] at ih
    exact ih
theorem linesIL_at {s : BA} {z w : WorksD} {W : List BA} (hW : W.length ≤ 1048576) {i : Nat} {y : BA} (hy : W[i]? = some y) (hs : y.size ≤ 1048576) (hw1 : w.1.length ≤ 1048576) (hw2 : w.2.length ≤ 1048576) :
    linesIL_step (s, z, false, w, W, (W.length : Int), (i : Int)) = some (match iF w (wordsF y) with | some v => (.next, s, z, false, v, W, (W.length : Int), ((i + 1 : Nat) : Int)) | none => (.ret, s, ([], []), false, w, W, (W.length : Int), (i : Int))) := by
  have hlt := (List.getElem?_eq_some_iff.1 hy).1
  have e1 : idx W (i : Int) = some y := idx_nat (by omega) (by simpa using hy)
  have e1' : List.get?Internal W (Int.toNat (i : Int)) = some y := by rw [gi]; simpa using hy
  have e2 : wordsI y = some (wordsF y) := wordsI_eq hs
  obtain ⟨b1, b2⟩ := words_bd hs
  have hz : ∀ t ∈ wordsF y, t.size ≤ 1048576 := fun t ht => by
    unfold wordsF at ht
    obtain ⟨p, hp, rfl⟩ := List.mem_map.1 ht
    have := cutL_len _ p hp
    rw [← ba_size] at this
    rw [ba_len]; omega
  have ew : IntKind.i64.wrap ((i : Int) + 1) = ((i + 1 : Nat) : Int) := by rw [w64 (by omega) (by omega)]; push_cast; rfl
  unfold linesIL_step
  dsimp only
  rw [br_t (decide_eq_true (by omega)), ob_some' e1, ob_some' e1', ob_some' e2]
  generalize wordsF y = ws at b1 b2 hz
  obtain ⟨x, r, rfl⟩ := List.exists_cons_of_ne_nil b1
  have i0 : idx (x :: r) (0 : Int) = some x := rfl
  have g0 : List.get?Internal (x :: r) (Int.toNat (0 : Int)) = some x := rfl
  have tA : (ByteArray.toList x == (⟨⟨[(97 : UInt8), (114 : UInt8), (98 : UInt8), (111 : UInt8), (114 : UInt8)]⟩⟩ : ByteArray).toList) = isW arbB (x :: r) := rfl
  have tM : (ByteArray.toList x == (⟨⟨[(109 : UInt8), (101 : UInt8), (115 : UInt8), (104 : UInt8)]⟩⟩ : ByteArray).toList) = isW mshB (x :: r) := rfl
  rw [ob_some' i0, ob_some' g0, tA]
  unfold iF
  cases hA : isW arbB (x :: r) with
  | true =>
    have hM := isW_two hA
    rw [br_t (c := true) rfl, Bool.true_and]
    by_cases c1 : 2 ≤ (x :: r).length
    · obtain ⟨n, ts, rfl⟩ : ∃ n ts, r = n :: ts := by
        cases r with
        | nil => simp at c1
        | cons n ts => exact ⟨n, ts, rfl⟩
      have hd : List.drop (Int.toNat (2 : Int)) (List.take ((x :: n :: ts).length : Int).toNat (x :: n :: ts)) = ts := by
        rw [show ((x :: n :: ts).length : Int).toNat = (x :: n :: ts).length by omega, List.take_length]
        rfl
      have hrun := wheelIL_run (s := s) (z := z) (w := w) (b := false) (n := n) (W := W) (ts := ts) (N := (W.length : Int)) (I := (i : Int)) (by simp at b2; omega) (fun t ht => hz t (by simp [ht])) ts 0 [] (((ts.length : Int) - 0).toNat + 1) rfl (by omega) (by omega) (by simp)
      have hr' : wheelIL (s, (z.1, z.2), false, (w.1, w.2), (n, []), W, (W.length : Int), (i : Int), ts, (ts.length : Int), 0) = _ := hrun
      rw [br_t (decide_eq_true (by omega)), ob_some' (show idx (x :: n :: ts) (1 : Int) = some n from rfl), ob_some' (show List.get?Internal (x :: n :: ts) (Int.toNat (1 : Int)) = some n from rfl), br_t (decide_eq_true ⟨by omega, by omega, by omega⟩), hd, ob_some' hr']
      dsimp only
      rw [br_t (by simp; omega), if_pos (decide_eq_true c1), ew]
      rfl
    · rw [br_f (decide_eq_false (by omega)), ob_some' i0, ob_some' g0, tM, hM, br_f (c := false) rfl, if_neg (by simpa using c1), if_neg (by simp)]
  | false =>
    rw [br_f (c := false) rfl, ob_some' i0, ob_some' g0, tM, if_neg (by simp)]
    cases hM : isW mshB (x :: r) with
    | false => rw [br_f (c := false) rfl, if_neg (by simp)]
    | true =>
      rw [br_t (c := true) rfl, Bool.true_and]
      by_cases c5 : (x :: r).length = 5
      · have c5' : (((x :: r).length : Int) == 5) = true := by rw [c5]; rfl
        rw [br_t c5', if_pos (decide_eq_true c5)]
        match r, c5 with
        | [n1, t1, n2, t2], _ =>
          have f1 : indexArborI ((w.1, w.2), n1) = some (placeOf (sameN n1) w.1) := by
            unfold indexArborI
            dsimp only
            rw [findArborI_eq hw1 n1]
            rfl
          have f2 : indexArborI ((w.1, w.2), n2) = some (placeOf (sameN n2) w.1) := by
            unfold indexArborI
            dsimp only
            rw [findArborI_eq hw1 n2]
            rfl
          have r1 : readX t1 = some (numF t1) := readX_eq (by have := hz t1 (by simp); omega)
          have r2 : readX t2 = some (numF t2) := readX_eq (by have := hz t2 (by simp); omega)
          rw [ob_some' (show idx [x, n1, t1, n2, t2] (2 : Int) = some t1 from rfl), ob_some' (show List.get?Internal [x, n1, t1, n2, t2] (Int.toNat (2 : Int)) = some t1 from rfl), ob_some' r1,
            ob_some' (show idx [x, n1, t1, n2, t2] (4 : Int) = some t2 from rfl), ob_some' (show List.get?Internal [x, n1, t1, n2, t2] (Int.toNat (4 : Int)) = some t2 from rfl), ob_some' r2,
            ob_some' (show idx [x, n1, t1, n2, t2] (1 : Int) = some n1 from rfl), ob_some' (show List.get?Internal [x, n1, t1, n2, t2] (Int.toNat (1 : Int)) = some n1 from rfl), ob_some' f1,
            ob_some' (show idx [x, n1, t1, n2, t2] (3 : Int) = some n2 from rfl), ob_some' (show List.get?Internal [x, n1, t1, n2, t2] (Int.toNat (3 : Int)) = some n2 from rfl), ob_some' f2, br_t (by simp; omega), ew]
          rfl
      · rw [br_f (beq_eq_false_iff_ne.2 (by omega)), if_neg (by simpa using c5)]
theorem linesIL_run {s : BA} {z : WorksD} {W : List BA} (hW : W.length ≤ 1048576) (hs : ∀ y ∈ W, y.size ≤ 1048576) : ∀ (rest : List BA) (i : Nat) (w : WorksD) (f : Nat), W.drop i = rest → i ≤ W.length → rest.length < f → w.1.length ≤ i → w.2.length ≤ i →
    (∀ v, runF iF rest w = some v → iter linesIL_step f (s, z, false, w, W, (W.length : Int), (i : Int)) = some (true, (s, z, false, v, W, (W.length : Int), (W.length : Int)))) ∧ (runF iF rest w = none → ∃ u, iter linesIL_step f (s, z, false, w, W, (W.length : Int), (i : Int)) = some (false, (s, ([], []), false, u)))
  | [], i, w, f, h, hi, hf, _, _ => by
    obtain ⟨f, rfl⟩ : ∃ k, f = k + 1 := ⟨f - 1, by omega⟩
    have := drop_nil h
    have e : i = W.length := by omega
    subst e
    refine ⟨fun v hv => ?_, fun h => by cases h⟩
    cases hv
    show ob (linesIL_step (s, z, false, w, W, (W.length : Int), (W.length : Int))) _ = _
    unfold linesIL_step
    dsimp only
    rw [br_f (by simp)]
    rfl
  | y :: rest, i, w, f, h, hi, hf, hw1, hw2 => by
    obtain ⟨f, rfl⟩ : ∃ k, f = k + 1 := ⟨f - 1, by omega⟩
    obtain ⟨h1, h2, h3⟩ := drop_cons h
    have hy := hs y (List.mem_of_getElem? h1)
    have hat := linesIL_at (s := s) (z := z) (w := w) hW h1 hy (by omega) (by omega)
    show (∀ v, (iF w (wordsF y)).bind (runF iF rest) = some v → ob (linesIL_step (s, z, false, w, W, (W.length : Int), (i : Int))) _ = _) ∧ ((iF w (wordsF y)).bind (runF iF rest) = none → ∃ u, ob (linesIL_step (s, z, false, w, W, (W.length : Int), (i : Int))) _ = _)
    rw [hat]
    cases hv : iF w (wordsF y) with
    | none => exact ⟨fun v h => (by cases h), fun _ => ⟨_, rfl⟩⟩
    | some v =>
      have hg := sF_grow hv
      exact linesIL_run hW hs rest (i + 1) v f h2 (by omega) (by rw [List.length_cons] at hf; omega) (by omega) (by omega)
theorem readWI_eq {s : BA} (h : s.size ≤ 1048576) : readWI s = some (readF s) := by
  unfold readWI readF
  rw [ob_some' (linesI_eq h)]
  cases hf : linesF s with
  | none => rfl
  | some W =>
    obtain ⟨hs, hW⟩ := lines_bd h hf
    dsimp only
    rw [br_f (c := !true) rfl, ← res_same hf]
    have hrun := linesIL_run (s := s) (z := ([], [])) hW hs W 0 ([], []) (((W.length : Int) - 0).toNat + 1) rfl (by omega) (by omega) (by simp) (by simp)
    have hr' : linesIL (s, ([], []), false, ([], []), W, (W.length : Int), 0) = iter linesIL_step (((W.length : Int) - 0).toNat + 1) (s, ([], []), false, ([], []), W, (W.length : Int), ((0 : Nat) : Int)) := rfl
    rw [hr']
    unfold resI
    cases hv : runF iF W ([], []) with
    | none =>
      obtain ⟨u, hu⟩ := hrun.2 hv
      rw [hu, ob_s, br_f (c := false) rfl]
    | some w =>
      have hsm := small_read hs hW hv
      have e1 : validWI (w.1, w.2) = some (worksOk w) := validWI_eq hsm
      have e2 : wtI (w.1, w.2) = some (if worksOk w = true then worksB w else (⟨⟨[]⟩⟩ : ByteArray)) := wtI_eq hsm
      rw [hrun.1 w hv, ob_s, br_t (c := true) rfl]
      dsimp only
      rw [ob_some' e1]
      cases hk : worksOk w with
      | false => rw [br_t (c := !false) rfl, if_neg (fun h => by cases h.1)]
      | true =>
        rw [hk] at e2
        rw [br_f (c := !true) rfl, ob_some' e2, if_pos rfl]
        by_cases hb : worksB w = s
        · have ht : (!(ByteArray.toList (worksB w) == ByteArray.toList s)) = false := by rw [hb, ba_same]; rfl
          rw [br_f ht, if_pos ⟨rfl, hb⟩]
        · have ht : (!(ByteArray.toList (worksB w) == ByteArray.toList s)) = true := by
            rw [Bool.not_eq_true', Bool.eq_false_iff]
            intro h
            exact hb (beq_list.1 h)
          rw [br_t ht, if_neg (fun h => hb h.2)]
end Rx
end Go.Proofs.YtonbgpliomhboaaGreatDoor
