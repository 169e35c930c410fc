/- Structs that may be compared: a check, and what it says. No conditions. -/
import Derived.Test.YthfgpnpoocepeaaGreatRxP
import Derived.Laws.StructEq
namespace Go.Proofs.YthfgpnpoocepeaaGreat
open Go.RowKit
namespace Rx

def eqCell : Cell → Cell → Option Bool
  | .int k a, .int k' b => if k = k' then some (a == b) else none
  | .bool a, .bool b => some (a == b)
  | .str a, .str b => some (a == b)
  | _, _ => none
theorem eqCells_cons {c c' : Cell} {r r' : List Cell} {b : Bool} (h : eqCells (c :: r) (c' :: r') = some b) : ∃ b1 b2, eqCell c c' = some b1 ∧ eqCells r r' = some b2 ∧ b = (b1 && b2) := by
  cases c <;> cases c' <;> simp only [eqCells] at h <;> try cases h
  case int.int k m k' n =>
    split at h
    · rename_i hk
      split at h
      · cases h; exact ⟨m == n, true, by simp [eqCell, hk], rfl, by simp⟩
      · obtain ⟨x, hx, h⟩ := Option.bind_eq_some_iff.1 h
        cases h; exact ⟨m == n, x, by simp [eqCell, hk], hx, rfl⟩
    · cases h
  case bool.bool m n =>
    split at h
    · cases h; exact ⟨_, true, rfl, rfl, by simp⟩
    · obtain ⟨x, hx, h⟩ := Option.bind_eq_some_iff.1 h
      cases h; exact ⟨_, x, rfl, hx, rfl⟩
  case str.str m n =>
    split at h
    · cases h; exact ⟨_, true, rfl, rfl, by simp⟩
    · obtain ⟨x, hx, h⟩ := Option.bind_eq_some_iff.1 h
      cases h; exact ⟨_, x, rfl, hx, rfl⟩
theorem eqCells_mk {c c' : Cell} {r r' : List Cell} {b1 b2 : Bool} (h1 : eqCell c c' = some b1) (h2 : eqCells r r' = some b2) : eqCells (c :: r) (c' :: r') = some (b1 && b2) := by
  cases c <;> cases c' <;> simp only [eqCell] at h1 <;> try cases h1
  case int.int k m k' n =>
    split at h1
    · rename_i hk
      cases h1
      simp only [eqCells, hk, if_true]
      split
      · simp only [eqCells] at h2; cases h2; simp
      · rw [h2]; rfl
    · cases h1
  case bool.bool m n =>
    simp only [eqCells]
    split
    · simp only [eqCells] at h2; cases h2; simp
    · rw [h2]; rfl
  case str.str m n =>
    simp only [eqCells]
    split
    · simp only [eqCells] at h2; cases h2; simp
    · rw [h2]; rfl
theorem eqCells_split : ∀ (k : Nat) {cs cs' : List Cell} {b : Bool}, eqCells cs cs' = some b → ∃ b1 b2, eqCells (cs.take k) (cs'.take k) = some b1 ∧ eqCells (cs.drop k) (cs'.drop k) = some b2 ∧ b = (b1 && b2)
  | 0, cs, cs', b, h => ⟨true, b, rfl, h, by simp⟩
  | k + 1, [], [], b, h => ⟨true, true, rfl, rfl, by simp only [eqCells] at h; cases h; rfl⟩
  | k + 1, [], _ :: _, b, h => by simp [eqCells] at h
  | k + 1, c :: _, [], b, h => by cases c <;> simp [eqCells] at h
  | k + 1, c :: r, c' :: r', b, h => by
    obtain ⟨b1, b2, h1, h2, rfl⟩ := eqCells_cons h
    obtain ⟨b3, b4, h3, h4, rfl⟩ := eqCells_split k h2
    exact ⟨b1 && b3, b4, eqCells_mk h1 h3, h4, by cases b1 <;> cases b3 <;> rfl⟩
theorem eqCells_len : ∀ {cs cs' : List Cell} {b : Bool}, eqCells cs cs' = some b → cs.length = cs'.length
  | [], [], _, _ => rfl
  | [], _ :: _, b, h => by simp [eqCells] at h
  | c :: _, [], b, h => by cases c <;> simp [eqCells] at h
  | c :: r, c' :: r', b, h => by
    obtain ⟨b1, b2, h1, h2, _⟩ := eqCells_cons h
    simp [eqCells_len h2]

/-- A struct's fields one behind the other. -/
def seqK (tab : List (TypeId × TI)) (eq : TypeId → Option (List EK)) : Nat → List (Nat × TypeId) → Option (Nat × List EK)
  | n, [] => some (n, [])
  | n, f :: fs => match tab.lookup f.2, eq f.2 with
    | some i, some ks => if f.1 = n ∧ ks.length = i.size then (seqK tab eq (n + i.size) fs).map fun r => (r.1, ks ++ r.2) else none
    | _, _ => none
def namesOk : List Field → Bool
  | [] => true
  | f :: fs => !(f.name == "_") && namesOk fs
def eqK (P : Program) (tab : List (TypeId × TI)) : Nat → TypeId → Option (List EK)
  | 0, _ => none
  | n + 1, t => match tab.lookup t with
    | some i => match i.desc with
      | .int k => some [.int k]
      | .bool => some [.bool]
      | .str => some [.str]
      | .struct fs => if !P.stoodInHeld t && namesOk (P.fieldsOf t).toList then (seqK tab (eqK P tab n) 0 fs).bind fun r => if r.1 = i.size then some r.2 else none else none
      | _ => none
    | none => none

section
variable {P : Program} {w : World} {M : Mem} {hdr : Nat → Option Value} {tab : List (TypeId × TI)}
theorem v1At_of {i : TI} {cs : List Cell} {off : Nat} (h : off + i.size ≤ cs.length) (h1 : i.isAgg = false → i.size = 1) : ∃ x, v1At i cs off = some x ∧ x.cells = (cs.drop off).take i.size ∧ (i.isAgg = true → ∃ r, x = .agg r) ∧ (i.isAgg = false → ∃ c, x = .one c) := by
  have hl : ((cs.drop off).take i.size).length = i.size := by simp; omega
  unfold v1At
  simp only [hl, if_true]
  cases ha : i.isAgg with
  | true => exact ⟨_, rfl, rfl, fun _ => ⟨_, rfl⟩, fun h => by cases h⟩
  | false =>
    rw [h1 ha] at hl ⊢
    obtain ⟨c, hc⟩ : ∃ c, (cs.drop off).take 1 = [c] := by
      match (cs.drop off).take 1, hl with
      | [c], _ => exact ⟨c, rfl⟩
    rw [hc]
    exact ⟨.one c, rfl, rfl, fun h => (by cases h), fun _ => ⟨c, rfl⟩⟩

theorem kindsOk_len : ∀ {ks : List EK} {cs : List Cell}, kindsOk ks cs = true → ks.length = cs.length
  | [], [], _ => rfl
  | [], _ :: _, h => by simp [kindsOk] at h
  | .int _ :: r, [], h => by simp [kindsOk] at h
  | .bool :: r, [], h => by simp [kindsOk] at h
  | .str :: r, [], h => by simp [kindsOk] at h
  | .int _ :: r, c :: cs, h => by
    cases c <;> simp only [kindsOk, Bool.false_eq_true, Bool.and_eq_true] at h
    simp [kindsOk_len h.2]
  | .bool :: r, c :: cs, h => by
    cases c <;> simp only [kindsOk, Bool.false_eq_true] at h
    simp [kindsOk_len h]
  | .str :: r, c :: cs, h => by
    cases c <;> simp only [kindsOk, Bool.false_eq_true] at h
    simp [kindsOk_len h]
theorem kindsOk_split : ∀ {ks ks' : List EK} {cs : List Cell}, kindsOk (ks ++ ks') cs = true → kindsOk ks (cs.take ks.length) = true ∧ kindsOk ks' (cs.drop ks.length) = true
  | [], ks', cs, h => ⟨rfl, h⟩
  | .int _ :: r, _, [], h => by simp [kindsOk] at h
  | .bool :: r, _, [], h => by simp [kindsOk] at h
  | .str :: r, _, [], h => by simp [kindsOk] at h
  | .int _ :: r, _, c :: cs, h => by
    cases c <;> simp only [List.cons_append, kindsOk, Bool.false_eq_true, Bool.and_eq_true] at h
    obtain ⟨h1, h2⟩ := kindsOk_split h.2
    exact ⟨by simp only [List.length_cons, List.take_succ_cons, kindsOk, Bool.and_eq_true]; exact ⟨h.1, h1⟩, h2⟩
  | .bool :: r, _, c :: cs, h => by
    cases c <;> simp only [List.cons_append, kindsOk, Bool.false_eq_true] at h
    obtain ⟨h1, h2⟩ := kindsOk_split h
    exact ⟨h1, h2⟩
  | .str :: r, _, c :: cs, h => by
    cases c <;> simp only [List.cons_append, kindsOk, Bool.false_eq_true] at h
    obtain ⟨h1, h2⟩ := kindsOk_split h
    exact ⟨h1, h2⟩

def EqRun (P : Program) (w : World) (M : Mem) (hdr : Nat → Option Value) (tab : List (TypeId × TI)) (n : Nat) (t : TypeId) (ks : List EK) : Prop := ∀ (i : TI) (d : Nat) (x x' : V1) (v v' : Value) (b : Bool), tab.lookup t = some i → n ≤ d → RepV1 w M hdr x v → RepV1 w M hdr x' v' → (i.isAgg = true → (∃ r, x = .agg r) ∧ ∃ r, x' = .agg r) →
  (i.isAgg = false → (∃ c, x = .one c) ∧ ∃ c, x' = .one c) → kindsOk ks x.cells = true → eqCells x.cells x'.cells = some b → (Op.equalIn d t v v').run P w = .ok b w

theorem seqK_le {eq : TypeId → Option (List EK)} : ∀ (fds : List (Nat × TypeId)) (c : Nat) (r : Nat × List EK), seqK tab eq c fds = some r → r.1 = c + r.2.length
  | [], c, r, h => by simp only [seqK] at h; cases h; rfl
  | g :: fds, c, r, h => by
    simp only [seqK] at h
    split at h
    · split at h
      · rename_i i ks hi hks hc
        obtain ⟨q, hq, h⟩ := Option.map_eq_some_iff.1 h
        cases h
        have := seqK_le _ _ _ hq
        simp only [List.length_append]
        omega
      · cases h
    · cases h

theorem eqFields_run (htab : ∀ t i, tab.lookup t = some i → TIOK P t i) (h1 : ∀ t i, tab.lookup t = some i → i.isAgg = false → i.size = 1) {n d : Nat} (hd : n ≤ d) {cs cs' : List Cell} {vs vs' : List Value} (hv : All2 (RepC w M hdr) cs vs) (hv' : All2 (RepC w M hdr) cs' vs') (hll : cs.length = cs'.length) {eq : TypeId → Option (List EK)} (hE : ∀ t ks, eq t = some ks → EqRun P w M hdr tab n t ks) :
    ∀ (fds : List Field) (cur : Nat) (r : Nat × List EK) (b : Bool), seqK tab eq cur (fds.map fun f => (f.offset, f.type)) = some r → r.1 = cs.length → namesOk fds = true → kindsOk r.2 (cs.drop cur) = true → eqCells (cs.drop cur) (cs'.drop cur) = some b → (Op.eqFields d vs.toArray vs'.toArray fds).run P w = .ok b w
  | [], cur, r, b, hs, hm, hn, hk, hb => by
    simp only [List.map_nil, seqK] at hs
    cases hs
    have hz : cs.drop cur = [] := List.drop_eq_nil_of_le (by simp only at hm; omega)
    have hz' : cs'.drop cur = [] := List.drop_eq_nil_of_le (by simp only at hm; omega)
    rw [hz, hz'] at hb
    simp only [eqCells] at hb
    cases hb
    rfl
  | f :: fds, cur, r, b, hs, hm, hn, hk, hb => by
    simp only [List.map_cons, seqK] at hs
    split at hs
    · rename_i i ks hi hks
      split at hs
      · rename_i hc
        obtain ⟨hoff, hsz⟩ := hc
        obtain ⟨q, hq, hs⟩ := Option.map_eq_some_iff.1 hs
        cases hs
        have hle := seqK_le _ _ _ hq
        simp only at hm
        simp only [namesOk, Bool.and_eq_true] at hn
        obtain ⟨k1, k2⟩ := kindsOk_split hk
        obtain ⟨b1, b2, e1, e2, rfl⟩ := eqCells_split i.size hb
        rw [hsz] at k1 k2
        rw [List.drop_drop] at k2 e2
        rw [List.drop_drop] at e2
        have ih := eqFields_run htab h1 hd hv hv' hll hE fds (cur + i.size) q b2 hq hm hn.2 k2 e2
        obtain ⟨x, x1, x2, x3, x4⟩ := v1At_of (i := i) (cs := cs) (off := cur) (by omega) (h1 _ _ hi)
        obtain ⟨y, y1, y2, y3, y4⟩ := v1At_of (i := i) (cs := cs') (off := cur) (by omega) (h1 _ _ hi)
        obtain ⟨v, p1, p2⟩ := run_part (htab _ _ hi) x1 hv
        obtain ⟨v', q1, q2⟩ := run_part (htab _ _ hi) y1 hv'
        have hrun := hE f.type ks hks i d x y v v' b1 hi hd p2 q2 (fun h => ⟨x3 h, y3 h⟩) (fun h => ⟨x4 h, y4 h⟩) (by rw [x2]; exact k1) (by rw [x2, y2]; exact e1)
        rw [hoff.symm] at p1 q1
        have hn' : f.name ≠ "_" := by have := hn.1; simpa using this
        simp only [Op.eqFields, if_pos hn', Sem.run_bind, p1, q1, hrun, Result.andThen_ok, Sem.run_ite, ih]
        cases b1 <;> simp
      · cases hs
    · cases hs

theorem eqRun (htab : ∀ t i, tab.lookup t = some i → TIOK P t i) (h1 : ∀ t i, tab.lookup t = some i → i.isAgg = false → i.size = 1) : ∀ (n : Nat) (t : TypeId) (ks : List EK), eqK P tab n t = some ks → EqRun P w M hdr tab n t ks
  | 0, t, ks, h => by simp [eqK] at h
  | n + 1, t, ks, h => by
    intro i d x x' v v' b hi hd hx hx' ha hna hk hb
    obtain ⟨d, rfl⟩ : ∃ e, d = e + 1 := ⟨d - 1, by omega⟩
    simp only [eqK, hi] at h
    have leaf : i.isAgg = false → ∃ c c' , x = .one c ∧ x' = .one c' ∧ kindsOk ks [c] = true ∧ eqCell c c' = some b ∧ RepC w M hdr c v ∧ RepC w M hdr c' v' := by
      intro hag
      obtain ⟨⟨c, rfl⟩, ⟨c', rfl⟩⟩ := hna hag
      obtain ⟨b1, b2, e1, e2, e3⟩ := eqCells_cons (r := []) (r' := []) hb
      simp only [eqCells] at e2; cases e2
      rw [Bool.and_true] at e3; subst e3
      exact ⟨c, c', rfl, rfl, hk, e1, hx, hx'⟩
    split at h
    · rename_i k hdsc
      cases h
      obtain ⟨c, c', rfl, rfl, e1, e2, e3, e4⟩ := leaf (by simp [TI.isAgg, hdsc])
      cases c <;> simp only [kindsOk, Bool.false_eq_true] at e1
      cases c' <;> simp only [eqCell] at e2 <;> try cases e2
      split at e2
      · rename_i hkk; subst hkk
        cases e2
        simp only [RepC] at e3 e4
        subst e3; subst e4
        exact run_equalIn_int w d t _ _ _ _ ((htab t i hi).int hdsc)
      · cases e2
    · rename_i hdsc
      cases h
      obtain ⟨c, c', rfl, rfl, e1, e2, e3, e4⟩ := leaf (by simp [TI.isAgg, hdsc])
      cases c <;> simp only [kindsOk, Bool.false_eq_true] at e1
      cases c' <;> simp only [eqCell] at e2 <;> try cases e2
      simp only [RepC] at e3 e4
      subst e3; subst e4
      have hu : P.underlying t = some .bool := by
        obtain ⟨dd, u1, u2⟩ := (htab t i hi).und
        rw [hdsc] at u2
        cases dd <;> simp [DescOK] at u2
        exact u1
      exact run_equalIn_bool' w d t _ _ hu
    · rename_i hdsc
      cases h
      obtain ⟨c, c', rfl, rfl, e1, e2, e3, e4⟩ := leaf (by simp [TI.isAgg, hdsc])
      cases c <;> simp only [kindsOk, Bool.false_eq_true] at e1
      cases c' <;> simp only [eqCell] at e2 <;> try cases e2
      simp only [RepC] at e3 e4
      subst e3; subst e4
      rw [run_equalIn_string (P := P) w d t _ _ ((htab t i hi).str hdsc), ← beq_toListBytes]
    · rename_i fs hdsc
      split at h
      · rename_i hg
        rw [Bool.and_eq_true] at hg
        obtain ⟨r, hr, h⟩ := Option.bind_eq_some_iff.1 h
        split at h
        · rename_i hsz
          cases h
          obtain ⟨⟨cs, rfl⟩, ⟨cs', rfl⟩⟩ := ha (by simp [TI.isAgg, hdsc])
          obtain ⟨vs, rfl, hv⟩ := hx
          obtain ⟨vs', rfl, hv'⟩ := hx'
          obtain ⟨fields, hu, rfl⟩ := (htab t i hi).struct hdsc
          have hf : P.fieldsOf t = fields := by simp [Program.fieldsOf, hu]
          have hkl := kindsOk_len hk
          have hrl := seqK_le _ _ _ hr
          rw [run_equalIn_struct w d t _ _ (by rw [hf]; exact hu) (by simpa using hg.1), hf]
          rw [hf] at hg
          have hkl' : r.2.length = cs.length := hkl
          exact eqFields_run htab h1 (by omega) hv hv' (eqCells_len hb) (fun t ks ht => eqRun htab h1 n t ks ht) fields.toList 0 r b hr (by omega) hg.2 hk hb
        · cases h
      · cases h
    · cases h

/-- Types of one cell. -/
def oneOk : List (TypeId × TI) → Bool
  | [] => true
  | x :: r => (x.2.isAgg || x.2.size == 1) && oneOk r
theorem oneOk_spec : ∀ {tab : List (TypeId × TI)}, oneOk tab = true → ∀ t i, tab.lookup t = some i → i.isAgg = false → i.size = 1
  | [], _, t, i, h => none_some h
  | (t', i') :: r, h, t, i, hl => by
    simp only [oneOk, Bool.and_eq_true] at h
    rw [List.lookup_cons] at hl
    by_cases e : t = t'
    · subst e
      simp at hl; subst hl
      intro ha
      have := h.1
      rw [ha] at this
      simpa using this
    · have : (t == t') = false := by simpa using e
      rw [this] at hl
      exact oneOk_spec h.2 t i hl
def eksEq : List EK → List EK → Bool
  | [], [] => true
  | .int k :: r, .int k' :: r' => k == k' && eksEq r r'
  | .bool :: r, .bool :: r' => eksEq r r'
  | .str :: r, .str :: r' => eksEq r r'
  | _, _ => false
theorem eksEq_spec : ∀ {a b : List EK}, eksEq a b = true → a = b
  | [], [], _ => rfl
  | .int k :: r, .int k' :: r', h => by
    simp only [eksEq, Bool.and_eq_true, beq_iff_eq] at h
    rw [h.1, eksEq_spec h.2]
  | .bool :: r, .bool :: r', h => by rw [eksEq_spec (a := r) (b := r') h]
  | .str :: r, .str :: r', h => by rw [eksEq_spec (a := r) (b := r') h]
def eqsOk (P : Program) (tab : List (TypeId × TI)) : List (TypeId × List EK) → Bool
  | [] => true
  | x :: r => !P.eqGuardType P.depth x.1 && (match eqK P tab 8 x.1, tab.lookup x.1 with | some ks, some i => eksEq ks x.2 && i.isAgg | _, _ => false) && eqsOk P tab r
theorem eqsOk_spec (htab : ∀ t i, tab.lookup t = some i → TIOK P t i) (h1 : ∀ t i, tab.lookup t = some i → i.isAgg = false → i.size = 1) : ∀ {l : List (TypeId × List EK)}, eqsOk P tab l = true → ∀ t ks, l.lookup t = some ks → StructEqOK P t ks
  | [], _, t, i, h => none_some h
  | (t', ks') :: r, h, t, ks, hl => by
    simp only [eqsOk, Bool.and_eq_true] at h
    rw [List.lookup_cons] at hl
    by_cases e : t = t'
    · subst e
      simp at hl; subst hl
      obtain ⟨⟨g1, g2⟩, _⟩ := h
      split at g2
      · rename_i ks i hks hi
        rw [Bool.and_eq_true] at g2
        have hk' := eksEq_spec g2.1
        subst hk'
        intro w M hdr x y cs cs' vs vs' b hk hv hv' hb
        have g1' : P.eqGuardType P.depth t = false := by simpa using g1
        refine ⟨run_eqGuard_agg w _ t x y _ _ g1', run_eqGuard_agg w _ t x y _ _ g1', ?_⟩
        show (Op.equalIn Op.maxDepth t _ _).run P w = _
        exact eqRun (w := w) (M := M) (hdr := hdr) htab h1 8 t ks hks i Op.maxDepth (.agg cs) (.agg cs') _ _ b hi (by decide) ⟨vs, rfl, hv⟩ ⟨vs', rfl, hv'⟩ (fun _ => ⟨⟨_, rfl⟩, ⟨_, rfl⟩⟩) (fun h => by rw [g2.2] at h; cases h) hk hb
      · cases g2
    · have : (t == t') = false := by simpa using e
      rw [this] at hl
      exact eqsOk_spec htab h1 h.2 t ks hl
end
end Rx
end Go.Proofs.YthfgpnpoocepeaaGreat
