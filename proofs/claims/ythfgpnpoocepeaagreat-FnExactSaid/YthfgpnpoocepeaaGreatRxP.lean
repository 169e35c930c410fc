/- What a seat's laws need of the evaluator: types checked, contracts listed, arguments read, and the row of a law. No conditions. -/
import Derived.Test.YthfgpnpoocepeaaGreatRxQ
namespace Go.Proofs.YthfgpnpoocepeaaGreat
open Go.ChangeShapes Go.WideShapes Go.ChangeAt Go.RowKit
namespace Rx

/-! ### Types -/
def zeroOk : List Cell → List Value → Bool
  | [], [] => true
  | .int k n :: r, .int k' n' :: r' => k == k' && n == n' && zeroOk r r'
  | .bool b :: r, .bool b' :: r' => b == b' && zeroOk r r'
  | .str s :: r, .string s' :: r' => decide (s = s') && zeroOk r r'
  | .nils :: r, .slice none 0 0 :: r' => zeroOk r r'
  | .nilm :: r, .map none :: r' => zeroOk r r'
  | _, _ => false
def pairsEq : List (Nat × TypeId) → List (Nat × TypeId) → Bool
  | [], [] => true
  | x :: r, y :: r' => x.1 == y.1 && x.2 == y.2 && pairsEq r r'
  | _, _ => false
def descOk : TD → TypeDesc → Bool
  | .int k, .int k' => k == k'
  | .bool, .bool => true
  | .str, .string => true
  | .slice e, .slice e' => e == e'
  | .struct fs, .struct fields => pairsEq fs (fields.toList.map fun f => (f.offset, f.type))
  | .ptr e, .pointer e' => e == e'
  | .array n e, .array n' e' => n == n' && e == e'
  | .map k e, .map k' e' => k == k' && e == e'
  | _, _ => false
def isAggV : Value → Bool
  | .agg _ => true
  | _ => false
def tiOk (P : Program) (t : TypeId) (i : TI) : Bool :=
  match P.info? t, P.underlying t with
  | some info, some d => match info.zero with
    | some z => info.size == i.size && info.bytes == i.bytes && z.cells.size == i.size && zeroOk i.zero z.cells.toList && (i.isAgg == isAggV z) && descOk i.desc d && i.ty.size == i.size && decide (i.bytes ≤ 32768) && decide (i.size ≤ 256) && decide (0 < i.size)
    | none => false
  | _, _ => false
theorem zeroOk_spec : ∀ {cs : List Cell} {vs : List Value}, zeroOk cs vs = true → All2 (fun c v => absC v = some c) cs vs
  | [], [], _ => trivial
  | .int k n :: r, .int k' n' :: r', h => by
    simp only [zeroOk, Bool.and_eq_true, beq_iff_eq] at h
    obtain ⟨⟨rfl, rfl⟩, h⟩ := h
    exact ⟨rfl, zeroOk_spec h⟩
  | .bool b :: r, .bool b' :: r', h => by
    simp only [zeroOk, Bool.and_eq_true, beq_iff_eq] at h
    obtain ⟨rfl, h⟩ := h
    exact ⟨rfl, zeroOk_spec h⟩
  | .str s :: r, .string s' :: r', h => by
    simp only [zeroOk, Bool.and_eq_true, decide_eq_true_eq] at h
    obtain ⟨rfl, h⟩ := h
    exact ⟨rfl, zeroOk_spec h⟩
  | .nils :: r, v :: r', h => by
    unfold zeroOk at h
    split at h <;> first
      | (rename_i e1 e2; cases e1; cases e2; exact ⟨rfl, zeroOk_spec h⟩)
      | (rename_i e1 e2; cases e1)
      | cases h
      | (rename_i e1 _; cases e1)
  | .nilm :: r, v :: r', h => by
    unfold zeroOk at h
    split at h <;> first
      | (rename_i e1 e2; cases e1; cases e2; exact ⟨rfl, zeroOk_spec h⟩)
      | (rename_i e1 e2; cases e1)
      | cases h
      | (rename_i e1 _; cases e1)
theorem pairsEq_spec : ∀ {a b : List (Nat × TypeId)}, pairsEq a b = true → a = b
  | [], [], _ => rfl
  | x :: r, y :: r', h => by
    simp only [pairsEq, Bool.and_eq_true, beq_iff_eq] at h
    obtain ⟨⟨h1, h2⟩, h3⟩ := h
    rw [pairsEq_spec h3]
    congr 1
    exact Prod.ext h1 h2
theorem descOk_spec {a : TD} {d : TypeDesc} (h : descOk a d = true) : DescOK a d := by
  cases a <;> cases d <;> simp only [descOk, Bool.false_eq_true, beq_iff_eq] at h <;> simp only [DescOK]
  all_goals first
    | exact h
    | exact pairsEq_spec h
    | simpa using h
theorem tiOk_spec {P : Program} {t : TypeId} {i : TI} (h : tiOk P t i = true) : TIOK P t i := by
  unfold tiOk at h
  split at h
  · rename_i info d h1 h2
    split at h
    · rename_i z hz
      simp only [Bool.and_eq_true, beq_iff_eq, decide_eq_true_eq] at h
      obtain ⟨⟨⟨⟨⟨⟨⟨⟨⟨a1, a2⟩, a3⟩, a4⟩, a5⟩, a6⟩, a7⟩, a8⟩, a9⟩, a10⟩ := h
      refine ⟨⟨info, z, h1, a1, a2, hz, a3, zeroOk_spec a4, fun ha => ?_⟩, ⟨d, h2, descOk_spec a6⟩, a7, a8, a9, a10, fun ha info' z' hi' hz' => ?_⟩
      · rw [ha] at a5
        cases z <;> simp only [isAggV, Bool.true_eq_false] at a5
        exact ⟨_, rfl⟩
      · rw [h1] at hi'; cases hi'
        rw [hz] at hz'; cases hz'
        rw [ha] at a5
        cases z <;> first | rfl | (simp [isAggV] at a5)
    · cases h
  · cases h
def tabOk (P : Program) : List (TypeId × TI) → Bool
  | [] => true
  | x :: r => tiOk P x.1 x.2 && tabOk P r
theorem tabOk_spec {P : Program} : ∀ {tab : List (TypeId × TI)}, tabOk P tab = true → ∀ t i, tab.lookup t = some i → TIOK P t i
  | [], _, t, i, h => none_some h
  | (t', i') :: r, h, t, i, hl => by
    simp only [tabOk, Bool.and_eq_true] at h
    rw [List.lookup_cons] at hl
    by_cases e : t = t'
    · subst e
      simp at hl; subst hl
      exact tiOk_spec h.1
    · have : (t == t') = false := by simpa using e
      rw [this] at hl
      exact tabOk_spec h.2 t i hl

def ConsOK (P : Program) : List (FuncId × Con) → Prop
  | [] => True
  | x :: r => x.2.ok P x.1 ∧ ConsOK P r
theorem ConsOK.get {P : Program} : ∀ {l : List (FuncId × Con)}, ConsOK P l → ∀ f c, l.lookup f = some c → c.ok P f
  | [], _, f, c, h => none_some h
  | (f', c') :: r, h, f, c, hl => by
    rw [List.lookup_cons] at hl
    by_cases e : f = f'
    · subst e
      simp at hl; subst hl
      exact h.1
    · have : (f == f') = false := by simpa using e
      rw [this] at hl
      exact ConsOK.get h.2 f c hl

def MConsOK (P : Program) : List (FuncId × MCon) → Prop
  | [] => True
  | x :: r => x.2.ok P x.1 ∧ MConsOK P r
theorem MConsOK.get {P : Program} : ∀ {l : List (FuncId × MCon)}, MConsOK P l → ∀ f c, l.lookup f = some c → c.ok P f
  | [], _, f, c, h => none_some h
  | (f', c') :: r, h, f, c, hl => by
    rw [List.lookup_cons] at hl
    by_cases e : f = f'
    · subst e
      simp at hl; subst hl
      exact h.1
    · have : (f == f') = false := by simpa using e
      rw [this] at hl
      exact MConsOK.get h.2 f c hl

/-! ### Arguments -/
def flatTy : Ty → List CK
  | .int k => [.int k]
  | .bool => [.bool]
  | .str => [.str]
  | .unit => []
  | .slice e => [.sl (flatTy e)]
  | .ref _ => [.bool]
  | .clo _ _ => [.bool]
  | .pair a b => flatTy a ++ flatTy b
/-- Data without pointers and functions. -/
def Ty.plain : Ty → Bool
  | .slice e => e.plain
  | .pair a b => a.plain && b.plain
  | .ref _ => false
  | .clo _ _ => false
  | _ => true
def AllIn {α : Type} (p : α → Prop) (l : List α) : Prop := ∀ x ∈ l, p x
/-- What is known of data that came in. -/
def Wf : (T : Ty) → T.den → Prop
  | .int k, n => (Lit.int k n).wf = true
  | .bool, _ => True
  | .str, s => s.size ≤ maxLen
  | .unit, _ => True
  | .slice e, xs => List.length xs ≤ maxLen ∧ AllIn (Wf e) xs
  | .ref _, _ => True
  | .clo _ _, _ => True
  | .pair a b, x => Wf a x.1 ∧ Wf b x.2

theorem flatTy_len : ∀ (T : Ty), (flatTy T).length = T.size
  | .int _ => rfl
  | .bool => rfl
  | .str => rfl
  | .unit => rfl
  | .slice _ => rfl
  | .ref _ => rfl
  | .clo _ _ => rfl
  | .pair a b => by simp [flatTy, Ty.size, flatTy_len a, flatTy_len b]

theorem Has.split {w : World} {d : Nat} {l1 l2 : List CK} {cs : List Value} (h : Has w d (l1 ++ l2) cs) : ∃ c1 c2, cs = c1 ++ c2 ∧ Has w d l1 c1 ∧ Has w d l2 c2 := by
  have hl := h.1
  rw [List.length_append] at hl
  refine ⟨cs.take l1.length, cs.drop l1.length, (List.take_append_drop _ _).symm, ⟨by simp; omega, fun j ck u h1 h2 => ?_⟩, ⟨by simp; omega, fun j ck u h1 h2 => ?_⟩⟩
  · have hj := (List.getElem?_eq_some_iff.1 h1).1
    rw [List.getElem?_take_of_lt hj] at h2
    exact h.2 j ck u (by rw [List.getElem?_append_left hj]; exact h1) h2
  · rw [List.getElem?_drop] at h2
    exact h.2 (l1.length + j) ck u (by rw [List.getElem?_append_right (by omega)]; simpa using h1) h2

theorem has_data {w : World} : ∀ {T : Ty} {d : Nat} {cs : List Value}, T.plain = true → Has w d (flatTy T) cs → ∃ x, RepD w (fun p => p.block < w.heap.size) T x cs ∧ Wf T x
  | .int k, d, cs, _, h => by
    obtain ⟨v, cs', rfl, h1, h2⟩ := Has.cons h
    have := Has.nil h2; subst this
    obtain ⟨n, rfl, hw⟩ := One_int.1 h1
    exact ⟨n, rfl, hw⟩
  | .bool, d, cs, _, h => by
    obtain ⟨v, cs', rfl, h1, h2⟩ := Has.cons h
    have := Has.nil h2; subst this
    obtain ⟨b, rfl⟩ := One_bool.1 h1
    exact ⟨b, rfl, trivial⟩
  | .str, d, cs, _, h => by
    obtain ⟨v, cs', rfl, h1, h2⟩ := Has.cons h
    have := Has.nil h2; subst this
    obtain ⟨s, rfl, hs⟩ := One_str.1 h1
    exact ⟨s, rfl, hs⟩
  | .unit, d, cs, _, h => ⟨(), Has.nil h, trivial⟩
  | .pair a b, d, cs, hp, h => by
    simp only [Ty.plain, Bool.and_eq_true] at hp
    obtain ⟨c1, c2, rfl, h1, h2⟩ := Has.split h
    obtain ⟨x, k1, k2⟩ := has_data hp.1 h1
    obtain ⟨y, m1, m2⟩ := has_data hp.2 h2
    exact ⟨(x, y), ⟨c1, c2, rfl, k1, m1⟩, k2, m2⟩
  | .ref _, d, cs, hp, h => by cases hp
  | .clo _ _, d, cs, hp, h => by cases hp
  | .slice e, d, cs, hp, h => by
    obtain ⟨v, cs', rfl, h1, h2⟩ := Has.cons h
    have := Has.nil h2; subst this
    cases d with
    | zero => exact h1.elim
    | succ d =>
      obtain ⟨A, n, c, rfl, g1, g2, g3, g4⟩ := One_sl.1 h1
      cases A with
      | none =>
        obtain ⟨rfl, rfl⟩ := g3 rfl
        exact ⟨[], ⟨none, 0, [], rfl, Nat.le_refl _, Nat.zero_le _, rfl, .inl rfl⟩, Nat.zero_le _, fun x hx => by cases hx⟩
      | some ad =>
        have key : ∀ m, m ≤ n → ∃ (xs : List e.den) (us : List Value), xs.length = m ∧ RepL (RepD w (fun p => p.block < w.heap.size) e) xs us ∧ (∀ x ∈ xs, Wf e x) ∧ us.length = m * e.size ∧ ∀ (j : Nat) u, us[j]? = some u → w.cell? (ad.add j) = some u := by
          intro m
          induction m with
          | zero => intro _; exact ⟨[], [], rfl, rfl, fun x hx => (by cases hx), by simp, fun j u hu => by simp at hu⟩
          | succ m ih =>
            intro hm
            obtain ⟨xs, us, e1, e2, e3, e4, e5⟩ := ih (by omega)
            obtain ⟨cs, k1, k2, k3⟩ := g4 ad rfl m (by omega)
            obtain ⟨x, q1, q2⟩ := has_data (T := e) (d := d) (cs := cs) hp ⟨k1, fun j ck u a b => k3 j ck u a b⟩
            refine ⟨xs ++ [x], us ++ cs, by simp [e1], RepL.append e2 ⟨cs, [], by simp, q1, rfl⟩, ?_, ?_, ?_⟩
            · intro y hy
              rcases List.mem_append.1 hy with hy | hy
              · exact e3 y hy
              · simp at hy; subst hy; exact q2
            · rw [List.length_append, e4, k1, flatTy_len, Nat.add_mul]; omega
            · intro j u hu
              by_cases hj : j < us.length
              · rw [List.getElem?_append_left hj] at hu
                exact e5 j u hu
              · rw [List.getElem?_append_right (by omega)] at hu
                have := k2 (j - us.length) u hu
                rw [flatTy_len] at this
                rw [← this]
                congr 2
                omega
        obtain ⟨xs, us, e1, e2, e3, e4, e5⟩ := key n (Nat.le_refl _)
        refine ⟨xs, ⟨some ad, c, us, by rw [e1], by rw [e1]; exact g1, g2, e2, .inr ⟨ad, rfl, fun j u hu => ⟨e5 j u hu, ?_⟩⟩⟩, by rw [e1]; exact Nat.le_trans g1 g2, e3⟩
        exact World.block_lt_of_cell? _ _ (e5 j u hu)

def argShape : Ty → TypeDesc → Bool
  | .pair _ _, .struct _ => true
  | .int _, .int _ => true
  | .bool, .bool => true
  | .str, .string => true
  | .slice _, .slice _ => true
  | _, _ => false
def ParamOK (P : Program) (t : TypeId) (T : Ty) : Prop := flat P 8 t = some (flatTy T) ∧ ((P.underlying t).map fun d => argShape T d && T.plain) = some true
theorem arg_data {P : Program} {w : World} {t : TypeId} {T : Ty} {v : Value} (hp : ParamOK P t T) (h : ArgIs P w t v) : ∃ x, ValD w (fun p => p.block < w.heap.size) T x v ∧ Wf T x := by
  obtain ⟨h1, h2⟩ := hp
  obtain ⟨d, hd, hs⟩ := Option.map_eq_some_iff.1 h2
  rw [Bool.and_eq_true] at hs
  obtain ⟨hs, hpl⟩ := hs
  obtain ⟨x, k1, k2⟩ := has_data hpl (h.1 8 _ h1)
  refine ⟨x, ?_, k2⟩
  have hc := k1.cells (hdr := fun _ => none)
  unfold ValD
  cases T <;> cases d <;> simp only [argShape, Bool.false_eq_true] at hs
  case pair.struct fs =>
    obtain ⟨cs, rfl⟩ := h.2.1 _ hd
    exact ⟨cs.toList, by simp, by simpa only [Value.cells] using hc⟩
  case int.int k k' =>
    have := h.2.2 (.inl ⟨k', hd⟩)
    rw [this] at hc; exact hc.1
  case bool.bool =>
    have := h.2.2 (.inr (.inl hd))
    rw [this] at hc; exact hc.1
  case str.string =>
    have := h.2.2 (.inr (.inr (.inl hd)))
    rw [this] at hc; exact hc.1
  case slice.slice e e' =>
    have := h.2.2 (.inr (.inr (.inr ⟨e', hd⟩)))
    rw [this] at hc; exact hc.1
def ParamsOK (P : Program) : List TypeId → List Ty → Prop
  | [], [] => True
  | t :: ts, T :: Ts => ParamOK P t T ∧ ParamsOK P ts Ts
  | _, _ => False
def WfAll : (Ts : List Ty) → Dens Ts → Prop
  | [], _ => True
  | [T], x => Wf T x
  | T :: U :: Ts, x => Wf T x.1 ∧ WfAll (U :: Ts) x.2
theorem args_data {P : Program} {w : World} : ∀ {ts : List TypeId} {Ts : List Ty} {vs : List Value}, ParamsOK P ts Ts → vs.length = ts.length → (∀ (j : Nat) t v, ts[j]? = some t → vs[j]? = some v → ArgIs P w t v) → ∃ x, RepArgs w (fun p => p.block < w.heap.size) Ts x vs ∧ WfAll Ts x
  | [], [], vs, _, hl, _ => ⟨(), List.eq_nil_of_length_eq_zero hl, trivial⟩
  | [], _ :: _, _, h, _, _ => h.elim
  | _ :: _, [], _, h, _, _ => h.elim
  | t :: ts, [T], vs, h, hl, ha => by
    have hts : ts = [] := by
      cases ts with
      | nil => rfl
      | cons _ _ => exact h.2.elim
    subst hts
    obtain ⟨v, rfl⟩ : ∃ v, vs = [v] := by
      match vs, hl with
      | [v], _ => exact ⟨v, rfl⟩
    obtain ⟨x, k1, k2⟩ := arg_data h.1 (ha 0 t v rfl rfl)
    exact ⟨x, ⟨v, rfl, k1⟩, k2⟩
  | t :: ts, T :: U :: Ts, vs, h, hl, ha => by
    obtain ⟨v, r, rfl⟩ : ∃ v r, vs = v :: r := by
      match vs, hl with
      | v :: r, _ => exact ⟨v, r, rfl⟩
    obtain ⟨x, k1, k2⟩ := arg_data h.1 (ha 0 t v rfl rfl)
    obtain ⟨y, m1, m2⟩ := args_data (ts := ts) (Ts := U :: Ts) (vs := r) h.2 (by simpa using hl) (fun j t v a b => ha (j + 1) t v (by simpa using a) (by simpa using b))
    exact ⟨(x, y), ⟨v, r, rfl, k1, m1⟩, k2, m2⟩

/-- The core of a law's row: handed what the types allow, it returns true and leaves memory alone. -/
theorem law_coreL {P : Program} {f : FuncId} {ps : Array TypeId} {dom : List Ty} {F : Dens dom → Option Bool} (hok : Con.ok P f ⟨dom, [.d .bool], F⟩) (hp : ParamsOK P ps.toList dom) (hF : ∀ x, WfAll dom x → F x = some true) (W : World) (args : Array Value) (hs : args.size = ps.size)
    (ha : ∀ (j : Nat) t v, ps[j]? = some t → args[j]? = some v → ArgIs P W t v) (hl : Laid W) : Calls P f args W fun e W' => e = .returned (.bool true) ∧ Below W.heap.size W W' := by
  obtain ⟨x, h1, h2⟩ := args_data (w := W) (vs := args.toList) hp (by simpa using hs) (fun j t v a b => ha j t v (by simpa using a) (by simpa using b))
  have := hok.2 W (fun p => p.block < W.heap.size) args.toList x true hl (fun _ h => h) h1 (hF x h2)
  rw [Array.toArray_toList] at this
  refine this.mono ?_
  rintro e W' ⟨rs, hs, M', rfl, hE, hR, _⟩
  obtain ⟨v, rfl, hS, hD, _⟩ := hR
  have hv : v.oneCell' = true := hS
  have hc : v.cells = #[v] := by cases v <;> first | rfl | (simp [Value.oneCell'] at hv)
  have hD' : v.cells.toList = [.bool true] := hD
  rw [hc] at hD'
  simp at hD'
  exact ⟨by rw [hD']; rfl, hE.below⟩
theorem law_core {P : Program} {f : FuncId} {ps : Array TypeId} {dom : List Ty} {F : Dens dom → Option Bool} (hok : Con.ok P f ⟨dom, [.d .bool], F⟩) (hp : ParamsOK P ps.toList dom) (hF : ∀ x, WfAll dom x → F x = some true) (W : World) (args : Array Value) (hs : args.size = ps.size)
    (ha : ∀ (j : Nat) t v, ps[j]? = some t → args[j]? = some v → ArgIs P W t v) : Calls P f args W fun e W' => e = .returned (.bool true) ∧ Below W.heap.size W W' :=
  law_coreL hok hp hF W args hs ha (laid_any W)
end Rx
end Go.Proofs.YthfgpnpoocepeaaGreat
