/- slices.Sort at int64, and slices.SortFunc at trains, as contracts over data. No conditions. -/
import Derived.Test.YthfgpnpoocepeaaGreatRxCompLaw
import Derived.Test.YthfgpnpoocepeaaGreatShelf
namespace Go.Proofs.YthfgpnpoocepeaaGreat
open Go.RowKit Go.Lib Go.Sort
namespace Rx

/-! ### The row that was sorted -/
theorem putCells_list {α : Type} [Inhabited α] (enc : α → Value) (d : Array α) (us : Array Value) (h : d.size ≤ us.size) : (Sort.putCells enc 0 d us).toList.take d.size = d.toList.map enc ∧ (Sort.putCells enc 0 d us).size = us.size := by
  unfold Sort.putCells
  refine ⟨List.ext_getElem? fun j => ?_, by simp⟩
  by_cases hj : j < d.size
  · rw [List.getElem?_take_of_lt hj]
    simp [Nat.lt_of_lt_of_le hj h, hj]
  · rw [List.getElem?_eq_none (by simp; omega), List.getElem?_eq_none (by simp; omega)]
/-- The world behind a sort. -/
structure Sorted (w : World) (g : Nat) (us : Array Value) (t : TypeId) (w' : World) : Prop where
  os : w'.os = w.os
  tape : w'.tape = w.tape
  output : w'.output = w.output
  size : w.heap.size ≤ w'.heap.size
  row : w'.heap[g]? = some (.cells us t (0, 0))
  oth : ∀ r, r ≠ g → r < w.heap.size → w'.heap[r]? = w.heap[r]?
  drawn : w.drawn ≤ w'.drawn
theorem sorted_world {α : Type} [Inhabited α] (enc : α → Value) {w : World} {g n : Nat} {d : Array α} {os : Array Obj} {us : Array Value} {t : TypeId} (hg : w.heap[g]? = some (.cells us t (0, 0))) :
    Sorted w g (Sort.putCells enc 0 d us) t (grow (putRow enc (Sort.ahead w n) g 0 d) os) := by
  have hlt : g < w.heap.size := (Array.getElem?_eq_some_iff.1 hg).1
  have hsz : (putRow enc (Sort.ahead w n) g 0 d).heap.size = w.heap.size := by simp
  have hh : ∀ r, r < w.heap.size → (grow (putRow enc (Sort.ahead w n) g 0 d) os).heap[r]? = (w.heap.modify g (onCells (Sort.putCells enc 0 d)))[r]? := fun r hr => by
    rw [heap_grow_old _ _ (by rw [hsz]; exact hr)]
    rfl
  refine ⟨rfl, rfl, rfl, by rw [size_grow, hsz]; omega, ?_, fun r hr hlt' => ?_, by show w.drawn ≤ w.drawn + n; omega⟩
  · rw [hh g hlt, Array.getElem?_modify, if_pos rfl, hg]
    rfl
  · rw [hh r hlt', Array.getElem?_modify, if_neg (fun e => hr e.symm)]
theorem Sorted.extW {w w' : World} {g : Nat} {us : Array Value} {t : TypeId} {ms : List Hd} {hl : Laid w} {hx : ∀ g, g ∈ gsOf ms → globs ≤ g} (h : Sorted w g us t w') (hg : g ∈ gsOf ms) : ExtW (lendW w ms hl hx) w' :=
  ⟨h.os, h.tape, h.output, h.size, fun k hk hx => h.oth k (fun e => hx (lendW_X.2 (by rw [e]; exact hg))) hk, h.drawn⟩
theorem Sorted.cell {w w' : World} {g : Nat} {us : Array Value} {t : TypeId} (h : Sorted w g us t w') {p : Addr} (hp : p.block ≠ g) (hlt : p.block < w.heap.size) : w'.cell? p = w.cell? p := by
  unfold World.cell?
  rw [h.oth _ hp hlt]
theorem one_cell {v : Value} (h : v.oneCell' = true) : v.cells = #[v] := by cases v <;> first | rfl | (simp [Value.oneCell'] at h)
theorem repl_ints {w : World} {M : Mem} {k : IntKind} : ∀ {xs : List Int} {vs : List Value}, RepL (RepD w M (.int k)) xs vs ↔ vs = xs.map (Value.int k)
  | [], vs => Iff.rfl
  | x :: xs, vs => by
    constructor
    · rintro ⟨v1, v2, rfl, h1, h2⟩
      have h1 : v1 = [Value.int k x] := h1
      rw [h1, repl_ints.1 h2]
      rfl
    · rintro rfl
      exact ⟨[.int k x], xs.map (Value.int k), rfl, rfl, repl_ints.2 rfl⟩
theorem holds_of {α : Type} [Inhabited α] (enc : α → Value) {w : World} {g : Nat} {us : Array Value} {t : TypeId} {d : List α} (hg : w.heap[g]? = some (.cells us t (0, 0))) (h : us.toList.take d.length = d.map enc) : Holds enc w g 0 d.toArray := by
  intro j hj
  have hj' : j < d.length := by simpa using hj
  rw [Nat.zero_add, heap_cell hg, heap_free hg]
  refine ⟨?_, rfl⟩
  have : (us.toList.take d.length)[j]? = (d.map enc)[j]? := by rw [h]
  rw [List.getElem?_take_of_lt hj', List.getElem?_map, List.getElem?_eq_getElem hj'] at this
  rw [← Array.getElem?_toList, this]
  simp [hj']

/-! ### Numbers -/
def leI (x y : Int) : Bool := decide (x ≤ y)
def sortI : List Int → Option (Unit × List Int) := fun xs => br (decide (xs.length ≤ 4294967296)) (some ((), xs.mergeSort leI)) none
def sortI_con : MCon := ⟨[.v (.row 2 (.int .i64))], [], sortI⟩
theorem sortI_ok : sortI_con.ok Tryz.prog 56 := by
  refine ⟨⟨Tryz.f56, _, Tryz.func56, by kernel_rfl, rfl⟩, fun w M vs ms (x : List Int) y (x' : List Int) hl hx hM hR hnd hF => ?_⟩
  obtain ⟨hlen, hF⟩ : x.length ≤ 4294967296 ∧ x' = x.mergeSort leI := by
    rcases br_some (show sortI x = some (y, x') from hF) with ⟨h1, h2⟩ | ⟨_, h2⟩
    · injection h2 with h2
      exact ⟨by simpa using h1, (congrArg Prod.snd h2).symm⟩
    · cases h2
  have hR0 := hR
  obtain ⟨v, rfl, hS, v1, gs, e1, e2, hB⟩ := hR
  have hv := one_cell (show v.oneCell' = true from hS)
  rw [hv] at e1
  obtain rfl : v = v1 := by simpa using e1
  have hMn : ∀ p, M p → p.block ∉ gsOf ms := fun p hp hm => by
    rw [e2, gsOf_one] at hm
    have := (hB.seen p hp hm).1
    cases this
  rcases hB with ⟨rfl, hv0, rfl⟩ | ⟨g, cap, us, hv0, rfl, _, k2, k3, k4, k5, k6, k7⟩
  · subst hv0
    have hx' : x' = [] := hF.trans List.mergeSort_nil
    subst hx'
    refine (Tryz.slices_Sort_int_none none 0 w).mono ?_
    rintro e w' ⟨rfl, rfl⟩
    refine ⟨[], [], ms, M, rfl, ExtW.ofExt (Ext.refl _), ⟨rfl, rfl⟩, hR0, by simp [gsOf_nil], ⟨?_, hnd⟩, fun p hp => ⟨.inl hp, hM p hp, by simp [gsOf_nil], hMn p hp⟩⟩
    rw [e2]; exact .one ⟨rfl, fun _ h => h⟩
  · subst hv0
    have hvs : us.toList.take x.length = x.map (Value.int .i64) := by
      have h : us.toList.take (x.length * 1) = x.map (Value.int .i64) := repl_ints.1 k6
      rwa [Nat.mul_one] at h
    have k5' : us.size = cap := by rw [k5]; exact Nat.mul_one _
    refine (Tryz.slices_Sort_int g 0 cap x w (holds_of (Value.int .i64) k2 hvs) (Array.getElem?_eq_some_iff.1 k2).1 (Nat.lt_of_le_of_lt hlen (by decide))).mono ?_
    rintro e w' ⟨rfl, n, os, rfl⟩
    have hS' := sorted_world (Value.int .i64) (n := n) (d := (x.mergeSort leI).toArray) (os := os) k2
    have hml : (x.mergeSort leI).length = x.length := List.length_mergeSort _
    obtain ⟨c1, c2⟩ := putCells_list (Value.int .i64) (x.mergeSort leI).toArray us (by show (x.mergeSort leI).length ≤ us.size; rw [hml, k5']; exact k3)
    have hgm : g ∈ gsOf ms := by rw [e2, gsOf_one]; simp
    have hcell : ∀ p, M p → p.block ≠ g := fun p hp e => hMn p hp (by rw [e]; exact hgm)
    subst hF
    refine ⟨[], [], ms, M, rfl, hS'.extW hgm, ⟨rfl, rfl⟩, ?_, by simp [gsOf_nil], ⟨?_, hnd⟩, fun p hp => ⟨.inl hp, Nat.lt_of_lt_of_le (hM p hp) hS'.size, by simp [gsOf_nil], hMn p hp⟩⟩
    · refine ⟨_, rfl, hS, _, [g], by rw [hv], e2, .inr ⟨g, cap, _, ?_, rfl, trivial, hS'.row, ?_, k4, ?_, ?_, fun p hp e => absurd e (hcell p hp)⟩⟩
      · show Value.slice (some ⟨g, 0, none⟩) x.length cap = .slice (some ⟨g, 0, none⟩) (x.mergeSort leI).length cap
        rw [hml]
      · show (x.mergeSort leI).length ≤ cap
        rw [hml]; exact k3
      · rw [c2]; exact k5
      · show RepL (RepD _ M (.int .i64)) (x.mergeSort leI) (List.take ((x.mergeSort leI).length * 1) _)
        rw [Nat.mul_one]
        exact repl_ints.2 c1
    · rw [e2]; exact .one ⟨rfl, fun _ h => h⟩

/-! ### Trains -/
theorem lexF_lt : ∀ (x y : List Int), (lexF x y < 0 ↔ x < y) ∧ (lexF x y = 0 → x = y) ∧ (0 < lexF x y ↔ y < x)
  | [], [] => by simp [lexF, lex2, cmpF]
  | [], b :: y => by
    have : lexF [] (b :: y) = -1 := by
      unfold lexF lex2 cmpF
      rw [if_pos (by simp only [List.length_nil, List.length_cons]; omega)]
    rw [this]
    simp
  | a :: x, [] => by
    have : lexF (a :: x) [] = 1 := by
      unfold lexF lex2 cmpF
      rw [if_neg (by simp only [List.length_nil, List.length_cons]; omega), if_pos (by simp only [List.length_nil, List.length_cons]; omega)]
    rw [this]
    simp
  | a :: x, b :: y => by
    obtain ⟨h1, h2, h3⟩ := lexF_lt x y
    rw [lexF_cons, List.cons_lt_cons_iff, List.cons_lt_cons_iff]
    unfold cmpF
    by_cases ha : a < b
    · rw [if_pos ha, if_pos (by decide)]
      refine ⟨by simp [ha], fun h => by omega, ?_⟩
      constructor
      · intro h; omega
      · rintro (h | ⟨h, _⟩) <;> omega
    · rw [if_neg ha]
      by_cases hb : b < a
      · rw [if_pos hb, if_pos (by decide)]
        refine ⟨?_, fun h => by omega, by simp [hb]⟩
        constructor
        · intro h; omega
        · rintro (h | ⟨h, _⟩) <;> omega
      · have e : a = b := by omega
        rw [if_neg hb, if_neg (by simp)]
        subst e
        refine ⟨by simp [h1], fun h => by rw [h2 h], by simp [h3]⟩
def trKey (a : List (Int × Int)) : List Int := sumF a :: flat a
def cmpT (a b : List (Int × Int)) : Int := lexF (trKey a) (trKey b)
/-- The order of trains. -/
def leT (a b : List (Int × Int)) : Bool := !decide (cmpT b a < 0)
theorem flat_inj : ∀ {a b : List (Int × Int)}, flat a = flat b → a = b
  | [], [], _ => rfl
  | [], y :: b, h => by simp [flat] at h
  | y :: a, [], h => by simp [flat] at h
  | y :: a, z :: b, h => by
    have h' : y.1 :: y.2 :: flat a = z.1 :: z.2 :: flat b := h
    simp only [List.cons.injEq] at h'
    rw [flat_inj h'.2.2, Prod.ext h'.1 h'.2.1]
theorem cmpT_lt {a b : List (Int × Int)} : cmpT a b < 0 ↔ trKey a < trKey b := (lexF_lt _ _).1
theorem cmpT_eq {a b : List (Int × Int)} (h : cmpT a b = 0) : a = b := by
  have := (lexF_lt _ _).2.1 h
  simp only [trKey, List.cons.injEq] at this
  exact flat_inj this.2
theorem cmpT_gt {a b : List (Int × Int)} : 0 < cmpT a b ↔ trKey b < trKey a := (lexF_lt _ _).2.2
theorem leT_iff {a b : List (Int × Int)} : leT a b = true ↔ ¬ trKey b < trKey a := by
  unfold leT
  simp [cmpT_lt]
theorem key_not {x y : List Int} (h : ¬ x < y) (h' : ¬ y < x) : x = y := by
  obtain ⟨h1, h2, h3⟩ := lexF_lt x y
  refine h2 ?_
  have a1 : ¬ lexF x y < 0 := fun e => h (h1.1 e)
  have a2 : ¬ 0 < lexF x y := fun e => h' (h3.1 e)
  omega
theorem leT_trans {a b c : List (Int × Int)} (h1 : leT a b = true) (h2 : leT b c = true) : leT a c = true := by
  rw [leT_iff] at *
  intro h
  by_cases e : trKey c < trKey b
  · exact h2 e
  · by_cases e' : trKey b < trKey c
    · exact h1 (List.lt_trans e' h)
    · rw [key_not e e'] at h
      exact h1 h
theorem leT_total (a b : List (Int × Int)) : (leT a b || leT b a) = true := by
  rw [Bool.or_eq_true, leT_iff, leT_iff]
  by_cases h : trKey b < trKey a
  · exact .inr (List.lt_asymm h)
  · exact .inl h
theorem leT_anti {a b : List (Int × Int)} (h1 : leT a b = true) (h2 : leT b a = true) : a = b := by
  rw [leT_iff] at h1 h2
  have := key_not h2 h1
  simp only [trKey, List.cons.injEq] at this
  exact flat_inj this.2
/-- Two ascending lists of the same trains are one list. -/
theorem sorted_one {l l' : List (List (Int × Int))} (hp : l.Perm l') (h1 : l.Pairwise fun a b => leT a b = true) (h2 : l'.Pairwise fun a b => leT a b = true) : l = l' :=
  List.Perm.eq_of_pairwise (le := fun a b => leT a b = true) (fun a b _ _ => leT_anti) h1 h2 hp

theorem leT_sorted (xs : List (List (Int × Int))) : (xs.mergeSort leT).Pairwise fun a b => leT a b = true :=
  List.pairwise_mergeSort (le := leT) (fun a b c h1 h2 => leT_trans (a := a) (b := b) (c := c) h1 h2) (fun a b => leT_total a b) xs
def sortTr : List (List (Int × Int)) × Unit → Option (Unit × (List (List (Int × Int)) × Unit)) := fun x =>
  br (decide (x.1.length ≤ 4294967296)) (br (x.1.all fun l => decide (l.length ≤ 4294967296)) (some ((), (x.1.mergeSort leT, ()))) none) none
def sortTr_con : MCon := ⟨[.v (.deep 28 (.row 64 (.pair (.int .i64) (.int .i64)))), .v (.d (.clo 31 .unit))], [], sortTr⟩

/-- An element of the row that is sorted: its slice, the train, the blocks it lies in. -/
structure El (w : World) (M : Mem) (t : TypeId) (G : List Nat) where
  v : Value
  xs : List (Int × Int)
  gs : List Nat
  rep : RowAt w M t (.pair (.int .i64) (.int .i64)) xs v gs
  sub : ∀ g ∈ gs, g ∈ G
  len : xs.length ≤ 4294967296
section
variable {w : World} {M : Mem} {t : TypeId} {G : List Nat}
theorem elems_of : ∀ {xs : List (List (Int × Int))} {vs : List Value} {gs : List Nat}, RepOL (RepO w M (.row t (.pair (.int .i64) (.int .i64)))) xs vs gs → (∀ g ∈ gs, g ∈ G) → (∀ x ∈ xs, x.length ≤ 4294967296) → ∃ d : List (El w M t G), d.map (·.v) = vs ∧ d.map (·.xs) = xs ∧ d.flatMap (·.gs) = gs
  | [], _, _, h, _, _ => ⟨[], h.1.symm, rfl, h.2.symm⟩
  | x :: xs, _, _, ⟨v1, v2, g1, g2, e1, e2, ⟨v, e3, h1⟩, h2⟩, hG, hl => by
    subst e1; subst e2; subst e3
    obtain ⟨d, d1, d2, d3⟩ := elems_of h2 (fun g hg => hG g (List.mem_append.2 (.inr hg))) (fun y hy => hl y (List.mem_cons_of_mem _ hy))
    exact ⟨⟨v, x, g1, h1, fun g hg => hG g (List.mem_append.2 (.inl hg)), hl x (by simp)⟩ :: d, by simp [d1], by simp [d2], by simp [d3]⟩
theorem of_elems {w' : World} {M' : Mem} (hc : ∀ p, M p → w'.cell? p = w.cell? p) (hM : ∀ p, M p → M' p) (hG : ∀ g ∈ G, w'.heap[g]? = w.heap[g]?) : ∀ (d : List (El w M t G)), RepOL (RepO w' M' (.row t (.pair (.int .i64) (.int .i64)))) (d.map (·.xs)) (d.map (·.v)) (d.flatMap (·.gs))
  | [] => ⟨rfl, rfl⟩
  | x :: d => ⟨[x.v], d.map (·.v), x.gs, d.flatMap (·.gs), rfl, by simp, ⟨x.v, rfl, x.rep.keep hc hM fun g hg => hG g (x.sub g hg)⟩, of_elems hc hM hG d⟩
theorem of_elems2 {w' : World} {M' : Mem} (hc : ∀ p, M p → w'.cell? p = w.cell? p) (hM : ∀ p, M p → M' p) (hG : ∀ g ∈ G, w'.heap[g]? = w.heap[g]?) (d : List (El w M t G)) {ys : List (List (Int × Int))} {vs : List Value} {gs : List Nat} (h1 : d.map (·.xs) = ys) (h2 : d.map (·.v) = vs) (h3 : d.flatMap (·.gs) = gs) :
    RepOL (RepO w' M' (.row t (.pair (.int .i64) (.int .i64)))) ys vs gs := by
  subst h1; subst h2; subst h3
  exact of_elems hc hM hG d
end
theorem ext_grow {w w' : World} (h : Ext w w') : ∃ q os, w' = grow (w.drewN q) os := by
  refine ⟨w'.drawn - w.drawn, w'.heap.extract w.heap.size w'.heap.size, ?_⟩
  have hd := h.drawn
  have hs := h.size
  cases w' with
  | mk heap tape drawn os output =>
    have e1 : tape = w.tape := h.tape
    have e2 : os = w.os := h.os
    have e3 : output = w.output := h.output
    subst e1; subst e2; subst e3
    unfold grow World.drewN
    dsimp only at hd hs ⊢
    congr 1
    · apply Array.ext_getElem?
      intro i
      by_cases hi : i < w.heap.size
      · rw [Array.getElem?_append_left hi]
        exact h.block i hi
      · rw [Array.getElem?_append_right (by omega), Array.getElem?_extract]
        by_cases hj : i < heap.size
        · rw [if_pos (by omega), show w.heap.size + (i - w.heap.size) = i by omega]
        · rw [if_neg (by omega), Array.getElem?_eq_none (by omega)]
    · omega
/-- What the sort asks of the order. -/
theorem tr_one {w : World} {M : Mem} {gi : List Nat} : OneCell (fun z : El w M 64 gi => z.v) := fun z => by
  show z.v.oneCell' = true
  rcases z.rep with ⟨_, h, _⟩ | ⟨_, _, _, h, _⟩ <;> rw [h] <;> rfl
theorem tr_swo {w : World} {M : Mem} {gi : List Nat} : SWO (ltOf fun a b : El w M 64 gi => cmpT a.xs b.xs) := by
  have key : ∀ a b : El w M 64 gi, ltOf (fun a b : El w M 64 gi => cmpT a.xs b.xs) a b = !leT b.xs a.xs := fun a b => by
    unfold ltOf leT
    simp
  refine ⟨fun a => ?_, fun a b c h1 h2 => ?_, fun a b c h1 h2 => ?_⟩
  · rw [key, Bool.not_eq_false', leT_iff]; exact List.lt_irrefl _
  · rw [key, Bool.not_eq_true', ← Bool.not_eq_true, leT_iff, Decidable.not_not] at *
    exact List.lt_trans h1 h2
  · rw [key, Bool.not_eq_false'] at *
    exact leT_trans h2 h1
theorem tr_cmp {w : World} {M : Mem} {g n : Nat} {us : Array Value} {t : TypeId} {gi : List Nat} [Inhabited (El w M 64 gi)] (hl : Laid w) (hgl : globs ≤ g) (hM : ∀ p, M p → p.block < w.heap.size) (k2 : w.heap[g]? = some (.cells us t (0, 0))) (hcell : ∀ p, M p → p.block ≠ g) (hgi : ∀ g' ∈ gi, g' ≠ g ∧ g' < w.heap.size) :
    CmpLays1 Tryz.prog 31 #[] (fun z : El w M 64 gi => z.v) (fun a b => cmpT a.xs b.xs) g 0 n w := by
  intro m os dk _ a b
  have hSW : Sorted w g _ _ (sortWorld (fun z : El w M 64 gi => z.v) w g 0 m dk os) := sorted_world (fun z : El w M 64 gi => z.v) (n := m) (d := dk) (os := os) k2
  generalize hW : sortWorld (fun z : El w M 64 gi => z.v) w g 0 m dk os = W1 at hSW ⊢
  have hld : Laid W1 := hl.keep hSW.size fun k hk => hSW.oth k (fun e => by
    omega) (Nat.lt_of_lt_of_le hk hl.1)
  -- the two trains as data
  have hdat : ∀ z : El w M 64 gi, RepD W1 (fun p => M p ∨ p.block ∈ gi) (.slice (.pair (.int .i64) (.int .i64))) z.xs [z.v] := fun z => by
    have hz := z.rep.keep (M' := fun p => M p ∨ p.block ∈ gi) (w' := W1) (fun p hp => hSW.cell (hcell p hp) (hM p hp)) (fun _ h => .inl h) fun g' hm => hSW.oth g' (hgi g' (z.sub g' hm)).1 (hgi g' (z.sub g' hm)).2
    rcases hz with ⟨q1, q2, _⟩ | ⟨g', cap', us', q1, q2, q3, q4, q5, q6, q7⟩
    · rw [q1, q2]
      exact ⟨none, 0, [], rfl, Nat.le_refl _, Nat.zero_le _, rfl, .inl rfl⟩
    · rw [q1]
      refine ⟨_, cap', _, rfl, q4, q5, q7, .inr ⟨_, rfl, fun j u hu => ?_⟩⟩
      rw [add_zero_block]
      refine ⟨?_, .inr (z.sub g' (by rw [q2]; simp))⟩
      rw [heap_cell q3]
      have hj := (List.getElem?_eq_some_iff.1 hu).1
      simp only [List.length_take] at hj
      rw [List.getElem?_take_of_lt (by omega)] at hu
      simpa using hu
  have hcon := cmpTrI_ok.2 W1 (fun p => M p ∨ p.block ∈ gi) [a.v, b.v] (a.xs, b.xs) (cmpT a.xs b.xs) hld (fun p hp => by
    rcases hp with hp | hp
    · exact Nat.lt_of_lt_of_le (hM p hp) hSW.size
    · exact Nat.lt_of_lt_of_le (hgi _ hp).2 hSW.size) ⟨a.v, [b.v], rfl, hdat a, b.v, rfl, hdat b⟩ (cmpTrI_eq a.len b.len)
  refine hcon.mono ?_
  rintro e w' ⟨rs, hs, M', rfl, hE, ⟨r, rfl, hSr, hr, _⟩, _⟩
  refine ⟨?_, ext_grow hE⟩
  have hr : r.cells.toList = [.int .i64 (cmpT a.xs b.xs)] := hr
  have : r = .int .i64 (cmpT a.xs b.xs) := by
    rw [one_cell (show r.oneCell' = true from hSr)] at hr
    simpa using hr
  rw [this]; rfl
theorem tr_fin {w : World} {M : Mem} {gi : List Nat} [Inhabited (El w M 64 gi)] {d : List (El w M 64 gi)} {d' : Array (El w M 64 gi)} {xs : List (List (Int × Int))} {n : Nat} (hn : d.length = n) (d2 : d.map (·.xs) = xs) (hp : PermIn 0 n d.toArray d') (hs : SortedIn (ltOf fun a b : El w M 64 gi => cmpT a.xs b.xs) 0 n d') :
    d'.toList.Perm d ∧ d'.size = n ∧ d'.toList.map (·.xs) = xs.mergeSort leT := by
  obtain ⟨p1, _, p3⟩ := hp
  have hsz : d'.size = n := by rw [p1, List.size_toArray, hn]
  have hd' : d'.toList.Perm d := by
    have a1 : d'.extract 0 n = d' := by rw [← hsz, Array.extract_size]
    have a2 : d.toArray.extract 0 n = d.toArray := by rw [← hn, ← List.size_toArray, Array.extract_size]
    rw [a1, a2] at p3
    exact p3
  have hperm : (d'.toList.map (·.xs)).Perm (xs.mergeSort leT) := by
    have h1 : (d'.toList.map (·.xs)).Perm (d.map (·.xs)) := hd'.map _
    rw [d2] at h1
    exact h1.trans (List.mergeSort_perm xs leT).symm
  have hpw : (xs.mergeSort leT).Pairwise fun a b => leT a b = true := leT_sorted xs
  have hpd : (d'.toList.map (·.xs)).Pairwise fun a b => leT a b = true := by
    refine List.pairwise_map.2 (List.pairwise_iff_getElem.2 fun i j hi hj hij => ?_)
    have hi' : i < d'.size := Array.length_toList (xs := d') ▸ hi
    have hj' : j < d'.size := Array.length_toList (xs := d') ▸ hj
    have := hs i j (Nat.zero_le _) hij (by omega)
    rw [getElem!_pos d' j hj', getElem!_pos d' i hi'] at this
    have h2 : ¬ cmpT d'[j].xs d'[i].xs < 0 := by
      unfold ltOf at this
      simpa using this
    rw [leT_iff, ← cmpT_lt]
    simpa only [Array.getElem_toList] using h2
  exact ⟨hd', hsz, sorted_one hperm hpd hpw⟩
theorem sortTr_ok : sortTr_con.ok Tryz.prog 30 := by
  refine ⟨⟨Tryz.f30, _, Tryz.func30, by kernel_rfl, rfl⟩, fun w M vs ms (x : List (List (Int × Int)) × Unit) y (x' : List (List (Int × Int)) × Unit) hl hx hM hR hnd hF => ?_⟩
  obtain ⟨hlen, hall, hF⟩ : x.1.length ≤ 4294967296 ∧ (∀ l ∈ x.1, l.length ≤ 4294967296) ∧ x' = (x.1.mergeSort leT, ()) := by
    rcases br_some (show sortTr x = some (y, x') from hF) with ⟨h1, h2⟩ | ⟨_, h2⟩
    · rcases br_some h2 with ⟨h3, h2⟩ | ⟨_, h2⟩
      · injection h2 with h2
        exact ⟨by simpa using h1, fun l hl => by simpa using List.all_eq_true.1 h3 l hl, (congrArg Prod.snd h2).symm⟩
      · cases h2
    · cases h2
  obtain ⟨xs, u⟩ := x
  dsimp only at hlen hall hF
  have hR0 := hR
  obtain ⟨v, r, h1, h2, rfl, hms, ⟨hS, v1, gs, e1, e2, hB⟩, v2, rfl, hS2, hD2, e3⟩ := hR
  rw [e3, List.append_nil] at hms
  subst hms
  have hv := one_cell (show v.oneCell' = true from hS)
  rw [hv] at e1
  obtain rfl : v = v1 := by simpa using e1
  have hv2 : v2 = .func (.func 31) #[] #[] := by
    have h0 := one_cell (show v2.oneCell' = true from hS2)
    rw [h0] at hD2
    obtain ⟨caps, q1, q2⟩ := hD2
    rcases q2 with ⟨_, q2⟩ | ⟨q2, _⟩
    · rw [q2] at q1
      simpa using q1
    · cases q2
  subst hv2
  have hMn : ∀ p, M p → p.block ∉ gsOf ms := fun p hp hm => by
    rw [e2, gsOf_one] at hm
    have := (hB.seen p hp hm).1
    cases this
  have same : xs = [] → ∀ {e : Ending} {w' : World}, e = .returned (.tuple #[]) ∧ w' = w → ∃ rs hs ms' M', e = .returned (retOf rs) ∧ ExtW (lendW w ms hl hx) w' ∧ RepRs (fun g => w.heap.size ≤ g) w' M' sortTr_con.cod y rs hs ∧ RepAs w' M' sortTr_con.dom x' [v, .func (.func 31) #[] #[]] ms' ∧ (gsOf hs).Nodup ∧
      (All2 (fun a b => a.1 = b.1 ∧ ∀ g ∈ a.2, g ∈ b.2) ms' ms ∧ (gsOf ms').Nodup) ∧ ∀ p, M' p → (M p ∨ w.heap.size ≤ p.block) ∧ p.block < w'.heap.size ∧ p.block ∉ gsOf hs ∧ p.block ∉ gsOf ms' := by
    rintro rfl e w' ⟨rfl, rfl⟩
    have hx' : x' = ([], ()) := by rw [hF, List.mergeSort_nil]
    subst hx'
    refine ⟨[], [], ms, M, rfl, ExtW.ofExt (Ext.refl _), ⟨rfl, rfl⟩, hR0, by simp [gsOf_nil], ⟨?_, hnd⟩, fun p hp => ⟨.inl hp, hM p hp, by simp [gsOf_nil], hMn p hp⟩⟩
    rw [e2]; exact .one ⟨rfl, fun _ h => h⟩
  rcases hB with ⟨h0, _, hv0, _⟩ | ⟨g, cap, us, gi, hv0, hgs, hgn, _, k2, k3, k4, k5, k6, k7⟩
  · subst hv0
    exact (Tryz.slices_SortFunc_none none 0 _ w).mono fun _ _ h => same h0 h
  · subst hv0
    by_cases hn : xs = []
    · have hc : xs.length = 0 := by rw [hn]; rfl
      have := Tryz.slices_SortFunc_none (some ⟨g, 0, none⟩) cap (.func (.func 31) #[] #[]) w
      rw [show Value.slice (some ⟨g, 0, none⟩) 0 cap = Value.slice (some ⟨g, 0, none⟩) xs.length cap by rw [hc]] at this
      exact this.mono fun _ _ h => same hn h
    have hsz : ∀ k : Nat, k * (RTy.row 64 (.pair (.int .i64) (.int .i64))).data.size = k := fun k => Nat.mul_one k
    have k6 : RepOL (RepO w M (.row 64 (.pair (.int .i64) (.int .i64)))) xs (us.toList.take xs.length) gi := by
      have k6' : RepOL (RepO w M (.row 64 (.pair (.int .i64) (.int .i64)))) xs (us.toList.take (xs.length * (RTy.row 64 (.pair (.int .i64) (.int .i64))).data.size)) gi := k6
      rwa [hsz] at k6'
    have k5' : us.size = cap := k5.trans (hsz cap)
    obtain ⟨d, d1, d2, d3⟩ := elems_of (G := gi) k6 (fun _ h => h) hall
    have hdl : d.length = xs.length := by rw [← d2, List.length_map]
    obtain ⟨d0, dr, hd0⟩ : ∃ d0 dr, d = d0 :: dr := by
      cases d with
      | nil => exact absurd (by rw [← d2]; rfl) hn
      | cons d0 dr => exact ⟨d0, dr, rfl⟩
    haveI : Inhabited (El w M 64 gi) := ⟨d0⟩
    have hglt : g < w.heap.size := (Array.getElem?_eq_some_iff.1 k2).1
    rw [hgs] at hgn e2
    have hgi : ∀ g' ∈ gi, g' ≠ g ∧ g' < w.heap.size := fun g' hm => ⟨fun e => (List.nodup_cons.1 hgn).1 (by rw [← e]; exact hm), RepOL.lt k6 g' hm⟩
    have hgm : ∀ g' ∈ g :: gi, g' ∈ gsOf ms := fun g' hm => by rw [e2, gsOf_one]; exact hm
    have hcell : ∀ p, M p → p.block ≠ g := fun p hp e => hMn p hp (by rw [e]; exact hgm g (by simp))
    have eg : ∀ args w, (callFunc 31 args).run Tryz.prog w = .ok (.enter 31 args) w := enters_of Tryz.func31 (by kernel_rfl) rfl
    have hcall := Tryz.slices_SortFunc (fun z : El w M 64 gi => z.v) tr_one (fun a b => cmpT a.xs b.xs) tr_swo 31 #[] g 0 cap d.toArray w eg (tr_cmp hl (hx g (hgm g (by simp))) hM k2 hcell hgi)
      (holds_of _ k2 (by rw [hdl]; exact d1.symm)) hglt (by rw [List.size_toArray, hdl]; exact Nat.lt_of_le_of_lt hlen (by decide))
    rw [List.size_toArray, hdl] at hcall
    refine hcall.mono ?_
    rintro e w' ⟨rfl, d', n, os, hp, hs, rfl⟩
    obtain ⟨hd', hdl', hfin⟩ := tr_fin hdl d2 hp hs
    have hS' := sorted_world (fun z : El w M 64 gi => z.v) (n := n) (d := d') (os := os) k2
    obtain ⟨c1, c2⟩ := putCells_list (fun z : El w M 64 gi => z.v) d' us (by rw [hdl', k5']; exact k3)
    have hgp : (d'.toList.flatMap (·.gs)).Perm gi := by
      have h := hd'.flatMap_right (fun x => x.gs)
      rwa [d3] at h
    have hml : (xs.mergeSort leT).length = xs.length := List.length_mergeSort _
    have hsubg : ∀ g' ∈ g :: d'.toList.flatMap (·.gs), g' ∈ g :: gi := fun g' hm => by
      rcases List.mem_cons.1 hm with rfl | hm
      · simp
      · exact List.mem_cons_of_mem _ (hgp.mem_iff.1 hm)
    subst hF
    have hrep := of_elems2 (w' := grow (putRow (fun z : El w M 64 gi => z.v) (Sort.ahead w n) g 0 d') os) (M' := M) (fun p hp => hS'.cell (hcell p hp) (hM p hp)) (fun _ h => h) (fun g' hm => hS'.oth g' (hgi g' hm).1 (hgi g' hm).2) d'.toList (vs := (Sort.putCells (fun z : El w M 64 gi => z.v) 0 d' us).toList.take xs.length) hfin (by rw [← c1, hdl']) rfl
    refine ⟨[], [], [(.slice (some ⟨g, 0, none⟩) xs.length cap, g :: d'.toList.flatMap (·.gs))], M, rfl, hS'.extW (hgm g (by simp)), ⟨rfl, rfl⟩, ?_, by simp [gsOf_nil], ⟨?_, ?_⟩, fun p hp => ⟨.inl hp, Nat.lt_of_lt_of_le (hM p hp) hS'.size, by simp [gsOf_nil], fun hm => hMn p hp (hgm _ (hsubg _ (by rw [gsOf_one] at hm; exact hm)))⟩⟩
    · refine ⟨_, _, [(.slice (some ⟨g, 0, none⟩) xs.length cap, g :: d'.toList.flatMap (·.gs))], [], rfl, by simp, ⟨hS, _, _, (by rw [hv]; rfl), rfl, .inr ⟨g, cap, _, _, ?_, rfl, ?_, fun _ _ => trivial, hS'.row, ?_, k4, by rw [c2]; exact k5, ?_, fun p hp hm => absurd (hgm _ (hsubg _ hm)) (hMn p hp)⟩⟩, _, rfl, hS2, ⟨#[], rfl, .inl ⟨rfl, rfl⟩⟩, rfl⟩
      · show Value.slice (some ⟨g, 0, none⟩) xs.length cap = .slice (some ⟨g, 0, none⟩) (xs.mergeSort leT).length cap
        rw [hml]
      · exact ((hgp.cons g).nodup_iff).2 hgn
      · show (xs.mergeSort leT).length ≤ cap
        rw [hml]; exact k3
      · show RepOL (RepO _ M (.row 64 (.pair (.int .i64) (.int .i64)))) (xs.mergeSort leT) (List.take ((xs.mergeSort leT).length * 1) _) _
        rw [Nat.mul_one, hml]
        exact hrep
    · rw [e2]; exact .one ⟨rfl, hsubg⟩
    · rw [gsOf_one]; exact ((hgp.cons g).nodup_iff).2 hgn
end Rx
end Go.Proofs.YthfgpnpoocepeaaGreat
