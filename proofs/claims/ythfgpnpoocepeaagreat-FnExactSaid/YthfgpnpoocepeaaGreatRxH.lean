/- The evaluator's slices of the call's own and calls are true of the program's. No conditions. -/
import Derived.Test.YthfgpnpoocepeaaGreatRxG
namespace Go.Proofs.YthfgpnpoocepeaaGreat
open Go.RowKit
namespace Rx

section
variable {P : Program} {W : WX} {M0 : Mem} {S : St} {hdr : Nat → Option Value} {inn : Nat → List Nat} {M : Mem} {a : Act} {w : World} {o : Oper} {e : Eff} {id : Nat} {E : Env}

/-- A new row. -/
theorem sound_row {t : TypeId} {et : Ty} {xs : List et.den} {vs : Array Value} {cap : Nat} {rd : List Nat} (h : Good W M0 S hdr inn M a w)
    (hr : (execOp a.eval o).run P w = .ok (.value (.slice (some ⟨w.heap.size, 0, none⟩) xs.length cap)) (w.alloc (.cells vs t)))
    (hc1 : xs.length ≤ cap) (hc2 : cap ≤ maxLen) (hc3 : vs.size = cap * et.size) (hL : RepL (RepD w M et) xs (vs.toList.take (xs.length * et.size))) (hid : isNew S.heap id = true) :
    Sound P W M0 S a w o ⟨.v (.one (.row id)), [(id, some (.row t et xs 0))], rd⟩ := by
  intro K Q hK
  have hE : Ext w (w.alloc (.cells vs t)) := Ext.alloc (Ext.refl w) _
  obtain ⟨hdr', inn', hg⟩ := h.fresh (dst := o.dst) (x := .v (.one (.row id))) (u := .slice (some ⟨w.heap.size, 0, none⟩) xs.length cap) (v0 := .slice (some ⟨w.heap.size, 0, none⟩) xs.length cap) (rd := rd) (gs := [w.heap.size]) (B := .row t et xs 0) hid
    (by show 0 < 2; decide) hE (fun g hg => by rw [List.mem_singleton] at hg; omega) (fun hdr' hh _ => .inr ⟨w.heap.size, cap, vs, rfl, rfl, .new h.ext.size (by decide), heap_alloc_new w _, hc1, hc2, hc3, hL.mono fun _ _ h' => h'.keep (fun p hp => hE.cell (h.ml p hp)) (fun _ h => h), fun p hp e => by have := h.ml p hp; omega⟩)
    (fun hdr' _ h0 => ⟨h0, _, _, _, rfl⟩)
  exact wp_val hr (hK _ _ ⟨_, _, _, hg⟩)
theorem RepBlk.rowAt {base : Nat → Nat → Prop} {t : TypeId} {e : Ty} {ys : List e.den} {fz : Nat} {v : Value} {gs : List Nat} (h : RepBlk w M hdr base (.row t e ys fz) v gs) : RowAt w M t e ys v gs := by
  rcases h with ⟨h1, h2, h3⟩ | ⟨g, cap, vs, e1, e2, h1, h2, h3, h4, h5, h6, h7⟩
  · exact .inl ⟨h1, h2, h3⟩
  · exact .inr ⟨g, cap, vs, e1, e2, h2, h3, h4, h5, h6⟩
theorem RepBlk.nodup {base : Nat → Nat → Prop} {B : Blk} {v : Value} {gs : List Nat} (h : RepBlk w M hdr base B v gs) : gs.Nodup := by
  cases B with
  | cells t cs fz => obtain ⟨g, vs, _, rfl, _⟩ := h; simp
  | row t e xs fz =>
    rcases h with ⟨_, _, rfl⟩ | ⟨g, cap, vs, _, rfl, _⟩ <;> simp
  | deep t T xs op fz =>
    rcases h with ⟨_, _, _, rfl⟩ | ⟨g, cap, vs, gi, _, _, hn, _⟩
    · simp
    · exact hn
  | obj o x fz => exact h.1.nodup
/-- The rows that are taken out of cells: what they are blocks of. -/
def Rows (H : Heap) (fz : Nat) (ids : List Nat) : Prop := ∀ b ∈ ids, ∃ B, lk H b = some (some B) ∧ B.fz = fz
theorem takeO_rep {H : Heap} {f : Nat → List Nat} {fz : Nat} (hH : ∀ b t e (xs : List (Ty.den e)) fz' v, lk H b = some (some (.row t e xs fz')) → hdr b = some v → RowAt w M t e xs v (f b)) : ∀ {T : RTy} {cs r : List Cell} {x : T.den} {ids : List Nat} {vs : List Value}, takeO H fz T cs = some (x, r, ids) → All2 (RepC w M hdr) cs vs →
    ∃ v1 v2, vs = v1 ++ v2 ∧ RepO w M T x v1 (ids.flatMap f) ∧ All2 (RepC w M hdr) r v2 ∧ Rows H fz ids
  | .d T, cs, r, x, ids, vs, hk, hc => by
    unfold takeO at hk
    obtain ⟨y, hy, hk⟩ := Option.map_eq_some_iff.1 hk
    cases hk
    exact ⟨vs.take T.size, vs.drop T.size, (List.take_append_drop _ _).symm, ⟨takeAll_nil hy hc.take, rfl⟩, hc.drop, fun b hb => by cases hb⟩
  | .row t e, cs, r, x, ids, vs, hk, hc => by
    unfold takeO at hk
    split at hk
    · cases hk
      obtain ⟨v, us, rfl, h1, h2⟩ := hc.cons'
      have hv : v = .slice none 0 0 := h1
      exact ⟨[v], us, rfl, ⟨v, rfl, .inl ⟨rfl, hv, rfl⟩⟩, h2, fun b hb => by cases hb⟩
    · rename_i b r'
      split at hk
      · rename_i t' e' xs fz' hb
        split at hk
        · rename_i he
          split at hk
          · rename_i ht
            cases hk
            obtain ⟨ht, hf⟩ := ht
            subst he; subst ht
            obtain ⟨v, us, rfl, h1, h2⟩ := hc.cons'
            have hb' := blkAt_some hb
            refine ⟨[v], us, rfl, ⟨v, rfl, ?_⟩, h2, fun b' hb'' => ?_⟩
            · have hr := hH b _ _ _ _ v hb' h1.1
              rw [show [b].flatMap f = f b by simp]
              exact hr
            · rw [List.mem_singleton] at hb''; subst hb''
              exact ⟨_, hb', hf⟩
          · cases hk
        · cases hk
      · cases hk
    · cases hk
  | .pair A B, cs, r, x, ids, vs, hk, hc => by
    unfold takeO at hk
    obtain ⟨y, hy, hk⟩ := Option.bind_eq_some_iff.1 hk
    obtain ⟨z, hz, hk⟩ := Option.bind_eq_some_iff.1 hk
    cases hk
    obtain ⟨v1, v2, rfl, a1, a2, a3⟩ := takeO_rep hH (x := y.1) (r := y.2.1) (ids := y.2.2) hy hc
    obtain ⟨v3, v4, rfl, b1, b2, b3⟩ := takeO_rep hH (x := z.1) (r := z.2.1) (ids := z.2.2) hz a2
    exact ⟨v1 ++ v3, v4, by simp, ⟨v1, v3, _, _, rfl, by rw [List.flatMap_append], a1, b1⟩, b2, fun b hb => (List.mem_append.1 hb).elim (a3 b) (b3 b)⟩
  | .box _ _, _, _, _, _, _, hk, _ => by unfold takeO at hk; cases hk
  | .deep _ _, _, _, _, _, _, hk, _ => by unfold takeO at hk; cases hk
theorem takeE_rep {H : Heap} {f : Nat → List Nat} {fz : Nat} (hH : ∀ b t e (xs : List (Ty.den e)) fz' v, lk H b = some (some (.row t e xs fz')) → hdr b = some v → RowAt w M t e xs v (f b)) {T : RTy} {cs : List Cell} {x : T.den} {ids : List Nat} {vs : List Value} (hk : takeE H fz T cs = some (x, ids)) (hc : All2 (RepC w M hdr) cs vs) :
    RepO w M T x vs (ids.flatMap f) ∧ Rows H fz ids := by
  unfold takeE at hk
  obtain ⟨y, hy, hk⟩ := Option.bind_eq_some_iff.1 hk
  split at hk
  · rename_i hr
    cases hk
    obtain ⟨v1, v2, rfl, h1, h2, h3⟩ := takeO_rep hH (x := y.1) (r := y.2.1) (ids := y.2.2) hy hc
    rw [hr] at h2
    cases h2.nil'
    exact ⟨by simpa using h1, h3⟩
  · cases hk
theorem takeE_nil {fz : Nat} {T : RTy} {cs : List Cell} {z : T.den × List Nat} {vs : List Value} (hk : takeE [] fz T cs = some z) (hc : All2 (RepC w M hdr) cs vs) : RepO w M T z.1 vs [] := by
  obtain ⟨h1, h2⟩ := takeE_rep (H := []) (f := fun _ => []) (x := z.1) (ids := z.2) (fun b t e xs fz' v hb => by cases hb) hk hc
  have : z.2.flatMap (fun _ => ([] : List Nat)) = [] := by simp
  rw [this] at h1; exact h1
theorem Good.rows (h : Good W M0 S hdr inn M a w) : ∀ b t e (xs : List (Ty.den e)) fz' v, lk S.heap b = some (some (.row t e xs fz')) → hdr b = some v → RowAt w M t e xs v (inn b) := by
  intro b t e xs fz' v hb hv
  obtain ⟨u, hu, hB⟩ := h.hp b _ hb
  rw [hv] at hu; cases hu
  exact hB.rowAt
theorem Good.nodupI (h : Good W M0 S hdr inn M a w) : ∀ {ids : List Nat}, ids.Nodup → (∀ b ∈ ids, ∃ B, lk S.heap b = some (some B)) → (ids.flatMap inn).Nodup
  | [], _, _ => by simp
  | b :: ids, hn, hB => by
    rw [List.flatMap_cons, List.nodup_append]
    have hn' := List.nodup_cons.1 hn
    obtain ⟨B, hb⟩ := hB b (by simp)
    obtain ⟨v, hv, hr⟩ := h.hp b B hb
    refine ⟨hr.nodup, h.nodupI hn'.2 fun c hc => hB c (by simp [hc]), fun g hg g' hg' e => ?_⟩
    subst e
    obtain ⟨c, hc, hgc⟩ := List.mem_flatMap.1 hg'
    obtain ⟨C, hC⟩ := hB c (by simp [hc])
    exact h.sep b c B C g (fun e => hn'.1 (by rw [e]; exact hc)) hb hC hg hgc
theorem lk_gone : ∀ (ids : List Nat) (H : Heap) (b : Nat), lk (setAll H (gone ids)) b = if b ∈ ids then some none else lk H b
  | [], H, b => by simp [gone, setAll]
  | c :: ids, H, b => by
    show lk (setAll ((c, none) :: H) (gone ids)) b = _
    rw [lk_gone ids, lk_cons]
    by_cases h : b ∈ ids
    · simp [h]
    · by_cases e : c = b
      · simp [e]
      · have : b ≠ c := fun e' => e e'.symm
        simp [h, e, this]

/-- A new deep row that takes rows over: they are gone by themselves. -/
theorem Good.merge {dst : Option Tmp} {v0 : Value} {rd ids rm gs : List Nat} {id : Nat} {B : Blk} {w' : World} (h : Good W M0 S hdr inn M a w) (hid : isNew S.heap id = true) (hrm : ∀ b ∈ rm, ∃ B, lk S.heap b = some (some B))
    (hE : ExtW W w') (hs : w.heap.size ≤ w'.heap.size) (hfz : B.fz = 0) (hv0 : ∃ A n c, v0 = .slice A n c)
    (hgs : ∀ g ∈ gs, (w.heap.size ≤ g) ∨ ∃ b ∈ rm, g ∈ inn b) (hoth : ∀ b C, lk S.heap b = some (some C) → b ∉ rm → ∀ g ∈ inn b, w'.heap[g]? = w.heap[g]?) (hc : ∀ p, M p → w'.cell? p = w.cell? p)
    (hB : ∀ hdr', (∀ b v, hdr b = some v → hdr' b = some v) → RepBlk w' M hdr' W.fresh B v0 gs) :
    ∃ hdr' inn', Good W M0 (S.app dst ⟨.v (.one (.row id)), gone rm ++ [(id, some B)], rd⟩) hdr' inn' M (a.put dst v0) w' := by
  have hn : lk S.heap id = none := by simpa [isNew] using hid
  have hne := h.un id hn
  have hh : ∀ b v, hdr b = some v → (fun b => if b = id then some v0 else hdr b) b = some v := fun b v hb => by
    have : b ≠ id := fun e => by rw [e, hne] at hb; cases hb
    simpa [this] using hb
  have hM : ∀ p, M p → M p := fun _ h => h
  have hl : ∀ b, lk (setAll S.heap (gone rm ++ [(id, some B)])) b = if id = b then some (some B) else if b ∈ rm then some none else lk S.heap b := fun b => by
    rw [setAll_append]
    simp only [setAll, lk_cons, lk_gone]
  have old : ∀ {b C}, lk (setAll S.heap (gone rm ++ [(id, some B)])) b = some (some C) → (b = id ∧ C = B) ∨ (b ≠ id ∧ b ∉ rm ∧ lk S.heap b = some (some C)) := by
    intro b C hb
    rw [hl] at hb
    split at hb
    · rename_i e; cases hb; exact .inl ⟨e.symm, rfl⟩
    · rename_i e
      split at hb
      · cases hb
      · rename_i e2; exact .inr ⟨fun e' => e e'.symm, e2, hb⟩
  refine ⟨fun b => if b = id then some v0 else hdr b, fun b => if b = id then gs else inn b, h.step hE hs hc hM hh (fun p hp => ⟨Nat.lt_of_lt_of_le (h.ml p hp) hs, h.mo p hp⟩) ?_ ?_ ?_ ⟨by simp, hv0⟩⟩
  · intro b hb
    rw [hl] at hb
    split at hb
    · cases hb
    · rename_i e
      split at hb
      · cases hb
      · have : b ≠ id := fun e' => e e'.symm
        simp [this, h.un b hb]
  · intro b C hb
    rcases old hb with ⟨rfl, rfl⟩ | ⟨e, e2, hb⟩
    · exact ⟨⟨v0, by simp, by simpa using hB _ hh⟩, fun hf => by omega⟩
    · obtain ⟨v, hv, hr⟩ := h.hp b C hb
      simp only [e, if_false]
      exact ⟨⟨v, hv, hr.keep hc hM hh fun g hg => ⟨hoth b C hb e2 g hg, fun p hp _ => hp⟩⟩, h.ag b C hb⟩
  · have lt : ∀ {b C g}, lk S.heap b = some (some C) → g ∈ inn b → g < w.heap.size := fun hb hg => by
      obtain ⟨v, hv, hr⟩ := h.hp _ _ hb
      exact (hr.lt hg).1
    have main : ∀ {b C g}, lk S.heap b = some (some C) → b ∉ rm → g ∈ inn b → g ∉ gs := fun {b C g} hb hbm hg hg' => by
      rcases hgs g hg' with h1 | ⟨c, hc, h1⟩
      · have := lt hb hg; omega
      · obtain ⟨D, hD⟩ := hrm c hc
        exact h.sep b c C D g (fun e => hbm (by rw [e]; exact hc)) hb hD hg h1
    intro b b' C C' g hbb hb hb' hg
    rcases old hb with ⟨rfl, rfl⟩ | ⟨e, e2, hb0⟩
    · rcases old hb' with ⟨rfl, rfl⟩ | ⟨e', e2', hb0'⟩
      · exact absurd rfl hbb
      · simp only [if_true] at hg
        simp only [e', if_false]
        exact fun hg' => main hb0' e2' hg' hg
    · simp only [e, if_false] at hg
      rcases old hb' with ⟨rfl, rfl⟩ | ⟨e', e2', hb0'⟩
      · simp only [if_true]
        exact main hb0 e2 hg
      · simp only [e', if_false]
        exact h.sep b b' C C' g hbb hb0 hb0' hg

/-- A new deep row. -/
theorem sound_deep {t : TypeId} {T : RTy} {xs : List T.den} {vs : Array Value} {cap : Nat} {rd : List Nat} (h : Good W M0 S hdr inn M a w)
    (hr : (execOp a.eval o).run P w = .ok (.value (.slice (some ⟨w.heap.size, 0, none⟩) xs.length cap)) (w.alloc (.cells vs t)))
    (hc1 : xs.length ≤ cap) (hc2 : cap ≤ maxLen) (hc3 : vs.size = cap * T.data.size) (hL : RepOL (RepO w M T) xs (vs.toList.take (xs.length * T.data.size)) []) (hid : isNew S.heap id = true) :
    Sound P W M0 S a w o ⟨.v (.one (.row id)), [(id, some (.deep t T xs none 0))], rd⟩ := by
  intro K Q hK
  have hE : Ext w (w.alloc (.cells vs t)) := Ext.alloc (Ext.refl w) _
  obtain ⟨hdr', inn', hg⟩ := h.fresh (dst := o.dst) (x := .v (.one (.row id))) (u := .slice (some ⟨w.heap.size, 0, none⟩) xs.length cap) (v0 := .slice (some ⟨w.heap.size, 0, none⟩) xs.length cap) (rd := rd) (gs := [w.heap.size]) (B := .deep t T xs none 0) hid
    (by show 0 < 2; decide) hE (fun g hg => by rw [List.mem_singleton] at hg; omega) (fun hdr' hh _ => .inr ⟨w.heap.size, cap, vs, [], rfl, rfl, by simp, fun g hg => by rw [List.mem_singleton] at hg; exact .new (by rw [hg]; exact h.ext.size) (by decide), heap_alloc_new w _, hc1, hc2, hc3,
      RepOL.mono (fun x vs gs' hg' h' => RepO.keep (fun p hp => hE.cell (h.ml p hp)) (fun _ h => h) (fun g hm => by cases hg' g hm) h') hL, fun p hp e => by rw [List.mem_singleton] at e; have := h.ml p hp; omega⟩)
    (fun hdr' _ h0 => ⟨h0, _, _, _, rfl⟩)
  exact wp_val hr (hK _ _ ⟨_, _, _, hg⟩)

theorem made_list (z : Array Value) : ∀ (n : Nat), (madeCells z (n * z.size)).toList = (List.replicate n z.toList).flatten := by
  intro n
  apply List.ext_getElem
  · simp [madeCells]
  · intro i h1 h2
    have hi : i < n * z.size := by simpa [madeCells] using h1
    have hz : 0 < z.size := by
      rcases Nat.eq_zero_or_pos z.size with h | h
      · rw [h] at hi; simp at hi
      · exact h
    have e1 : (madeCells z (n * z.size)).toList[i] = z[i % z.size]'(Nat.mod_lt _ hz) := by
      simp [madeCells, Nat.mod_lt _ hz]
    rw [e1]
    have key : ∀ (n i : Nat) (h : i < (List.replicate n z.toList).flatten.length), (List.replicate n z.toList).flatten[i] = z[i % z.size]'(Nat.mod_lt _ hz) := by
      intro n
      induction n with
      | zero => intro i h; simp at h
      | succ n ih =>
        intro i h
        simp only [List.replicate_succ, List.flatten_cons]
        by_cases hlt : i < z.size
        · rw [List.getElem_append_left (by simpa using hlt)]
          simp [Nat.mod_eq_of_lt hlt]
        · rw [List.getElem_append_right (by simpa using hlt)]
          have := ih (i - z.size) (by simp [List.replicate_succ] at h ⊢; omega)
          simp only [Array.length_toList]
          rw [this]
          congr 1
          rw [← Nat.mod_eq_sub_mod (by omega)]
    exact (key n i h2).symm

theorem sound_make {t : TypeId} {x y : Operand} (h : Good W M0 S hdr inn M a w) (htab : ∀ t i, E.tab.lookup t = some i → TIOK P t i) (ho : o.op = .makeSlice t x y) (hk : opK E o.op id S some = some e) : Sound P W M0 S a w o e := by
  rw [ho] at hk
  simp only [opK] at hk
  split at hk
  · rename_i i n m hi hn hm
    have hn' := intOf_rep h hn
    have hm' := intOf_rep h hm
    split at hk
    · rename_i et hd
      split at hk
      · rename_i ei hei
        have hu := (htab _ _ hi).slice hd
        have hT := htab _ _ hei
        obtain ⟨info, zv, g1, g2, g3, g4, g5, g6, g7⟩ := hT.info
        have hby := hT.byt
        have run : 0 ≤ n → n ≤ 1048576 → n = m → (execOp a.eval o).run P w = .ok (.value (.slice (some ⟨w.heap.size, 0, none⟩) n.toNat n.toNat)) (w.alloc (.cells (madeCells zv.cells (n.toNat * info.size)) et)) := by
          intro h0 h2 h1
          subst h1
          have hbb : (info.bytes : Int) * n ≤ 281474976710656 := by
            have : (info.bytes : Int) ≤ 32768 := by omega
            have := Int.mul_le_mul this h2 h0 (by omega)
            omega
          have hr := run_make (P := P) w t et info zv hu g1 g4 .i64 .i64 n n h0 (Int.le_refl _) hbb (by omega)
          simp [execOp, ho, hn', hm', hr]
        split at hk
        · split at hk
          · rename_i z hz
            obtain ⟨hid, hk⟩ := chk_some hk
            rcases br_some hk with ⟨hb, hk⟩ | ⟨hb, hk⟩
            · cases hk
              obtain ⟨h0, h1, h2⟩ : 0 ≤ n ∧ n = m ∧ n ≤ 1048576 := by simpa using hb
              have hr := run h0 h2 h1
              have hzd := takeAll_nil (w := w) (M := M) (hdr := hdr) hz (constC g6)
              have hsz : zv.cells.size = ei.ty.size := by rw [hT.tsz]; exact g5
              refine sound_row h (vs := madeCells zv.cells (n.toNat * info.size)) (cap := n.toNat) (by rw [List.length_replicate]; exact hr) (by simp) ?_ ?_ ?_ hid
              · simp only [maxLen]; omega
              · rw [size_madeCells, g2, ← hT.tsz]
              · rw [List.length_replicate, List.take_of_length_le (by rw [Array.length_toList, size_madeCells, g2, hT.tsz]; exact Nat.le_refl _), g2, ← g5, made_list]
                exact RepL.replicate hzd _
            · cases hk
          · cases hk
        · rename_i T hTe
          split at hk
          · rename_i z hz
            obtain ⟨hid, hk⟩ := chk_some hk
            rw [Bool.and_eq_true, decide_eq_true_eq] at hid
            obtain ⟨hid, hts⟩ := hid
            rcases br_some hk with ⟨hb, hk⟩ | ⟨hb, hk⟩
            · cases hk
              obtain ⟨h0, h1, h2⟩ : 0 ≤ n ∧ n = m ∧ n ≤ 1048576 := by simpa using hb
              have hr := run h0 h2 h1
              have hzd := takeE_nil (w := w) (M := M) (hdr := hdr) hz (constC g6)
              have hsz : zv.cells.size = T.data.size := by rw [hts]; exact g5
              refine sound_deep h (vs := madeCells zv.cells (n.toNat * info.size)) (cap := n.toNat) (by rw [List.length_replicate]; exact hr) (by simp) ?_ ?_ ?_ hid
              · simp only [maxLen]; omega
              · rw [size_madeCells, g2, ← hts]
              · rw [List.length_replicate, List.take_of_length_le (by rw [Array.length_toList, size_madeCells, g2, hts]; exact Nat.le_refl _), g2, ← g5, made_list]
                exact RepOL.replicate hzd _
            · cases hk
          · cases hk
      · cases hk
    · cases hk
  · cases hk

theorem fill_seq {et : Ty} {size : Nat} (hsz : et.size = size) : ∀ {n : Nat} {ps : List (Nat × AV)} {us : List (Nat × Value)} {xs : List et.den} {pre rest : List Value}, partsD et n ps = some xs →
    All2 (fun p u => p.1 = u.1 ∧ RepAV w M hdr p.2 u.2) ps us → pre.length = n * size → rest.length = xs.length * size →
    ∃ cs, Instr.fill (fun i => some (i * size, size)) (pre ++ rest).toArray us = some (pre ++ cs).toArray ∧ RepL (RepD w M et) xs cs
  | n, [], us, xs, pre, rest, hp, hA, h1, h2 => by
    simp only [partsD] at hp
    cases hp
    cases hA.nil'
    have : rest = [] := List.eq_nil_of_length_eq_zero (by simpa using h2)
    subst this
    exact ⟨[], by simp [Instr.fill], rfl⟩
  | n, (i, x) :: ps, us, xs, pre, rest, hp, hA, h1, h2 => by
    obtain ⟨u, r, rfl, ⟨hi, hx⟩, hr⟩ := hA.cons'
    obtain ⟨j, u⟩ := u
    simp only at hi; subst hi
    cases x with
    | undef => simp [partsD] at hp
    | tup _ => simp [partsD] at hp
    | v x =>
      simp only [partsD] at hp
      split at hp
      · rename_i hin
        subst hin
        obtain ⟨d, hd, hp⟩ := Option.bind_eq_some_iff.1 hp
        obtain ⟨ds, hds, hp⟩ := Option.bind_eq_some_iff.1 hp
        cases hp
        have hD := takeAll_nil hd (RepV1.cells hx)
        have hl := RepD.len hD
        have hul : u.cells.size = size := by rw [← hsz, ← hl]; simp
        simp only [List.length_cons, Nat.add_mul, Nat.one_mul] at h2
        obtain ⟨cs, k1, k2⟩ := fill_seq hsz (pre := pre ++ u.cells.toList) (rest := rest.drop size) hds hr (by simp [h1, hul, Nat.add_mul]) (by simp; omega)
        refine ⟨u.cells.toList ++ cs, ?_, u.cells.toList, cs, rfl, hD, k2⟩
        have ef := foldl_set (pre.length) u.cells.toList 0 (pre ++ rest).toArray (by simp [hul]; omega)
        have ea : u.cells.zipIdx.foldl (fun cs (c, j) => cs.setIfInBounds (i * size + j) c) (pre ++ rest).toArray = (pre ++ u.cells.toList ++ rest.drop size).toArray := by
          rw [← Array.foldl_toList, Array.toList_zipIdx, ← h1]
          have := ef
          simp only [Nat.add_zero] at this
          rw [this]
          congr 1
          simp [List.drop_append, hul]
        have hb : (u.cells.size ≠ size || decide (i * size + u.cells.size > (pre ++ rest).toArray.size)) = false := by
          simp [hul]; omega
        simp only [Instr.fill, hb, ea]
        simpa using k1
      · cases hp

theorem fill_seqO {H : Heap} {f : Nat → List Nat} {T : RTy} {size : Nat} (hsz : T.data.size = size) (hH : ∀ b t e (xs : List (Ty.den e)) fz' v, lk H b = some (some (.row t e xs fz')) → hdr b = some v → RowAt w M t e xs v (f b)) : ∀ {n : Nat} {ps : List (Nat × AV)} {us : List (Nat × Value)} {xs : List T.den} {ids : List Nat} {pre rest : List Value}, partsO H T n ps = some (xs, ids) →
    All2 (fun p u => p.1 = u.1 ∧ RepAV w M hdr p.2 u.2) ps us → pre.length = n * size → rest.length = xs.length * size →
    ∃ cs, Instr.fill (fun i => some (i * size, size)) (pre ++ rest).toArray us = some (pre ++ cs).toArray ∧ RepOL (RepO w M T) xs cs (ids.flatMap f) ∧ Rows H 0 ids
  | n, [], us, xs, ids, pre, rest, hp, hA, h1, h2 => by
    simp only [partsO] at hp
    cases hp
    cases hA.nil'
    have : rest = [] := List.eq_nil_of_length_eq_zero (by simpa using h2)
    subst this
    exact ⟨[], by simp [Instr.fill], ⟨rfl, rfl⟩, fun b hb => by cases hb⟩
  | n, (i, x) :: ps, us, xs, ids, pre, rest, hp, hA, h1, h2 => by
    obtain ⟨u, r, rfl, ⟨hi, hx⟩, hr⟩ := hA.cons'
    obtain ⟨j, u⟩ := u
    simp only at hi; subst hi
    cases x with
    | undef => simp [partsO] at hp
    | tup _ => simp [partsO] at hp
    | v x =>
      simp only [partsO] at hp
      split at hp
      · rename_i hin
        subst hin
        obtain ⟨d, hd, hp⟩ := Option.bind_eq_some_iff.1 hp
        obtain ⟨ds, hds, hp⟩ := Option.bind_eq_some_iff.1 hp
        cases hp
        obtain ⟨hD, hRd⟩ := takeE_rep hH (x := d.1) (ids := d.2) hd (RepV1.cells hx)
        have hl := RepO.len hD
        have hul : u.cells.size = size := by rw [← hsz, ← hl]; simp
        simp only [List.length_cons, Nat.add_mul, Nat.one_mul] at h2
        obtain ⟨cs, k1, k2, k3⟩ := fill_seqO hsz hH (xs := ds.1) (ids := ds.2) (pre := pre ++ u.cells.toList) (rest := rest.drop size) hds hr (by simp [h1, hul, Nat.add_mul]) (by simp; omega)
        refine ⟨u.cells.toList ++ cs, ?_, ⟨u.cells.toList, cs, _, _, rfl, by rw [List.flatMap_append], hD, k2⟩, fun b hb => (List.mem_append.1 hb).elim (hRd b) (k3 b)⟩
        have ef := foldl_set (pre.length) u.cells.toList 0 (pre ++ rest).toArray (by simp [hul]; omega)
        have ea : u.cells.zipIdx.foldl (fun cs (c, j) => cs.setIfInBounds (i * size + j) c) (pre ++ rest).toArray = (pre ++ u.cells.toList ++ rest.drop size).toArray := by
          rw [← Array.foldl_toList, Array.toList_zipIdx, ← h1]
          have := ef
          simp only [Nat.add_zero] at this
          rw [this]
          congr 1
          simp [List.drop_append, hul]
        have hb : (u.cells.size ≠ size || decide (i * size + u.cells.size > (pre ++ rest).toArray.size)) = false := by
          simp [hul]; omega
        simp only [Instr.fill, hb, ea]
        simpa using k1
      · cases hp

theorem sound_buildSlice {t : TypeId} {n : Nat} {ps : Array (Nat × Operand)} (h : Good W M0 S hdr inn M a w) (htab : ∀ t i, E.tab.lookup t = some i → TIOK P t i) (ho : o.op = .buildSlice t n ps) (hk : opK E o.op id S some = some e) : Sound P W M0 S a w o e := by
  rw [ho] at hk
  simp only [opK] at hk
  split at hk
  · rename_i i hi
    split at hk
    · rename_i et hd
      split at hk
      · rename_i ei hei
        have hdata : (match partsD ei.ty 0 (ps.toList.map fun p => (p.1, S.ev p.2)) with
            | some xs => if xs.length = n ∧ n ≤ 65536 then chk (isNew S.heap id) (some (⟨.v (.one (.row id)), [(id, some (.row et ei.ty xs 0))], [id]⟩ : Eff)) else none
            | none => none) = some e → Sound P W M0 S a w o e := by
          intro hk
          split at hk
          · rename_i xs hxs
            split at hk
            · rename_i hn
              obtain ⟨hid, hk⟩ := chk_some hk
              cases hk
              obtain ⟨hlen, hn⟩ := hn
              have hu := (htab _ _ hi).slice hd
              have hT := htab _ _ hei
              obtain ⟨info, zv, g1, g2, g3, g4, g5, g6, g7⟩ := hT.info
              have hpos := hT.pos
              have hbl : n * info.size = xs.length * ei.size := by rw [g2, hlen]
              obtain ⟨cs, k1, k2⟩ := fill_seq (et := ei.ty) (size := ei.size) (n := 0) (pre := []) (rest := ((Array.range (n * info.size)).map (zv.cells[· % zv.cells.size]!)).toList) hT.tsz hxs (parts_rep h ps.toList) (by simp) (by simp [hbl])
              have hcl := RepL.len (fun x vs h => RepD.len h) k2
              rw [hT.tsz] at hcl
              by_cases hz : n * info.size = 0
              · have hxe : xs = [] := by
                  apply List.eq_nil_of_length_eq_zero
                  rw [hbl] at hz
                  rcases Nat.mul_eq_zero.1 hz with h | h <;> omega
                subst hxe
                simp at hlen; subst hlen
                have hce : cs = [] := k2
                subst hce
                refine sound_row h (vs := #[]) (cap := 0) ?_ (by simp) (by simp) (by simp) (by simp [RepL]) hid
                have hps : Instr.fill (fun i => some (i * ei.size, ei.size)) #[] (ps.map fun p => (p.1, a.eval p.2)).toList = some #[] := by
                  simpa [Array.range_zero'] using k1
                simp at hps
                simp [execOp, ho, Instr.buildSlice, run_underlying hu, hT.size, Array.range_zero', hps, newRow]
              · have hsm : ¬ n * info.size > 2 ^ 24 := by
                  have h1 := hT.siz
                  rw [← g2] at h1
                  have := Nat.mul_le_mul hn h1
                  omega
                have hrun := run_buildSlice (P := P) w t et n (ps.map fun p => (p.1, a.eval p.2)) cs.toArray info zv hu g1 g4 hsm hz (by
                  rw [g2]; rw [g2, List.nil_append, List.nil_append, Array.toArray_toList] at k1; rw [Array.toList_map]; exact k1)
                refine sound_row h (vs := cs.toArray) (cap := n) ?_ (by omega) (by simp only [maxLen]; omega) ?_ ?_ hid
                · rw [hlen]
                  simp [execOp, ho, hrun]
                · rw [← hlen, hT.tsz]; simpa using hcl
                · rw [hT.tsz, ← hcl, List.take_of_length_le (by simp)]
                  exact k2
            · cases hk
          · cases hk
        split at hk
        rotate_left
        · rename_i T hTe
          split at hk
          rotate_left
          · exact hdata hk
          · skip
            split at hk
            · rename_i xs hxs
              split at hk
              · rename_i hn
                obtain ⟨hid, hk⟩ := chk_some hk
                cases hk
                rw [Bool.and_eq_true] at hid
                obtain ⟨hid, hnd⟩ := hid
                obtain ⟨hlen, hn, hts⟩ := hn
                have hu := (htab _ _ hi).slice hd
                have hT := htab _ _ hei
                obtain ⟨info, zv, g1, g2, g3, g4, g5, g6, g7⟩ := hT.info
                have hpos := hT.pos
                have hbl : n * info.size = xs.1.length * ei.size := by rw [g2, hlen]
                obtain ⟨cs, k1, k2, k3⟩ := fill_seqO (T := T) (size := ei.size) (n := 0) (xs := xs.1) (ids := xs.2) (pre := []) (rest := ((Array.range (n * info.size)).map (zv.cells[· % zv.cells.size]!)).toList) hts h.rows hxs (parts_rep h ps.toList) (by simp) (by simp [hbl])
                have hcl := RepOL.len (fun x vs gs h => RepO.len h) k2
                rw [hts] at hcl
                have hE : ∀ C : Obj, Ext w (w.alloc C) := fun C => Ext.alloc (Ext.refl w) _
                have hBs : ∀ b ∈ xs.2, ∃ B, lk S.heap b = some (some B) := fun b hb => by
                  obtain ⟨B, h1, _⟩ := k3 b hb; exact ⟨B, h1⟩
                have hni := h.nodupI (noDup_spec hnd) hBs
                have lt : ∀ g ∈ xs.2.flatMap inn, g < w.heap.size ∧ W.fresh 0 g ∧ ∀ p, M p → p.block ≠ g := fun g hg => by
                  obtain ⟨b, hb, hgb⟩ := List.mem_flatMap.1 hg
                  obtain ⟨B, h1, h2⟩ := k3 b hb
                  obtain ⟨v, hv, hr⟩ := h.hp b B h1
                  obtain ⟨l1, l2⟩ := hr.lt hgb
                  rw [h2] at l2
                  refine ⟨l1, l2, fun p hp e => ?_⟩
                  have := (hr.seen p hp (by rw [e]; exact hgb)).1
                  omega
                have fin : ∀ (vs : Array Value) (cap : Nat), (execOp a.eval o).run P w = .ok (.value (.slice (some ⟨w.heap.size, 0, none⟩) xs.1.length cap)) (w.alloc (.cells vs et)) → xs.1.length ≤ cap → cap ≤ maxLen → vs.size = cap * T.data.size → vs.toList.take (xs.1.length * T.data.size) = cs →
                    Sound P W M0 S a w o ⟨.v (.one (.row id)), gone xs.2 ++ [(id, some (.deep et T xs.1 none 0))], id :: xs.2⟩ := by
                  intro vs cap hr c1 c2 c3 c4 K Q hK
                  obtain ⟨hdr', inn', hg⟩ := h.merge (dst := o.dst) (v0 := .slice (some ⟨w.heap.size, 0, none⟩) xs.1.length cap) (rd := id :: xs.2) (ids := []) (rm := xs.2) (gs := w.heap.size :: xs.2.flatMap inn) (B := .deep et T xs.1 none 0) hid hBs (h.ext.trans (hE (.cells vs et))) (hE _).size rfl ⟨_, _, _, rfl⟩
                    (fun g hg => by
                      rcases List.mem_cons.1 hg with rfl | hg
                      · exact .inl (Nat.le_refl _)
                      · obtain ⟨b, hb, hgb⟩ := List.mem_flatMap.1 hg
                        exact .inr ⟨b, hb, hgb⟩)
                    (fun b C hb _ g hg => by
                      obtain ⟨v, hv, hr⟩ := h.hp b C hb
                      exact (hE _).block g (hr.lt hg).1)
                    (fun p hp => (hE _).cell (h.ml p hp))
                    (fun hdr' hh => .inr ⟨w.heap.size, cap, vs, xs.2.flatMap inn, rfl, rfl, List.nodup_cons.2 ⟨fun hm => by have := (lt _ hm).1; omega, hni⟩, fun g hg => by
                      rcases List.mem_cons.1 hg with rfl | hg
                      · exact .new h.ext.size (by decide)
                      · exact (lt g hg).2.1, heap_alloc_new w _, c1, c2, c3, by
                      rw [c4]
                      exact RepOL.mono (fun x vs gs' hg' h' => RepO.keep (fun p hp => (hE _).cell (h.ml p hp)) (fun _ h => h) (fun g hm => (hE _).block g (lt g (hg' g hm)).1) h') k2, fun p hp hm => by
                      exfalso
                      rcases List.mem_cons.1 hm with e | hm
                      · have := h.ml p hp; omega
                      · exact (lt _ hm).2.2 p hp rfl⟩)
                  exact wp_val hr (hK _ _ ⟨_, _, _, hg⟩)
                by_cases hz : n * info.size = 0
                · have hxe : xs.1 = [] := by
                    apply List.eq_nil_of_length_eq_zero
                    rw [hbl] at hz
                    rcases Nat.mul_eq_zero.1 hz with h | h <;> omega
                  rw [hxe] at hlen hcl
                  simp at hlen; subst hlen
                  have hce : cs = [] := List.eq_nil_of_length_eq_zero (by simpa using hcl)
                  subst hce
                  refine fin #[] 0 ?_ (by simp [hxe]) (by simp) (by simp) (by simp)
                  have hps : Instr.fill (fun i => some (i * ei.size, ei.size)) #[] (ps.map fun p => (p.1, a.eval p.2)).toList = some #[] := by
                    simpa [Array.range_zero'] using k1
                  simp at hps
                  simp [execOp, ho, Instr.buildSlice, run_underlying hu, hT.size, Array.range_zero', hps, newRow, hxe]
                · have hsm : ¬ n * info.size > 2 ^ 24 := by
                    have h1 := hT.siz
                    rw [← g2] at h1
                    have := Nat.mul_le_mul hn h1
                    omega
                  have hrun := run_buildSlice (P := P) w t et n (ps.map fun p => (p.1, a.eval p.2)) cs.toArray info zv hu g1 g4 hsm hz (by
                    rw [g2]; rw [g2, List.nil_append, List.nil_append, Array.toArray_toList] at k1; rw [Array.toList_map]; exact k1)
                  refine fin cs.toArray n ?_ (by omega) (by simp only [maxLen]; omega) ?_ ?_
                  · rw [hlen]
                    simp [execOp, ho, hrun]
                  · rw [← hlen, hts]; simpa using hcl
                  · rw [hts, ← hcl, List.take_of_length_le (by simp)]
              · cases hk
            · cases hk
        exact hdata hk
      · cases hk
    · cases hk
  · cases hk

theorem sound_len {c : Call} (h : Good W M0 S hdr inn M a w) (htab : ∀ t i, E.tab.lookup t = some i → TIOK P t i) (ho : o.op = .call c) (hc : c.callee = .builtin .len) (hk : opK E o.op id S some = some e) : Sound P W M0 S a w o e := by
  rw [ho] at hk
  simp only [opK, hc] at hk
  split at hk
  · rename_i t x ht hx
    have ht' : c.argTypes = #[t] := by rw [← ht]
    have hx' : c.args = #[x] := by rw [← hx]
    split at hk
    · rename_i i hi
      split at hk
      · rename_i s hd hs
        cases hk
        have hu := (htab _ _ hi).str hd
        exact sound_val h (v := .int .i64 s.size) (by simp [execOp, ho, resolve, hc, ht', hx', invoke, builtin, Builtin.len_, h.str hs, run_underlying hu, goInt]) rfl
      · rename_i et hd
        have hu := (htab _ _ hi).slice hd
        have run : ∀ A n cc, a.eval x = .slice A n cc → (execOp a.eval o).run P w = .ok (.value (.int .i64 n)) w := by
          intro A n cc hv
          simp [execOp, ho, resolve, hc, ht', hx', invoke, builtin, Builtin.len_, hv, run_underlying hu, goInt]
        unfold lenK at hk
        split at hk
        · rename_i e1 xs hxs
          cases hk
          obtain ⟨A, cc, us, e2, _⟩ := RepD.sliceInv (h.one hxs)
          simp at e2
          exact sound_val h (run _ _ _ e2) rfl
        · rename_i bn e1 xs hxs
          cases hk
          obtain ⟨A, cc, us, e2, _⟩ := RepD.sliceInv (h.one hxs).1
          simp at e2
          exact sound_val h (run _ _ _ e2) rfl
        · rename_i hxs
          cases hk
          have := h.one hxs
          exact sound_val h (run _ _ _ this) rfl
        · rename_i b hxs
          split at hk
          · rename_i ty e1 xs fz hb
            cases hk
            obtain ⟨hh, _⟩ := h.one hxs
            obtain ⟨v0, hv0, hB⟩ := h.hp b _ (blkAt_some hb)
            rw [hh] at hv0
            simp at hv0
            rcases hB with ⟨rfl, h2, _⟩ | ⟨g, cap, vs, h2, _⟩
            · exact sound_val h (run _ _ _ (hv0.trans h2)) rfl
            · exact sound_val h (run _ _ _ (hv0.trans h2)) rfl
          · rename_i ty T xs op fz hb
            cases hk
            obtain ⟨hh, _⟩ := h.one hxs
            obtain ⟨v0, hv0, hB⟩ := h.hp b _ (blkAt_some hb)
            rw [hh] at hv0
            simp at hv0
            rcases hB with ⟨rfl, _, h2, _⟩ | ⟨g, cap, vs, gi, h2, _⟩
            · exact sound_val h (run _ _ _ (hv0.trans h2)) rfl
            · exact sound_val h (run _ _ _ (hv0.trans h2)) rfl
          · rename_i ty e1 xs fz hb
            cases hk
            obtain ⟨hh, _⟩ := h.one hxs
            obtain ⟨v0, hv0, hB⟩ := h.hp b _ (blkAt_some hb)
            rw [hh] at hv0
            simp at hv0
            obtain ⟨ys, hy, hB⟩ := hB.1
            have hy : ys = OK.list xs := hy
            rw [← hy]
            rcases hB with ⟨e2, h2, _⟩ | ⟨g, o', cap, vs, h2, _⟩
            · rw [e2]
              exact sound_val h (run _ _ _ (hv0.trans h2)) rfl
            · exact sound_val h (run _ _ _ (hv0.trans h2)) rfl
          · cases hk
        · rename_i m hxs
          cases hk
          obtain ⟨A, cc, e2⟩ := h.one hxs
          exact sound_val h (run _ _ _ e2) rfl
        · cases hk
      · cases hk
    · cases hk
  · cases hk
end
end Rx
end Go.Proofs.YthfgpnpoocepeaaGreat
