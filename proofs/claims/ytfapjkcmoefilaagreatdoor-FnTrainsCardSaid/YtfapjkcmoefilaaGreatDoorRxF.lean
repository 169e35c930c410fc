/- The evaluator's loads, stores and addresses are true of the program's. No conditions. -/
import Derived.Test.YtfapjkcmoefilaaGreatDoorRxE
import Derived.Laws.CopyOwn
namespace Go.Proofs.YtfapjkcmoefilaaGreatDoor
open Go.RowKit
namespace Rx

theorem add_add' (ad : Addr) (i j : Nat) : (ad.add i).add j = ad.add (i + j) := Go.Deep.add_add ad i j
theorem add_zero_block (g j : Nat) : (⟨g, 0, none⟩ : Addr).add j = ⟨g, j, none⟩ := by unfold Addr.add; split <;> simp_all
theorem add_off (g i j : Nat) : (⟨g, i, none⟩ : Addr).add j = ⟨g, i + j, none⟩ := by unfold Addr.add; split <;> simp_all

section
variable {P : Program} {W : WX} {M0 : Mem} {S : St} {hdr : Nat → Option Value} {M : Mem} {a : Act} {w : World} {o : Oper} {e : Eff} {id : Nat}

theorem v1At_rep {i : TI} {cs : List Cell} {us : List Value} {off : Nat} {x : V1} (h : v1At i cs off = some x) (hc : All2 (RepC w M hdr) cs us) :
    ((us.drop off).take i.size).length = i.size ∧ ((i.isAgg = true ∧ RepV1 w M hdr x (.agg ((us.drop off).take i.size).toArray)) ∨ (i.isAgg = false ∧ ∃ u, (us.drop off).take i.size = [u] ∧ RepV1 w M hdr x u)) := by
  have hr := (hc.drop (n := off)).take (n := i.size)
  have hl := hr.len
  unfold v1At at h
  dsimp only at h
  split at h
  · rename_i hsz
    refine ⟨by rw [← hl, hsz], ?_⟩
    split at h
    · rename_i ha
      cases h
      exact .inl ⟨ha, _, rfl, hr⟩
    · rename_i ha
      split at h
      · rename_i c hcs
        cases h
        rw [hcs] at hr
        obtain ⟨u, hu, hc⟩ := hr.one'
        exact .inr ⟨by simpa using ha, u, hu, hc⟩
      · cases h
  · cases h

theorem load_rep {t : TypeId} {i : TI} {cs : List Cell} {us : List Value} {ad : Addr} {off : Nat} {x : V1} (hi : TIOK P t i) (h : v1At i cs off = some x) (hc : All2 (RepC w M hdr) cs us)
    (hl : ∀ (j : Nat) u, us[j]? = some u → w.cell? (ad.add j) = some u) : ∃ v, (Instr.loadAt t (.pointer (some (ad.add off)))).run P w = .ok v w ∧ RepV1 w M hdr x v := by
  obtain ⟨hlen, h⟩ := v1At_rep h hc
  have hcell : ∀ (j : Nat) v, ((us.drop off).take i.size)[j]? = some v → w.cell? ((ad.add off).add j) = some v := by
    intro j v hv
    rw [add_add']
    refine hl _ _ ?_
    have hj : j < i.size := by have := (List.getElem?_eq_some_iff.1 hv).1; omega
    rw [List.getElem?_take_of_lt hj, List.getElem?_drop] at hv
    exact hv
  rcases h with ⟨ha, hx⟩ | ⟨ha, u, hu, hx⟩
  · refine ⟨_, ?_, hx⟩
    have := run_loadCells_list (P := P) w (ad.add off) _ hcell
    rw [hlen] at this
    simp [Instr.loadAt, Instr.sureAddr, loadVar, hi.agg, ha, hi.size, this]
  · refine ⟨u, ?_, hx⟩
    have := hcell 0 u (by rw [hu]; rfl)
    have h0 : (ad.add off).add 0 = ad.add off := by rw [add_add']; rfl
    rw [h0] at this
    simp [Instr.loadAt, Instr.sureAddr, loadVar, hi.agg, ha, this]

theorem heap_cell {w : World} {g : Nat} {vs : Array Value} {t : TypeId} (h : w.heap[g]? = some (.cells vs t (0, 0))) (j : Nat) : w.cell? ⟨g, j, none⟩ = vs[j]? := cell_of_row w g j vs t (0, 0) h
theorem heap_free {w : World} {g : Nat} {vs : Array Value} {t : TypeId} (h : w.heap[g]? = some (.cells vs t (0, 0))) (j : Nat) : w.frozen? ⟨g, j, none⟩ = false := by
  simp [World.frozen?, h]

theorem blkAt_some {H : Heap} {b : Nat} {B : Blk} (h : blkAt H b = some B) : lk H b = some (some B) := by
  unfold blkAt at h
  cases hl : lk H b with
  | none => rw [hl] at h; cases h
  | some x => rw [hl] at h; simp at h; rw [h]

/-- The cells of one element of a row. -/
theorem row_elem {t : TypeId} {e : Ty} {xs : List e.den} {fz : Nat} {v : Value} {n : Nat} {x : e.den} {base : Nat → Nat → Prop} (h : RepBlk w M hdr base (.row t e xs fz) v) (hx : xs[n]? = some x) :
    ∃ g cap vs, v = .slice (some ⟨g, 0, none⟩) xs.length cap ∧ w.heap[g]? = some (.cells vs t (0, 0)) ∧ RepD w M e x ((vs.toList.drop (n * e.size)).take e.size) ∧ n * e.size + e.size ≤ xs.length * e.size ∧ xs.length * e.size ≤ vs.size ∧
      (∀ (j : Nat) u, ((vs.toList.drop (n * e.size)).take e.size)[j]? = some u → w.cell? ((⟨g, n * e.size, none⟩ : Addr).add j) = some u) := by
  have hn : n < xs.length := (List.getElem?_eq_some_iff.1 hx).1
  rcases h with ⟨rfl, _⟩ | ⟨g, cap, vs, rfl, h1, h2, h3, h4, h5, h6, h7⟩
  · simp at hn
  · have hsz : n * e.size + e.size ≤ xs.length * e.size := by
      have := Nat.mul_le_mul_right e.size (show n + 1 ≤ xs.length from hn)
      rw [Nat.add_mul] at this; omega
    have hcap : xs.length * e.size ≤ vs.size := by rw [h5]; exact Nat.mul_le_mul_right _ h3
    have hr := RepL.get (fun x vs h => RepD.len h) h6 hx
    have heq : ((vs.toList.take (xs.length * e.size)).drop (n * e.size)).take e.size = (vs.toList.drop (n * e.size)).take e.size := by
      rw [List.drop_take, List.take_take, Nat.min_eq_left (by omega)]
    rw [heq] at hr
    refine ⟨g, cap, vs, rfl, h2, hr, hsz, hcap, fun j u hu => ?_⟩
    have hj : j < e.size := by have := (List.getElem?_eq_some_iff.1 hu).1; simp at this; omega
    rw [add_off, heap_cell h2]
    rw [List.getElem?_take_of_lt hj, List.getElem?_drop] at hu
    simpa using hu

theorem sound_load {E : Env} {t : TypeId} {x : Operand} (h : Good W M0 S hdr M a w) (htab : ∀ t i, E.tab.lookup t = some i → TIOK P t i) (ho : o.op = .load t x) (hk : opK E o.op id S some = some e) : Sound P W M0 S a w o e := by
  rw [ho] at hk
  simp only [opK] at hk
  split at hk
  · rename_i i c hi hc
    have hT := htab t i hi
    have hv := h.one hc
    have fin : ∀ {x1 : V1} {rd}, (∃ v, (Instr.loadAt t (a.eval x)).run P w = .ok v w ∧ RepV1 w M hdr x1 v) → e = ⟨.v x1, [], rd⟩ → Sound P W M0 S a w o e := by
      rintro x1 rd ⟨v, hr, hx⟩ rfl
      exact sound_val h (by simp [execOp, ho, hr]) hx
    unfold loadK at hk
    split at hk
    · rename_i b off
      obtain ⟨g, hh, hv⟩ := hv
      split at hk
      · rename_i ty cs hb
        split at hk
        · rename_i x1 hx1
          obtain ⟨v0, hv0, hB⟩ := h.hp b _ (blkAt_some hb)
          obtain ⟨g', vs, rfl, h1, h2, h3, h4⟩ := hB
          rw [hh] at hv0
          simp at hv0; subst hv0
          injection hk with hk
          refine fin ?_ hk.symm
          have := load_rep (ad := ⟨g, 0, none⟩) hT hx1 h3 (fun j u hu => by rw [add_zero_block, heap_cell h2]; simpa using hu)
          rw [add_zero_block] at this
          rw [hv]; exact this
        · cases hk
      · cases hk
    · rename_i b n sz off
      obtain ⟨g, nn, cc, hh, hv⟩ := hv
      split at hk
      · rename_i ty et xs fz hb
        split at hk
        · rename_i hsz
          obtain ⟨y, hy, hk⟩ := ob_some hk
          split at hk
          · rename_i x1 hx1
            obtain ⟨v0, hv0, hB⟩ := h.hp b _ (blkAt_some hb)
            obtain ⟨g', cap, vs, rfl, h2, h3, h4, h5, h6⟩ := row_elem hB hy
            rw [hh] at hv0
            simp at hv0; obtain ⟨rfl, _⟩ := hv0
            injection hk with hk
            refine fin ?_ hk.symm
            have := load_rep (hdr := hdr) (ad := ⟨g, n * et.size, none⟩) hT hx1 h3.cells h6
            rw [add_off] at this
            rw [hv, hsz]; exact this
          · cases hk
        · cases hk
      · cases hk
    · rename_i T y off
      obtain ⟨ad, us, hv, hD, hl⟩ := hv
      split at hk
      · rename_i x1 hx1
        injection hk with hk
        refine fin ?_ hk.symm
        rw [hv]
        exact load_rep hT hx1 hD.cells fun j u hu => (hl j u hu).1
      · cases hk
    · cases hk
  · cases hk

theorem takeD_nil : ∀ {T : Ty} {cs r : List Cell} {x : T.den} {vs : List Value}, takeD [] T cs = some (x, r) → All2 (RepC w M hdr) cs vs → ∃ v1 v2, vs = v1 ++ v2 ∧ RepD w M T x v1 ∧ All2 (RepC w M hdr) r v2
  | .unit, cs, r, x, vs, h, hc => by
    simp only [takeD] at h
    cases h
    exact ⟨[], vs, rfl, rfl, hc⟩
  | .pair a b, cs, r, x, vs, h, hc => by
    simp only [takeD] at h
    obtain ⟨y, hy, h⟩ := Option.bind_eq_some_iff.1 h
    obtain ⟨z, hz, h⟩ := Option.bind_eq_some_iff.1 h
    cases h
    obtain ⟨v1, v2, rfl, h1, h2⟩ := takeD_nil hy hc
    obtain ⟨v3, v4, rfl, h3, h4⟩ := takeD_nil hz h2
    exact ⟨v1 ++ v3, v4, by simp, ⟨v1, v3, rfl, h1, h3⟩, h4⟩
  | .int k, cs, r, x, vs, h, hc => by
    simp only [takeD] at h
    split at h
    · split at h
      · rename_i hk
        cases h; subst hk
        obtain ⟨v, vs, rfl, h1, h2⟩ := hc.cons'
        exact ⟨[v], vs, rfl, by simp only [RepC] at h1; simp [RepD, h1], h2⟩
      · cases h
    · cases h
  | .bool, cs, r, x, vs, h, hc => by
    simp only [takeD] at h
    split at h
    · cases h
      obtain ⟨v, vs, rfl, h1, h2⟩ := hc.cons'
      exact ⟨[v], vs, rfl, by simp only [RepC] at h1; simp [RepD, h1], h2⟩
    · cases h
  | .str, cs, r, x, vs, h, hc => by
    simp only [takeD] at h
    split at h
    · cases h
      obtain ⟨v, vs, rfl, h1, h2⟩ := hc.cons'
      exact ⟨[v], vs, rfl, by simp only [RepC] at h1; simp [RepD, h1], h2⟩
    · cases h
  | .slice e, cs, r, x, vs, h, hc => by
    simp only [takeD] at h
    split at h
    · split at h
      · rename_i he
        cases h; subst he
        obtain ⟨v, vs, rfl, h1, h2⟩ := hc.cons'
        exact ⟨[v], vs, rfl, h1, h2⟩
      · cases h
    · split at h
      · rename_i he
        cases h; subst he
        obtain ⟨v, vs, rfl, h1, h2⟩ := hc.cons'
        exact ⟨[v], vs, rfl, h1.1, h2⟩
      · cases h
    · cases h
      obtain ⟨v, vs, rfl, h1, h2⟩ := hc.cons'
      refine ⟨[v], vs, rfl, ?_, h2⟩
      simp only [RepC] at h1
      exact ⟨none, 0, [], by simp [h1], Nat.le_refl _, Nat.zero_le _, rfl, .inl rfl⟩
    · simp [blkAt, lk] at h
    · cases h
  | .ref e, cs, r, x, vs, h, hc => by
    simp only [takeD] at h
    split at h
    · split at h
      · rename_i he
        cases h; subst he
        obtain ⟨v, vs, rfl, ⟨ad, us, h1, h2, h3⟩, h4⟩ := hc.cons'
        exact ⟨[v], vs, rfl, ⟨ad, us, by rw [h1]; rfl, h2, h3⟩, h4⟩
      · cases h
    · simp [blkAt, lk] at h
    · cases h
  | .clo f e, cs, r, x, vs, h, hc => by
    simp only [takeD] at h
    split at h
    · split at h
      · rename_i he
        split at h
        · rename_i hf
          cases h; subst he; subst hf
          obtain ⟨v, vs, rfl, h1, h4⟩ := hc.cons'
          exact ⟨[v], vs, rfl, h1, h4⟩
        · cases h
      · cases h
    · split at h
      · simp [blkAt, lk] at h
      · cases h
    · cases h
theorem takeAll_nil {T : Ty} {cs : List Cell} {x : T.den} {vs : List Value} (h : takeAll [] T cs = some x) (hc : All2 (RepC w M hdr) cs vs) : RepD w M T x vs := by
  unfold takeAll at h
  obtain ⟨y, hy, h⟩ := Option.bind_eq_some_iff.1 h
  split at h
  · rename_i hr
    cases h
    obtain ⟨v1, v2, rfl, h1, h2⟩ := takeD_nil (x := y.1) (r := y.2) hy hc
    rw [hr] at h2
    cases h2.nil'
    simpa using h1
  · cases h

theorem run_storeAt {t : TypeId} {i : TI} {g off : Nat} {ty : TypeId} {vs : Array Value} {v : Value} (hi : TIOK P t i) (hg : w.heap[g]? = some (.cells vs ty (0, 0))) (hsz : v.cells.toList.length = i.size) (hl : off + i.size ≤ vs.size) (h1 : ∀ u ∈ v.cells.toList, u.oneCell' = true) :
    (Instr.storeAt t (.pointer (some ⟨g, off, none⟩)) v).run P w = .ok () (w.setRow g (vs.toList.take off ++ v.cells.toList ++ vs.toList.drop (off + v.cells.toList.length)).toArray) := by
  have := run_storeCells_at (P := P) g off ty v.cells.toList 0 vs w hg (by rw [hsz]; simpa using hl) h1
  simp only [Nat.add_zero] at this
  have hs : v.cells.size = i.size := by simpa using hsz
  simp [Instr.storeAt, Instr.sureAddr, storeVar, hi.size, hs, this]

theorem setRow_cell {g : Nat} {cs : Array Value} {p : Addr} (h : p.block ≠ g) : (w.setRow g cs).cell? p = w.cell? p := cell_setRow_other w g cs p h

theorem splice {α : Type} (l u : List α) (A s off L : Nat) (h : off + u.length ≤ s) (h2 : A + s ≤ L) (h3 : L ≤ l.length) :
    (l.take (A + off) ++ u ++ l.drop (A + off + u.length)).take L = (l.take L).take A ++ (((l.drop A).take s).take off ++ u ++ ((l.drop A).take s).drop (off + u.length)) ++ (l.take L).drop (A + s) := by
  apply List.ext_getElem?
  intro j
  simp only [List.getElem?_append, List.getElem?_take, List.getElem?_drop, List.length_append, List.length_take, List.length_drop]
  repeat' split
  all_goals first
    | rfl
    | omega
    | (congr 1; omega)
    | (rw [List.getElem?_eq_none (by omega)])
    | (symm; rw [List.getElem?_eq_none (by omega)])

theorem sound_store {E : Env} {t : TypeId} {x y : Operand} (h : Good W M0 S hdr M a w) (htab : ∀ t i, E.tab.lookup t = some i → TIOK P t i) (ho : o.op = .store t x y) (hk : opK E o.op id S some = some e) : Sound P W M0 S a w o e := by
  rw [ho] at hk
  simp only [opK] at hk
  split at hk
  · rename_i i c v1 hi hc hv1
    have hT := htab t i hi
    have hv := h.one hc
    have hy := h.v1 hv1
    have hyc := RepV1.cells hy
    unfold storeK at hk
    dsimp only at hk
    split at hk
    · rename_i hlen
      have hul : (a.eval y).cells.toList.length = i.size := by rw [← hyc.len]; exact hlen
      have hone : ∀ u ∈ (a.eval y).cells.toList, u.oneCell' = true := hyc.all_right fun _ _ h => RepC.one h
      split at hk
      · rename_i b off
        obtain ⟨g, hh, hv⟩ := hv
        split at hk
        · rename_i ty cs fz hb
          split at hk
          · rename_i hoff
            obtain ⟨hfz, hoff⟩ := hoff
            injection hk with hk
            subst hk
            have hb' := blkAt_some hb
            obtain ⟨v0, hv0, hB⟩ := h.hp b _ hb'
            obtain ⟨g', vs, rfl, h1, h2, h3, h4⟩ := hB
            rw [hh] at hv0
            simp at hv0; subst hv0
            have hcl := h3.len
            have hr := run_storeAt (P := P) (off := off) hT h2 hul (by simp at hcl; omega) hone
            intro K Q hK
            have hkeep : ∀ p, M p → (w.setRow g (vs.toList.take off ++ (a.eval y).cells.toList ++ vs.toList.drop (off + (a.eval y).cells.toList.length)).toArray).cell? p = w.cell? p := fun p hp => setRow_cell fun e => hfz (h4 p hp e).1
            refine wp_skp (w' := w.setRow g (vs.toList.take off ++ (a.eval y).cells.toList ++ vs.toList.drop (off + (a.eval y).cells.toList.length)).toArray) (by simp only [execOp, ho, hv]; simp [hr]) (hK _ _ ⟨hdr, M, ?_⟩)
            refine h.write hb' hh rfl rfl (below_row h.ext h1) (by simp) (fun g' hg' _ => setRow_other w g g' _ hg') hkeep ?_ trivial
            exact ⟨g, _, rfl, h1, setRow_heap w g vs _ ty (0, 0) h2, by simpa using (putCells_rep h3 hyc).mono fun _ _ h => h.keep hkeep (fun _ h => h) (fun _ _ h => h), fun p hp e => absurd (h4 p hp e).1 hfz⟩
          · cases hk
        · cases hk
      · rename_i b n sz off
        obtain ⟨g, nn, cc, hh, hv⟩ := hv
        split at hk
        · rename_i ty et xs fz hb
          split at hk
          · rename_i hsz
            obtain ⟨hfz, hsz, hoff⟩ := hsz
            obtain ⟨x0, hx0, hk⟩ := ob_some hk
            obtain ⟨x1, hx1, hk⟩ := Option.bind_eq_some_iff.1 hk
            injection hk with hk
            subst hk
            have hb' := blkAt_some hb
            obtain ⟨v0, hv0, hB⟩ := h.hp b _ hb'
            have hB' := hB
            obtain ⟨g', cap, vs, rfl, h2, h3, h4, h5, h6⟩ := row_elem hB hx0
            rw [hh] at hv0
            simp at hv0; obtain ⟨rfl, rfl, rfl⟩ := hv0
            rcases hB' with ⟨_, h⟩ | ⟨g', cap', vs', e1, k1, k2, k3, k4, k5, k6, k7⟩
            · cases h
            · simp at e1; obtain ⟨rfl, rfl⟩ := e1
              rw [h2] at k2; simp at k2; subst k2
              have hn : n < xs.length := (List.getElem?_eq_some_iff.1 hx0).1
              have hcl := h3.len
              have hr := run_storeAt (P := P) (off := n * et.size + off) hT h2 hul (by rw [← hlen]; omega) hone
              have hM : ∀ p, M p → p.block ≠ g := fun p hp e => hfz (k7 p hp e).1
              have hkeep : ∀ p, M p → (w.setRow g (vs.toList.take (n * et.size + off) ++ (a.eval y).cells.toList ++ vs.toList.drop (n * et.size + off + (a.eval y).cells.toList.length)).toArray).cell? p = w.cell? p := fun p hp => setRow_cell (hM p hp)
              have hnew := putCells_rep (off := off) (h3.cells (hdr := hdr)) hyc
              have hD := takeAll_nil hx1 hnew
              have hset := RepL.set (fun x vs h => RepD.len h) k6 hn hD
              intro K Q hK
              refine wp_skp (w' := w.setRow g (vs.toList.take (n * et.size + off) ++ (a.eval y).cells.toList ++ vs.toList.drop (n * et.size + off + (a.eval y).cells.toList.length)).toArray) (by simp only [execOp, ho, hv, hsz]; simp [hr]) (hK _ _ ⟨hdr, M, ?_⟩)
              refine h.write hb' hh rfl rfl (below_row h.ext k1) (by simp) (fun g' hg' _ => setRow_other w g g' _ hg') hkeep ?_ trivial
              refine .inr ⟨g, cc, _, by simp, k1, setRow_heap w g vs _ ty (0, 0) h2, by simpa using k3, k4, ?_, ?_, fun p hp e => absurd e (hM p hp)⟩
              · have : (a.eval y).cells.size = i.size := by simpa using hul
                simp; omega
              · have hvl : vs.size = vs.toList.length := by simp
                have := splice vs.toList (a.eval y).cells.toList (n * et.size) et.size off (xs.length * et.size) (by rw [hul, ← hlen]; exact hoff) h4 (by rw [← hvl]; exact h5)
                rw [List.length_set]
                have e2 : ∀ l : List Value, l.toArray.toList = l := fun _ => rfl
                rw [e2, this]
                exact hset.mono fun _ _ h => h.keep hkeep (fun _ h => h)
          · cases hk
        · cases hk
      · cases hk
    · cases hk
  · cases hk
end
end Rx
end Go.Proofs.YtfapjkcmoefilaaGreatDoor
