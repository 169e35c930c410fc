/- The evaluator's loads, stores and addresses are true of the program's. No conditions. -/
import Derived.Test.YthfgpnpoocepeaaGreatRxE
import Derived.Laws.CopyOwn
namespace Go.Proofs.YthfgpnpoocepeaaGreat
open Go.RowKit
namespace Rx

theorem add_add' (ad : Addr) (i j : Nat) : (ad.add i).add j = ad.add (i + j) := Go.Deep.add_add ad i j
theorem add_zero_block (g j : Nat) : (⟨g, 0, none⟩ : Addr).add j = ⟨g, j, none⟩ := by unfold Addr.add; split <;> simp_all
theorem add_off (g i j : Nat) : (⟨g, i, none⟩ : Addr).add j = ⟨g, i + j, none⟩ := by unfold Addr.add; split <;> simp_all

section
variable {P : Program} {W : WX} {M0 : Mem} {S : St} {hdr : Nat → Option Value} {inn : Nat → List Nat} {M : Mem} {a : Act} {w : World} {o : Oper} {e : Eff} {id : Nat}

theorem v1At_rep {i : TI} {cs : List Cell} {us : List Value} {off : Nat} {x : V1} (h : v1At i cs off = some x) (hc : All2 (RepC w M hdr) cs us) :
    ((us.drop off).take i.size).length = i.size ∧ ((i.isAgg = true ∧ RepV1 w M hdr x (.agg ((us.drop off).take i.size).toArray)) ∨ (i.isAgg = false ∧ ∃ u, (us.drop off).take i.size = [u] ∧ RepV1 w M hdr x u)) := by
  have hr := (hc.drop (n := off)).take (n := i.size)
  have hl := hr.len
  unfold v1At at h
  dsimp only at h
  split at h
  · rename_i hsz
    refine ⟨by rw [← hl, hsz], ?_⟩
    split at h
    · rename_i ha
      cases h
      exact .inl ⟨ha, _, rfl, hr⟩
    · rename_i ha
      split at h
      · rename_i c hcs
        cases h
        rw [hcs] at hr
        obtain ⟨u, hu, hc⟩ := hr.one'
        exact .inr ⟨by simpa using ha, u, hu, hc⟩
      · cases h
  · cases h

theorem load_rep {t : TypeId} {i : TI} {cs : List Cell} {us : List Value} {ad : Addr} {off : Nat} {x : V1} (hi : TIOK P t i) (h : v1At i cs off = some x) (hc : All2 (RepC w M hdr) cs us)
    (hl : ∀ (j : Nat) u, us[j]? = some u → w.cell? (ad.add j) = some u) : ∃ v, (Instr.loadAt t (.pointer (some (ad.add off)))).run P w = .ok v w ∧ RepV1 w M hdr x v := by
  obtain ⟨hlen, h⟩ := v1At_rep h hc
  have hcell : ∀ (j : Nat) v, ((us.drop off).take i.size)[j]? = some v → w.cell? ((ad.add off).add j) = some v := by
    intro j v hv
    rw [add_add']
    refine hl _ _ ?_
    have hj : j < i.size := by have := (List.getElem?_eq_some_iff.1 hv).1; omega
    rw [List.getElem?_take_of_lt hj, List.getElem?_drop] at hv
    exact hv
  rcases h with ⟨ha, hx⟩ | ⟨ha, u, hu, hx⟩
  · refine ⟨_, ?_, hx⟩
    have := run_loadCells_list (P := P) w (ad.add off) _ hcell
    rw [hlen] at this
    simp [Instr.loadAt, Instr.sureAddr, loadVar, hi.agg, ha, hi.size, this]
  · refine ⟨u, ?_, hx⟩
    have := hcell 0 u (by rw [hu]; rfl)
    have h0 : (ad.add off).add 0 = ad.add off := by rw [add_add']; rfl
    rw [h0] at this
    simp [Instr.loadAt, Instr.sureAddr, loadVar, hi.agg, ha, this]

theorem heap_cell {w : World} {g : Nat} {vs : Array Value} {t : TypeId} (h : w.heap[g]? = some (.cells vs t (0, 0))) (j : Nat) : w.cell? ⟨g, j, none⟩ = vs[j]? := cell_of_row w g j vs t (0, 0) h
theorem heap_free {w : World} {g : Nat} {vs : Array Value} {t : TypeId} (h : w.heap[g]? = some (.cells vs t (0, 0))) (j : Nat) : w.frozen? ⟨g, j, none⟩ = false := by
  simp [World.frozen?, h]

theorem blkAt_some {H : Heap} {b : Nat} {B : Blk} (h : blkAt H b = some B) : lk H b = some (some B) := by
  unfold blkAt at h
  cases hl : lk H b with
  | none => rw [hl] at h; cases h
  | some x => rw [hl] at h; simp at h; rw [h]

/-- The cells of one element of a row. -/
theorem row_elem {t : TypeId} {e : Ty} {xs : List e.den} {fz : Nat} {v : Value} {n : Nat} {x : e.den} {gs : List Nat} {base : Nat → Nat → Prop} (h : RepBlk w M hdr base (.row t e xs fz) v gs) (hx : xs[n]? = some x) :
    ∃ g cap vs, v = .slice (some ⟨g, 0, none⟩) xs.length cap ∧ w.heap[g]? = some (.cells vs t (0, 0)) ∧ RepD w M e x ((vs.toList.drop (n * e.size)).take e.size) ∧ n * e.size + e.size ≤ xs.length * e.size ∧ xs.length * e.size ≤ vs.size ∧
      (∀ (j : Nat) u, ((vs.toList.drop (n * e.size)).take e.size)[j]? = some u → w.cell? ((⟨g, n * e.size, none⟩ : Addr).add j) = some u) := by
  have hn : n < xs.length := (List.getElem?_eq_some_iff.1 hx).1
  rcases h with ⟨rfl, _⟩ | ⟨g, cap, vs, rfl, rfl, h1, h2, h3, h4, h5, h6, h7⟩
  · simp at hn
  · have hsz : n * e.size + e.size ≤ xs.length * e.size := by
      have := Nat.mul_le_mul_right e.size (show n + 1 ≤ xs.length from hn)
      rw [Nat.add_mul] at this; omega
    have hcap : xs.length * e.size ≤ vs.size := by rw [h5]; exact Nat.mul_le_mul_right _ h3
    have hr := RepL.get (fun x vs h => RepD.len h) h6 hx
    have heq : ((vs.toList.take (xs.length * e.size)).drop (n * e.size)).take e.size = (vs.toList.drop (n * e.size)).take e.size := by
      rw [List.drop_take, List.take_take, Nat.min_eq_left (by omega)]
    rw [heq] at hr
    refine ⟨g, cap, vs, rfl, h2, hr, hsz, hcap, fun j u hu => ?_⟩
    have hj : j < e.size := by have := (List.getElem?_eq_some_iff.1 hu).1; simp at this; omega
    rw [add_off, heap_cell h2]
    rw [List.getElem?_take_of_lt hj, List.getElem?_drop] at hu
    simpa using hu

/-- An element of a row whose front part is cut off. -/
theorem que_elem {t : TypeId} {e : Ty} {xs : (OK.que t e).den} {v : Value} {n : Nat} {x : e.den} {gs : List Nat} (h : RepObj w M (.que t e) xs v gs) (hx : (OK.list xs)[n]? = some x) :
    ∃ g o cap vs, v = .slice (some ⟨g, o, none⟩) (OK.list xs).length cap ∧ w.heap[g]? = some (.cells vs t (0, 0)) ∧ RepD w M e x ((vs.toList.drop (o + n * e.size)).take e.size) ∧
      (∀ (j : Nat) u, ((vs.toList.drop (o + n * e.size)).take e.size)[j]? = some u → w.cell? ((⟨g, o + n * e.size, none⟩ : Addr).add j) = some u) := by
  obtain ⟨ys, hy, h⟩ := h
  have hxy : ys[n]? = some x := by rw [hy]; exact hx
  have hn : n < ys.length := (List.getElem?_eq_some_iff.1 hxy).1
  rcases h with ⟨rfl, _⟩ | ⟨g, o, cap, vs, rfl, rfl, h2, h3, h4, h5, h6⟩
  · simp at hn
  · have hsz : n * e.size + e.size ≤ ys.length * e.size := by
      have := Nat.mul_le_mul_right e.size (show n + 1 ≤ ys.length from hn)
      rw [Nat.add_mul] at this; omega
    have hr := RepL.get (fun x vs h => RepD.len h) h6 hxy
    have heq : (((vs.toList.drop o).take (ys.length * e.size)).drop (n * e.size)).take e.size = (vs.toList.drop (o + n * e.size)).take e.size := by
      rw [List.drop_take, List.take_take, Nat.min_eq_left (by omega), List.drop_drop]
    rw [heq] at hr
    refine ⟨g, o, cap, vs, by rw [show OK.list xs = ys from hy.symm], h2, hr, fun j u hu => ?_⟩
    have hj : j < e.size := by have := (List.getElem?_eq_some_iff.1 hu).1; simp at this; omega
    rw [add_off, heap_cell h2]
    rw [List.getElem?_take_of_lt hj, List.getElem?_drop] at hu
    simpa using hu

/-- Numbers one behind another. -/
theorem shift_hd {α β : Type} {hs1 hs2 : List α} {n : Nat} {f : Nat → β} {q : α → β} (hh : ∀ (j : Nat) v, (hs1 ++ hs2)[j]? = some v → f (n + j) = q v) : (∀ (j : Nat) v, hs1[j]? = some v → f (n + j) = q v) ∧ (∀ (j : Nat) v, hs2[j]? = some v → f (n + hs1.length + j) = q v) := by
  refine ⟨fun j v hv => hh j v ?_, fun j v hv => ?_⟩
  · rw [List.getElem?_append_left (List.getElem?_eq_some_iff.1 hv).1]; exact hv
  · rw [Nat.add_assoc]
    refine hh _ v ?_
    rw [List.getElem?_append_right (by omega)]
    simpa using hv
/-- A row that is laid open. -/
def IsRow (w : World) (M : Mem) (fz : Nat) (B : Blk) (hd : Hd) : Prop := ∃ t e ys, B = .row t e ys fz ∧ RowAt w M t e ys hd.1 hd.2
theorem openC_rep {fz : Nat} : ∀ {T : RTy} {x : T.den} {vs : List Value} {gs : List Nat} {n : Nat}, RepO w M T x vs gs → ∃ hs : List Hd, gs = gsOf hs ∧ (openC fz T x n).2.2 = n + hs.length ∧ (openC fz T x n).2.1.map (·.1) = List.range' n hs.length ∧
    All2 (fun q hd => ∃ B, q.2 = some B ∧ IsRow w M fz B hd) (openC fz T x n).2.1 hs ∧ ∀ hdr' : Nat → Option Value, (∀ (j : Nat) hd, hs[j]? = some hd → hdr' (n + j) = some hd.1) → All2 (RepC w M hdr') (openC fz T x n).1 vs
  | .d T, x, vs, gs, n, ⟨h1, h2⟩ => ⟨[], h2, rfl, rfl, trivial, fun hdr' _ => h1.cells⟩
  | .row t e, xs, vs, gs, n, ⟨v, e1, h⟩ => by
    subst e1
    refine ⟨[(v, gs)], by rw [gsOf_one], rfl, rfl, .one ⟨_, rfl, t, e, xs, rfl, h⟩, fun hdr' hh => .one ⟨hh 0 (v, gs) rfl, ?_⟩⟩
    rcases h with ⟨_, rfl, _⟩ | ⟨g, cap, us, rfl, _⟩ <;> exact ⟨_, _, _, rfl⟩
  | .pair A B, x, vs, gs, n, ⟨v1, v2, g1, g2, e1, e2, h1, h2⟩ => by
    subst e1; subst e2
    obtain ⟨hs1, a1, a2, a3, a4, a5⟩ := openC_rep (fz := fz) (n := n) h1
    obtain ⟨hs2, b1, b2, b3, b4, b5⟩ := openC_rep (fz := fz) (n := (openC fz A x.1 n).2.2) h2
    refine ⟨hs1 ++ hs2, by rw [gsOf_append, ← a1, ← b1], ?_, ?_, a4.append b4, fun hdr' hh => ?_⟩
    · show (openC fz B x.2 _).2.2 = _
      rw [b2, a2, List.length_append]; omega
    · show List.map _ ((openC fz A x.1 n).2.1 ++ (openC fz B x.2 _).2.1) = _
      rw [List.map_append, a3, b3, a2, List.length_append, List.range'_append_1]
    · obtain ⟨s1, s2⟩ := shift_hd hh
      exact (a5 hdr' s1).append (b5 hdr' (by rw [a2]; exact s2))
  | .box _ _, _, _, _, _, h => h.elim
  | .deep _ _, _, _, _, _, h => h.elim

theorem RowAt.blk {t : TypeId} {e : Ty} {ys : List e.den} {fz : Nat} {v : Value} {gs : List Nat} {base : Nat → Nat → Prop} (h : RowAt w M t e ys v gs) (hb : ∀ g ∈ gs, base fz g) (hm : ∀ p, M p → p.block ∉ gs) : RepBlk w M hdr base (.row t e ys fz) v gs := by
  rcases h with ⟨h1, h2, h3⟩ | ⟨g, cap, vs, e1, rfl, h1, h2, h3, h4, h5⟩
  · exact .inl ⟨h1, h2, h3⟩
  · exact .inr ⟨g, cap, vs, e1, rfl, hb g (by simp), h1, h2, h3, h4, h5, fun p hp e => absurd (show p.block ∈ [g] by simp [e]) (hm p hp)⟩

/-- An element of a deep row is laid open. -/
theorem open_good {β : Type} {b : Nat} {t : TypeId} {T : RTy} {xs : List T.den} {op : Option (Nat × List Cell)} {fz n : Nat} {k : List Cell → List (Nat × Option Blk) → List Nat → Option β} {r : β} (h : Good W M0 S hdr inn M a w) (hb : lk S.heap b = some (some (.deep t T xs op fz))) (hf : fz ≠ 1)
    (hk : openK S.heap b t T xs op fz n id k = some r) : ∃ cs wr ids hdr' inn', k cs wr ids = some r ∧ Good W M0 ⟨S.tmps, setAll S.heap (wr ++ [(b, some (.deep t T xs (some (n, cs)) fz))])⟩ hdr' inn' M a w ∧ (∀ b v, hdr b = some v → hdr' b = some v) ∧
      lk (setAll S.heap (wr ++ [(b, some (.deep t T xs (some (n, cs)) fz))])) b = some (some (.deep t T xs (some (n, cs)) fz)) := by
  have hlast : ∀ wr cs, lk (setAll S.heap (wr ++ [(b, some (.deep t T xs (some (n, cs)) fz))])) b = some (some (.deep t T xs (some (n, cs)) fz)) := fun wr cs => by
    rw [setAll_append]
    simp only [setAll, lk_cons, if_true]
  unfold openK at hk
  split at hk
  · obtain ⟨x, hx, hk⟩ := ob_some hk
    obtain ⟨hck, hk⟩ := chk_some hk
    simp only [Bool.and_eq_true] at hck
    obtain ⟨hnew, hnb⟩ := hck
    obtain ⟨v, hv, hB⟩ := h.hp b _ hb
    have hnl : n < xs.length := (List.getElem?_eq_some_iff.1 hx).1
    rcases hB with ⟨rfl, _⟩ | ⟨g, cap, vs, gi, hsl, hgs, hnd, hbs, h2, h3, h4, h5, h6, h7⟩
    · simp at hnl
    have h6' : RepOL (RepO w M T) xs (vs.toList.take (xs.length * T.data.size)) gi := h6
    have hul := RepOL.len (fun x vs gs h => RepO.len h) h6'
    obtain ⟨g1, g2, g3, hgi, k1, k2, k3⟩ := RepOL.split (fun x vs gs h => RepO.len h) h6' hx
    obtain ⟨hs, q1, q2, q3, q4, q5⟩ := openC_rep (fz := Rx.inner fz) (n := id) k2
    generalize hp : openC (Rx.inner fz) T x id = p at hk hnew hnb q2 q3 q4 q5
    obtain ⟨cs, wr, nn⟩ := p
    dsimp only at hk hnew hnb q2 q3 q4 q5
    have hin : ∀ b', (id ≤ b' ∧ b' < id + hs.length) → lk S.heap b' = none := fun b' hr => by
      rw [q3, List.all_eq_true] at hnew
      have := hnew b' (by rw [List.mem_range'_1]; exact hr)
      simpa [isNew] using this
    have hbin : ¬ (id ≤ b ∧ b < id + hs.length) := fun hr => by rw [hin b hr] at hb; cases hb
    have hnd2 : (wr.map (·.1)).Nodup := by rw [q3]; exact List.nodup_range'
    -- a block afterwards
    have back : ∀ {b' C}, lk (setAll S.heap (wr ++ [(b, some (.deep t T xs (some (n, cs)) fz))])) b' = some (some C) →
        (b' = b ∧ C = .deep t T xs (some (n, cs)) fz) ∨ (∃ j hd, b' = id + j ∧ hs[j]? = some hd ∧ IsRow w M (Rx.inner fz) C hd) ∨ (b' ≠ b ∧ ¬ (id ≤ b' ∧ b' < id + hs.length) ∧ lk S.heap b' = some (some C)) := by
      intro b' C hC
      rw [setAll_append] at hC
      simp only [setAll, lk_cons] at hC
      split at hC
      · rename_i e; cases hC; exact .inl ⟨e.symm, rfl⟩
      · rename_i e
        rw [lk_setAll _ _ _ hnd2] at hC
        obtain ⟨c1, c2⟩ := lookup_range (b := b') q4 q3
        split at hC
        · rename_i y hy
          cases hC
          obtain ⟨j, hd, B, e1, e2, e3, e4⟩ := c1 _ hy
          cases e3
          exact .inr (.inl ⟨j, hd, e1, e2, e4⟩)
        · rename_i hy
          exact .inr (.inr ⟨fun e' => e e'.symm, c2 hy, hC⟩)
    let hdr' : Nat → Option Value := fun b' => if id ≤ b' ∧ b' < id + hs.length then (hs[b' - id]?).map (·.1) else hdr b'
    let inn' : Nat → List Nat := fun b' => if id ≤ b' ∧ b' < id + hs.length then ((hs[b' - id]?).map (·.2)).getD [] else if b' = b then g :: (g1 ++ g3) else inn b'
    have hpos : ∀ (j : Nat) hd, hs[j]? = some hd → hdr' (id + j) = some hd.1 ∧ inn' (id + j) = hd.2 := fun j hd hj => by
      have hlt := (List.getElem?_eq_some_iff.1 hj).1
      constructor
      · show (if _ then _ else _) = _
        rw [if_pos ⟨by omega, by omega⟩, show id + j - id = j by omega, hj]; rfl
      · show (if _ then _ else _) = _
        rw [if_pos ⟨by omega, by omega⟩, show id + j - id = j by omega, hj]; rfl
    have hh : ∀ b v, hdr b = some v → hdr' b = some v := fun b' v' hb' => by
      show (if _ then _ else _) = _
      rw [if_neg (fun hr => by rw [h.un b' (hin b' hr)] at hb'; cases hb')]; exact hb'
    have ib : inn' b = g :: (g1 ++ g3) := by
      show (if _ then _ else _) = _
      rw [if_neg hbin, if_pos rfl]
    have io : ∀ b', b' ≠ b → ¬ (id ≤ b' ∧ b' < id + hs.length) → inn' b' = inn b' := fun b' e hr => by
      show (if _ then _ else _) = _
      rw [if_neg hr, if_neg e]
    have hsub : ∀ (j : Nat) (hd : Hd) g', hs[j]? = some hd → g' ∈ hd.2 → g' ∈ g2 := fun j hd g' hj hg' => by
      rw [q1]; exact mem_gsOf.2 ⟨hd, List.mem_of_getElem? hj, hg'⟩
    have hinb : ∀ g', g' ∈ g2 → g' ∈ inn b := fun g' hg' => by
      rw [hgs, hgi]; simp [hg']
    have hinb2 : ∀ g', g' ∈ g :: (g1 ++ g3) → g' ∈ inn b := fun g' hg' => by
      rw [hgs, hgi]
      simp only [List.mem_cons, List.mem_append] at hg' ⊢
      rcases hg' with h | h | h <;> simp [h]
    have hnd1 : (g :: (g1 ++ (g2 ++ g3))).Nodup := by rw [← hgi, ← hgs]; exact hnd
    have hn2 : g2.Nodup := by
      have := (List.nodup_cons.1 hnd1).2
      exact (List.nodup_append.1 (List.nodup_append.1 this).2.1).1
    have hno : ∀ g', g' ∈ g2 → g' ∉ g :: (g1 ++ g3) := fun g' hg' hm => by
      have h0 := List.nodup_cons.1 hnd1
      have h1 := List.nodup_append.1 h0.2
      have h2 := List.nodup_append.1 h1.2.1
      rcases List.mem_cons.1 hm with rfl | hm
      · exact h0.1 (by simp [hg'])
      · rcases List.mem_append.1 hm with hm | hm
        · exact h1.2.2 g' hm g' (by simp [hg']) rfl
        · exact h2.2.2 g' hg' g' hm rfl
    refine ⟨cs, wr, _, hdr', inn', hk, ?_, hh, hlast _ _⟩
    refine h.step (dst := none) (x := .undef) (u := undef) (rd := []) (M' := M) (w' := w) h.ext (Nat.le_refl _) (fun _ _ => rfl) (fun _ h => h) hh (fun p hp => ⟨h.ml p hp, h.mo p hp⟩) ?_ ?_ ?_ trivial
    · intro b' hb'
      rw [setAll_append] at hb'
      simp only [setAll, lk_cons] at hb'
      split at hb'
      · cases hb'
      · rw [lk_setAll _ _ _ hnd2] at hb'
        split at hb'
        · cases hb'
        · rename_i hy
          have := (lookup_range (b := b') q4 q3).2 hy
          show (if _ then _ else _) = _
          rw [if_neg this]; exact h.un b' hb'
    · intro b' C hC
      rcases back hC with ⟨rfl, rfl⟩ | ⟨j, hd, rfl, hj, t', e', ys, rfl, hr⟩ | ⟨e1, e2, hC⟩
      · refine ⟨⟨v, hh _ _ hv, ?_⟩, fun f1 f2 => by
          show (if _ then _ else _) = _
          rw [if_neg hbin]; exact h.ag _ (.deep t T xs none fz) hb f1 f2⟩
        rw [ib]
        refine .inr ⟨g, cap, vs, g1 ++ g3, hsl, rfl, ?_, fun g' hg' => hbs g' (hinb2 g' hg'), h2, h3, h4, h5, ⟨hnl, hul, g1, g3, rfl, k1, ?_, k3⟩, fun p hp hm => h7 p hp (hinb2 _ hm)⟩
        · refine hnd1.sublist ?_
          exact (List.Sublist.append (List.Sublist.refl _) (List.sublist_append_right _ _)).cons_cons _
        · exact q5 hdr' fun j hd hj => (hpos j hd hj).1
      · refine ⟨⟨hd.1, (hpos j hd hj).1, ?_⟩, fun h1 h2 => ?_⟩
        · rw [(hpos j hd hj).2]
          exact hr.blk (fun g' hg' => (hbs g' (hinb _ (hsub j hd g' hj hg'))).inner) fun p hp hm => hf (h7 p hp (hinb _ (hsub j hd _ hj hm)))
        · exfalso
          have h1' : 2 ≤ Rx.inner fz := h1
          have h2' : Rx.inner fz % 2 = 0 := h2
          rcases inner_half fz with ⟨e1, e2⟩ | ⟨_, _, _, e⟩
          · omega
          · omega
      · obtain ⟨u, hu, hr⟩ := h.hp b' C hC
        refine ⟨⟨u, hh _ _ hu, ?_⟩, fun f1 f2 => ?_⟩
        · rw [io b' e1 e2]
          exact hr.keep (fun _ _ => rfl) (fun _ h => h) hh fun g' _ => ⟨rfl, fun p hp _ => hp⟩
        · show (if _ then _ else _) = _
          rw [if_neg e2]; exact h.ag b' C hC f1 f2
    · intro b1 b2 C1 C2 g' hbb hC1 hC2 hg1 hg2
      have hq : gsOf hs = g2 := q1.symm
      rcases back hC1 with ⟨rfl, rfl⟩ | ⟨j, hd, rfl, hj, _⟩ | ⟨e1, e2, hD1⟩
      · rw [ib] at hg1
        rcases back hC2 with ⟨rfl, rfl⟩ | ⟨j, hd, rfl, hj, _⟩ | ⟨e3, e4, hD2⟩
        · exact hbb rfl
        · rw [(hpos j hd hj).2] at hg2
          exact hno g' (hsub j hd g' hj hg2) hg1
        · rw [io b2 e3 e4] at hg2
          exact h.sep _ b2 _ C2 g' hbb hb hD2 (hinb2 g' hg1) hg2
      · rw [(hpos j hd hj).2] at hg1
        rcases back hC2 with ⟨rfl, rfl⟩ | ⟨j', hd', rfl, hj', _⟩ | ⟨e3, e4, hD2⟩
        · rw [ib] at hg2
          exact hno g' (hsub j hd g' hj hg1) hg2
        · rw [(hpos j' hd' hj').2] at hg2
          exact gs_sep (by rw [hq]; exact hn2) (fun e => hbb (by rw [e])) hj hj' hg1 hg2
        · rw [io b2 e3 e4] at hg2
          exact h.sep b b2 _ C2 g' (fun e => e3 e.symm) hb hD2 (hinb g' (hsub j hd g' hj hg1)) hg2
      · rw [io b1 e1 e2] at hg1
        rcases back hC2 with ⟨rfl, rfl⟩ | ⟨j, hd, rfl, hj, _⟩ | ⟨e3, e4, hD2⟩
        · rw [ib] at hg2
          exact h.sep b1 _ C1 _ g' hbb hD1 hb hg1 (hinb2 g' hg2)
        · rw [(hpos j hd hj).2] at hg2
          exact h.sep b1 b C1 _ g' e1 hD1 hb hg1 (hinb g' (hsub j hd g' hj hg2))
        · rw [io b2 e3 e4] at hg2
          exact h.sep b1 b2 C1 C2 g' hbb hD1 hD2 hg1 hg2
  · rename_i m cs
    rcases br_some hk with ⟨hm, hk2⟩ | ⟨_, hk2⟩
    · have hm' : n = m := by simpa using hm
      subst hm'
      refine ⟨cs, [], [], hdr, inn, hk2, h.sameH fun b' => ?_, fun _ _ h => h, hlast _ _⟩
      show lk S.heap b' = lk ((b, some _) :: S.heap) b'
      rw [lk_cons]
      split
      · rename_i e; subst e; exact hb
      · rfl
    · cases hk2

/-- The cells of the element that is laid open. -/
theorem open_elem {t : TypeId} {T : RTy} {xs : List T.den} {cs : List Cell} {fz : Nat} {v : Value} {n : Nat} {gs : List Nat} {base : Nat → Nat → Prop} (h : RepBlk w M hdr base (.deep t T xs (some (n, cs)) fz) v gs) :
    ∃ g cap vs gi, v = .slice (some ⟨g, 0, none⟩) xs.length cap ∧ gs = g :: gi ∧ gs.Nodup ∧ (∀ g ∈ gs, base fz g) ∧ w.heap[g]? = some (.cells vs t (0, 0)) ∧ xs.length ≤ cap ∧ cap ≤ maxLen ∧ vs.size = cap * T.data.size ∧ (∀ p, M p → p.block ∈ gs → fz = 1) ∧
      RepDeep w M hdr T xs (some (n, cs)) (vs.toList.take (xs.length * T.data.size)) gi ∧ n * T.data.size + T.data.size ≤ xs.length * T.data.size ∧ xs.length * T.data.size ≤ vs.size ∧ All2 (RepC w M hdr) cs ((vs.toList.drop (n * T.data.size)).take T.data.size) ∧
      (∀ (j : Nat) u, ((vs.toList.drop (n * T.data.size)).take T.data.size)[j]? = some u → w.cell? ((⟨g, n * T.data.size, none⟩ : Addr).add j) = some u) := by
  rcases h with ⟨_, h, _⟩ | ⟨g, cap, vs, gi, rfl, rfl, hnd, hbs, h2, h3, h4, h5, h6, h7⟩
  · cases h
  · have h6' := h6
    obtain ⟨hn, hul, g1, g2, e, k1, k2, k3⟩ := h6'
    have hsz : n * T.data.size + T.data.size ≤ xs.length * T.data.size := by
      have := Nat.mul_le_mul_right T.data.size (show n + 1 ≤ xs.length from hn)
      rw [Nat.add_mul] at this; omega
    have hcap : xs.length * T.data.size ≤ vs.size := by rw [h5]; exact Nat.mul_le_mul_right _ h3
    have heq : ((vs.toList.take (xs.length * T.data.size)).drop (n * T.data.size)).take T.data.size = (vs.toList.drop (n * T.data.size)).take T.data.size := by
      rw [List.drop_take, List.take_take, Nat.min_eq_left (by omega)]
    rw [heq] at k2
    refine ⟨g, cap, vs, gi, rfl, rfl, hnd, hbs, h2, h3, h4, h5, h7, h6, hsz, hcap, k2, fun j u hu => ?_⟩
    have hj : j < T.data.size := by have := (List.getElem?_eq_some_iff.1 hu).1; simp at this; omega
    rw [add_off, heap_cell h2]
    rw [List.getElem?_take_of_lt hj, List.getElem?_drop] at hu
    simpa using hu

theorem sound_load {E : Env} {t : TypeId} {x : Operand} (h : Good W M0 S hdr inn M a w) (htab : ∀ t i, E.tab.lookup t = some i → TIOK P t i) (ho : o.op = .load t x) (hk : opK E o.op id S some = some e) : Sound P W M0 S a w o e := by
  rw [ho] at hk
  simp only [opK] at hk
  split at hk
  · rename_i i c hi hc
    have hT := htab t i hi
    have hv := h.one hc
    have fin : ∀ {x1 : V1} {rd}, (∃ v, (Instr.loadAt t (a.eval x)).run P w = .ok v w ∧ RepV1 w M hdr x1 v) → e = ⟨.v x1, [], rd⟩ → Sound P W M0 S a w o e := by
      rintro x1 rd ⟨v, hr, hx⟩ rfl
      exact sound_val h (by simp [execOp, ho, hr]) hx
    unfold loadK at hk
    split at hk
    · rename_i b off
      obtain ⟨g, hh, hv⟩ := hv
      split at hk
      · rename_i ty cs hb
        split at hk
        · rename_i x1 hx1
          obtain ⟨v0, hv0, hB⟩ := h.hp b _ (blkAt_some hb)
          obtain ⟨g', vs, rfl, _, h1, h2, h3, h4⟩ := hB
          rw [hh] at hv0
          simp at hv0; subst hv0
          injection hk with hk
          refine fin ?_ hk.symm
          have := load_rep (ad := ⟨g, 0, none⟩) hT hx1 h3 (fun j u hu => by rw [add_zero_block, heap_cell h2]; simpa using hu)
          rw [add_zero_block] at this
          rw [hv]; exact this
        · cases hk
      · cases hk
    · rename_i b n sz off
      obtain ⟨g, nn, cc, hh, hv⟩ := hv
      split at hk
      · rename_i ty et xs fz hb
        split at hk
        · rename_i hsz
          obtain ⟨y, hy, hk⟩ := ob_some hk
          split at hk
          · rename_i x1 hx1
            obtain ⟨v0, hv0, hB⟩ := h.hp b _ (blkAt_some hb)
            obtain ⟨g', cap, vs, rfl, h2, h3, h4, h5, h6⟩ := row_elem hB hy
            rw [hh] at hv0
            simp at hv0; obtain ⟨rfl, _⟩ := hv0
            injection hk with hk
            refine fin ?_ hk.symm
            have := load_rep (hdr := hdr) (ad := ⟨g, n * et.size, none⟩) hT hx1 h3.cells h6
            rw [add_off] at this
            rw [hv, hsz]; exact this
          · cases hk
        · cases hk
      · rename_i ty T xs op fz hb
        split at hk
        · rename_i hsz
          obtain ⟨hsz, hfz⟩ := hsz
          obtain ⟨cs, wr, ids, hdr', inn', hk, hg, hh', hl'⟩ := open_good h (blkAt_some hb) hfz hk
          split at hk
          · rename_i x1 hx1
            injection hk with hk
            subst hk
            obtain ⟨v0, hv0, hB⟩ := hg.hp b _ hl'
            obtain ⟨g', cap, vs, gi, rfl, _, _, _, _, _, _, _, _, _, _, _, hcs, hcell⟩ := open_elem hB
            rw [hh' _ _ hh] at hv0
            simp at hv0; obtain ⟨rfl, _⟩ := hv0
            have := load_rep (P := P) (hdr := hdr') (ad := ⟨g, n * T.data.size, none⟩) hT hx1 hcs hcell
            rw [add_off] at this
            obtain ⟨u, hu1, hu2⟩ := this
            intro K Q hK
            exact wp_val (v := u) (by simp [execOp, ho, hv, hsz, hu1]) (hK _ _ ⟨hdr', inn', M, hg.val (rd := []) hu2⟩)
          · cases hk
        · cases hk
      · cases hk
    · rename_i b n sz
      obtain ⟨g, o0, nn, cc, hh, hv⟩ := hv
      split at hk
      · rename_i ty et xs fz hb
        split at hk
        · rename_i hsz
          obtain ⟨y, hy, hk⟩ := ob_some hk
          split at hk
          · rename_i x1 hx1
            obtain ⟨v0, hv0, hB⟩ := h.hp b _ (blkAt_some hb)
            obtain ⟨g', o', cap, vs, rfl, h2, h3, h6⟩ := que_elem hB.1 hy
            rw [hh] at hv0
            simp at hv0; obtain ⟨⟨rfl, rfl⟩, _⟩ := hv0
            injection hk with hk
            refine fin ?_ hk.symm
            have := load_rep (hdr := hdr) (ad := ⟨g, o0 + n * et.size, none⟩) hT hx1 h3.cells h6
            rw [add_off, Nat.add_zero] at this
            rw [hv, hsz]; exact this
          · cases hk
        · cases hk
      · cases hk
    · rename_i T y off
      obtain ⟨ad, us, hv, hD, hl⟩ := hv
      split at hk
      · rename_i x1 hx1
        injection hk with hk
        refine fin ?_ hk.symm
        rw [hv]
        exact load_rep hT hx1 hD.cells fun j u hu => (hl j u hu).1
      · cases hk
    · cases hk
  · cases hk

theorem takeD_nil : ∀ {T : Ty} {cs r : List Cell} {x : T.den} {vs : List Value}, takeD [] T cs = some (x, r) → All2 (RepC w M hdr) cs vs → ∃ v1 v2, vs = v1 ++ v2 ∧ RepD w M T x v1 ∧ All2 (RepC w M hdr) r v2
  | .unit, cs, r, x, vs, h, hc => by
    simp only [takeD] at h
    cases h
    exact ⟨[], vs, rfl, rfl, hc⟩
  | .pair a b, cs, r, x, vs, h, hc => by
    simp only [takeD] at h
    obtain ⟨y, hy, h⟩ := Option.bind_eq_some_iff.1 h
    obtain ⟨z, hz, h⟩ := Option.bind_eq_some_iff.1 h
    cases h
    obtain ⟨v1, v2, rfl, h1, h2⟩ := takeD_nil hy hc
    obtain ⟨v3, v4, rfl, h3, h4⟩ := takeD_nil hz h2
    exact ⟨v1 ++ v3, v4, by simp, ⟨v1, v3, rfl, h1, h3⟩, h4⟩
  | .int k, cs, r, x, vs, h, hc => by
    simp only [takeD] at h
    split at h
    · split at h
      · rename_i hk
        cases h; subst hk
        obtain ⟨v, vs, rfl, h1, h2⟩ := hc.cons'
        exact ⟨[v], vs, rfl, by simp only [RepC] at h1; simp [RepD, h1], h2⟩
      · cases h
    · cases h
  | .bool, cs, r, x, vs, h, hc => by
    simp only [takeD] at h
    split at h
    · cases h
      obtain ⟨v, vs, rfl, h1, h2⟩ := hc.cons'
      exact ⟨[v], vs, rfl, by simp only [RepC] at h1; simp [RepD, h1], h2⟩
    · cases h
  | .str, cs, r, x, vs, h, hc => by
    simp only [takeD] at h
    split at h
    · cases h
      obtain ⟨v, vs, rfl, h1, h2⟩ := hc.cons'
      exact ⟨[v], vs, rfl, by simp only [RepC] at h1; simp [RepD, h1], h2⟩
    · cases h
  | .slice e, cs, r, x, vs, h, hc => by
    simp only [takeD] at h
    split at h
    · split at h
      · rename_i he
        cases h; subst he
        obtain ⟨v, vs, rfl, h1, h2⟩ := hc.cons'
        exact ⟨[v], vs, rfl, h1, h2⟩
      · cases h
    · split at h
      · rename_i he
        cases h; subst he
        obtain ⟨v, vs, rfl, h1, h2⟩ := hc.cons'
        exact ⟨[v], vs, rfl, h1.1, h2⟩
      · cases h
    · cases h
      obtain ⟨v, vs, rfl, h1, h2⟩ := hc.cons'
      refine ⟨[v], vs, rfl, ?_, h2⟩
      simp only [RepC] at h1
      exact ⟨none, 0, [], by simp [h1], Nat.le_refl _, Nat.zero_le _, rfl, .inl rfl⟩
    · simp [blkAt, lk] at h
    · cases h
  | .ref e, cs, r, x, vs, h, hc => by
    simp only [takeD] at h
    split at h
    · split at h
      · rename_i he
        cases h; subst he
        obtain ⟨v, vs, rfl, ⟨ad, us, h1, h2, h3⟩, h4⟩ := hc.cons'
        exact ⟨[v], vs, rfl, ⟨ad, us, by rw [h1]; rfl, h2, h3⟩, h4⟩
      · cases h
    · simp [blkAt, lk] at h
    · cases h
  | .clo f e, cs, r, x, vs, h, hc => by
    simp only [takeD] at h
    split at h
    · split at h
      · rename_i he
        split at h
        · rename_i hf
          cases h; subst he; subst hf
          obtain ⟨v, vs, rfl, h1, h4⟩ := hc.cons'
          exact ⟨[v], vs, rfl, h1, h4⟩
        · cases h
      · cases h
    · split at h
      · simp [blkAt, lk] at h
      · cases h
    · cases h
theorem takeAll_nil {T : Ty} {cs : List Cell} {x : T.den} {vs : List Value} (h : takeAll [] T cs = some x) (hc : All2 (RepC w M hdr) cs vs) : RepD w M T x vs := by
  unfold takeAll at h
  obtain ⟨y, hy, h⟩ := Option.bind_eq_some_iff.1 h
  split at h
  · rename_i hr
    cases h
    obtain ⟨v1, v2, rfl, h1, h2⟩ := takeD_nil (x := y.1) (r := y.2) hy hc
    rw [hr] at h2
    cases h2.nil'
    simpa using h1
  · cases h

theorem run_storeAt {t : TypeId} {i : TI} {g off : Nat} {ty : TypeId} {vs : Array Value} {v : Value} (hi : TIOK P t i) (hg : w.heap[g]? = some (.cells vs ty (0, 0))) (hsz : v.cells.toList.length = i.size) (hl : off + i.size ≤ vs.size) (h1 : ∀ u ∈ v.cells.toList, u.oneCell' = true) :
    (Instr.storeAt t (.pointer (some ⟨g, off, none⟩)) v).run P w = .ok () (w.setRow g (vs.toList.take off ++ v.cells.toList ++ vs.toList.drop (off + v.cells.toList.length)).toArray) := by
  have := run_storeCells_at (P := P) g off ty v.cells.toList 0 vs w hg (by rw [hsz]; simpa using hl) h1
  simp only [Nat.add_zero] at this
  have hs : v.cells.size = i.size := by simpa using hsz
  simp [Instr.storeAt, Instr.sureAddr, storeVar, hi.size, hs, this]

theorem setRow_cell {g : Nat} {cs : Array Value} {p : Addr} (h : p.block ≠ g) : (w.setRow g cs).cell? p = w.cell? p := cell_setRow_other w g cs p h

theorem splice {α : Type} (l u : List α) (A s off L : Nat) (h : off + u.length ≤ s) (h2 : A + s ≤ L) (h3 : L ≤ l.length) :
    (l.take (A + off) ++ u ++ l.drop (A + off + u.length)).take L = (l.take L).take A ++ (((l.drop A).take s).take off ++ u ++ ((l.drop A).take s).drop (off + u.length)) ++ (l.take L).drop (A + s) := by
  apply List.ext_getElem?
  intro j
  simp only [List.getElem?_append, List.getElem?_take, List.getElem?_drop, List.length_append, List.length_take, List.length_drop]
  repeat' split
  all_goals first
    | rfl
    | omega
    | (congr 1; omega)
    | (rw [List.getElem?_eq_none (by omega)])
    | (symm; rw [List.getElem?_eq_none (by omega)])

theorem three {α : Type} (P E Q : List α) {A s : Nat} (hP : P.length = A) (hE : E.length = s) : (P ++ E ++ Q).take A = P ∧ ((P ++ E ++ Q).drop A).take s = E ∧ (P ++ E ++ Q).drop (A + s) = Q := by
  subst hP; subst hE
  refine ⟨by simp, by simp, ?_⟩
  rw [← List.length_append]
  exact List.drop_left
theorem sound_store {E : Env} {t : TypeId} {x y : Operand} (h : Good W M0 S hdr inn M a w) (htab : ∀ t i, E.tab.lookup t = some i → TIOK P t i) (ho : o.op = .store t x y) (hk : opK E o.op id S some = some e) : Sound P W M0 S a w o e := by
  rw [ho] at hk
  simp only [opK] at hk
  split at hk
  · rename_i i c v1 hi hc hv1
    have hT := htab t i hi
    have hv := h.one hc
    have hy := h.v1 hv1
    have hyc := RepV1.cells hy
    unfold storeK at hk
    dsimp only at hk
    split at hk
    · rename_i hlen
      have hul : (a.eval y).cells.toList.length = i.size := by rw [← hyc.len]; exact hlen
      have hone : ∀ u ∈ (a.eval y).cells.toList, u.oneCell' = true := hyc.all_right fun _ _ h => RepC.one h
      split at hk
      · rename_i b off
        obtain ⟨g, hh, hv⟩ := hv
        split at hk
        · rename_i ty cs fz hb
          split at hk
          · rename_i hoff
            obtain ⟨hfz, hoff⟩ := hoff
            injection hk with hk
            subst hk
            have hb' := blkAt_some hb
            obtain ⟨v0, hv0, hB⟩ := h.hp b _ hb'
            obtain ⟨g', vs, rfl, hgs, h1, h2, h3, h4⟩ := hB
            rw [hh] at hv0
            simp at hv0; subst hv0
            have hcl := h3.len
            have hr := run_storeAt (P := P) (off := off) hT h2 hul (by simp at hcl; omega) hone
            intro K Q hK
            have hkeep : ∀ p, M p → (w.setRow g (vs.toList.take off ++ (a.eval y).cells.toList ++ vs.toList.drop (off + (a.eval y).cells.toList.length)).toArray).cell? p = w.cell? p := fun p hp => setRow_cell fun e => hfz (h4 p hp e).1
            refine wp_skp (w' := w.setRow g (vs.toList.take off ++ (a.eval y).cells.toList ++ vs.toList.drop (off + (a.eval y).cells.toList.length)).toArray) (by simp only [execOp, ho, hv]; simp [hr]) (hK _ _ ⟨hdr, inn, M, ?_⟩)
            refine h.write hb' hh rfl (below_row h.ext h1) (by simp) (fun g' hg' _ => setRow_other w g g' _ (fun e => hg' (by rw [hgs, e]; simp))) hkeep ?_ trivial
            rw [hgs]
            exact ⟨g, _, rfl, rfl, h1, setRow_heap w g vs _ ty (0, 0) h2, by simpa using (putCells_rep h3 hyc).mono fun _ _ h => h.keep hkeep (fun _ h => h) (fun _ _ h => h), fun p hp e => absurd (h4 p hp e).1 hfz⟩
          · cases hk
        · cases hk
      · rename_i b n sz off
        obtain ⟨g, nn, cc, hh, hv⟩ := hv
        split at hk
        · rename_i ty et xs fz hb
          split at hk
          · rename_i hsz
            obtain ⟨hfz, hsz, hoff⟩ := hsz
            obtain ⟨x0, hx0, hk⟩ := ob_some hk
            obtain ⟨x1, hx1, hk⟩ := Option.bind_eq_some_iff.1 hk
            injection hk with hk
            subst hk
            have hb' := blkAt_some hb
            obtain ⟨v0, hv0, hB⟩ := h.hp b _ hb'
            have hB' := hB
            obtain ⟨g', cap, vs, rfl, h2, h3, h4, h5, h6⟩ := row_elem hB hx0
            rw [hh] at hv0
            simp at hv0; obtain ⟨rfl, rfl, rfl⟩ := hv0
            rcases hB' with ⟨_, h, _⟩ | ⟨g', cap', vs', e1, hgs, k1, k2, k3, k4, k5, k6, k7⟩
            · cases h
            · simp at e1; obtain ⟨rfl, rfl⟩ := e1
              rw [h2] at k2; simp at k2; subst k2
              have hn : n < xs.length := (List.getElem?_eq_some_iff.1 hx0).1
              have hcl := h3.len
              have hr := run_storeAt (P := P) (off := n * et.size + off) hT h2 hul (by rw [← hlen]; omega) hone
              have hM : ∀ p, M p → p.block ≠ g := fun p hp e => hfz (k7 p hp e).1
              have hkeep : ∀ p, M p → (w.setRow g (vs.toList.take (n * et.size + off) ++ (a.eval y).cells.toList ++ vs.toList.drop (n * et.size + off + (a.eval y).cells.toList.length)).toArray).cell? p = w.cell? p := fun p hp => setRow_cell (hM p hp)
              have hnew := putCells_rep (off := off) (h3.cells (hdr := hdr)) hyc
              have hD := takeAll_nil hx1 hnew
              have hset := RepL.set (fun x vs h => RepD.len h) k6 hn hD
              intro K Q hK
              refine wp_skp (w' := w.setRow g (vs.toList.take (n * et.size + off) ++ (a.eval y).cells.toList ++ vs.toList.drop (n * et.size + off + (a.eval y).cells.toList.length)).toArray) (by simp only [execOp, ho, hv, hsz]; simp [hr]) (hK _ _ ⟨hdr, inn, M, ?_⟩)
              refine h.write hb' hh rfl (below_row h.ext k1) (by simp) (fun g' hg' _ => setRow_other w g g' _ (fun e => hg' (by rw [hgs, e]; simp))) hkeep ?_ trivial
              rw [hgs]
              refine .inr ⟨g, cc, _, by simp, rfl, k1, setRow_heap w g vs _ ty (0, 0) h2, by simpa using k3, k4, ?_, ?_, fun p hp e => absurd e (hM p hp)⟩
              · have : (a.eval y).cells.size = i.size := by simpa using hul
                simp; omega
              · have hvl : vs.size = vs.toList.length := by simp
                have := splice vs.toList (a.eval y).cells.toList (n * et.size) et.size off (xs.length * et.size) (by rw [hul, ← hlen]; exact hoff) h4 (by rw [← hvl]; exact h5)
                rw [List.length_set]
                have e2 : ∀ l : List Value, l.toArray.toList = l := fun _ => rfl
                rw [e2, this]
                exact hset.mono fun _ _ h => h.keep hkeep (fun _ h => h)
          · cases hk
        · rename_i ty T xs op fz hb
          split at hk
          · rename_i hsz
            obtain ⟨hsz, hfz, hoff⟩ := hsz
            obtain ⟨cs, wr, ids, hdr', inn', hk, hg, hh', hl'⟩ := open_good h (blkAt_some hb) hfz hk
            injection hk with hk
            subst hk
            obtain ⟨v0, hv0, hB⟩ := hg.hp b _ hl'
            obtain ⟨g', cap, vs, gi, rfl, hgs, hnd, hbs, h2, h3, h4, h5, h7, h6, hle, hcap, hcs, hcell⟩ := open_elem hB
            have hv0' := hv0
            rw [hh' _ _ hh] at hv0
            simp at hv0; obtain ⟨rfl, _⟩ := hv0
            have hM : ∀ p, M p → p.block ∉ inn' b := fun p hp e => hfz (h7 p hp e)
            have hMg : ∀ p, M p → p.block ≠ g := fun p hp e => hM p hp (by rw [hgs, e]; simp)
            have hr := run_storeAt (P := P) (off := n * T.data.size + off) hT h2 hul (by rw [← hlen]; omega) hone
            have hkeep : ∀ p, M p → (w.setRow g (vs.toList.take (n * T.data.size + off) ++ (a.eval y).cells.toList ++ vs.toList.drop (n * T.data.size + off + (a.eval y).cells.toList.length)).toArray).cell? p = w.cell? p := fun p hp => setRow_cell (hMg p hp)
            have hyc' : All2 (RepC w M hdr') v1.cells (a.eval y).cells.toList := hyc.mono fun _ _ h => h.keep (fun _ _ => rfl) (fun _ h => h) hh'
            have hnew := putCells_rep (off := off) hcs hyc'
            have hcsl := hcs.len
            intro K Q hK
            refine wp_skp (w' := w.setRow g (vs.toList.take (n * T.data.size + off) ++ (a.eval y).cells.toList ++ vs.toList.drop (n * T.data.size + off + (a.eval y).cells.toList.length)).toArray) (by simp only [execOp, ho, hv, hsz]; simp [hr]) (hK _ _ ⟨hdr', inn', M, ?_⟩)
            have hw := hg.write (dst := o.dst) (x := .undef) (u := undef) (rd := []) (B := .deep ty T xs (some (n, putCells cs off v1.cells)) fz) hl' hv0' rfl
              (w' := w.setRow g (vs.toList.take (n * T.data.size + off) ++ (a.eval y).cells.toList ++ vs.toList.drop (n * T.data.size + off + (a.eval y).cells.toList.length)).toArray)
              (below_row h.ext (hbs g (by rw [hgs]; simp))) (by simp) (fun g' hg' _ => setRow_other w g g' _ (fun e => hg' (by rw [hgs, e]; simp))) hkeep ?_ trivial
            · show Good W M0 (S.app o.dst ⟨.undef, wr ++ [(b, some (.deep ty T xs (some (n, cs)) fz)), (b, some (.deep ty T xs (some (n, putCells cs off v1.cells)) fz))], b :: ids⟩) hdr' inn' M _ _
              have e : wr ++ [(b, some (Blk.deep ty T xs (some (n, cs)) fz)), (b, some (.deep ty T xs (some (n, putCells cs off v1.cells)) fz))] = (wr ++ [(b, some (.deep ty T xs (some (n, cs)) fz))]) ++ [(b, some (.deep ty T xs (some (n, putCells cs off v1.cells)) fz))] := by simp
              unfold St.app
              dsimp only
              rw [e, setAll_append]
              exact hw
            · refine .inr ⟨g, cap, _, gi, rfl, hgs, hnd, hbs, setRow_heap w g vs _ ty (0, 0) h2, h3, h4, ?_, ?_, fun p hp e => absurd e (hM p hp)⟩
              · have : (a.eval y).cells.size = i.size := by simpa using hul
                simp; omega
              · have hvl : vs.size = vs.toList.length := by simp
                have hsp := splice vs.toList (a.eval y).cells.toList (n * T.data.size) T.data.size off (xs.length * T.data.size) (by rw [hul, ← hlen]; exact hoff) hle (by rw [← hvl]; exact hcap)
                have e2 : ∀ l : List Value, l.toArray.toList = l := fun _ => rfl
                rw [e2, hsp]
                obtain ⟨d1, d2, g1, g2, d3, d4, d5, d6⟩ := h6
                have hgn : ∀ g' ∈ gi, g' ≠ g := fun g' hm e => by
                  rw [hgs] at hnd
                  exact (List.nodup_cons.1 hnd).1 (by rw [← e]; exact hm)
                have kO : ∀ {l : List T.den} {us : List Value} {gs' : List Nat}, (∀ g' ∈ gs', g' ∈ gi) → RepOL (RepO w M T) l us gs' → RepOL (RepO (w.setRow g (vs.toList.take (n * T.data.size + off) ++ (a.eval y).cells.toList ++ vs.toList.drop (n * T.data.size + off + (a.eval y).cells.toList.length)).toArray) M T) l us gs' := fun hsub h =>
                  RepOL.mono (fun x vs gs' hg' h => RepO.keep hkeep (fun _ h => h) (fun g' hm => setRow_other w g g' _ (hgn g' (hsub g' (hg' g' hm)))) h) h
                have hel : (((vs.toList.drop (n * T.data.size)).take T.data.size).take off ++ (a.eval y).cells.toList ++ ((vs.toList.drop (n * T.data.size)).take T.data.size).drop (off + (a.eval y).cells.toList.length)).length = T.data.size := by
                  have hyl : (a.eval y).cells.toList.length = v1.cells.length := by rw [hul, hlen]
                  simp only [List.length_append, List.length_take, List.length_drop]
                  rw [hyl]
                  simp only [Array.length_toList]
                  omega
                have htl : ((vs.toList.take (xs.length * T.data.size)).take (n * T.data.size)).length = n * T.data.size := by
                  simp only [List.length_take, Array.length_toList]; omega
                obtain ⟨t1, t2, t3⟩ := three _ _ ((vs.toList.take (xs.length * T.data.size)).drop (n * T.data.size + T.data.size)) htl hel
                refine ⟨d1, ?_, g1, g2, d3, ?_, ?_, ?_⟩
                · rw [List.length_append, List.length_append, htl, hel, List.length_drop, d2]
                  omega
                · rw [t1]
                  exact kO (fun g' hm => by rw [d3]; simp [hm]) d4
                · rw [t2]
                  exact hnew.mono fun _ _ h => h.keep hkeep (fun _ h => h) (fun _ _ h => h)
                · rw [t3]
                  exact kO (fun g' hm => by rw [d3]; simp [hm]) d6
          · cases hk
        · cases hk
      · cases hk
    · cases hk
  · cases hk
end
end Rx
end Go.Proofs.YthfgpnpoocepeaaGreat
