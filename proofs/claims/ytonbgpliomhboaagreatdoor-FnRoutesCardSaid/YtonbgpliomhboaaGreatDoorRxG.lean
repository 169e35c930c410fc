/- The evaluator's loads, stores and addresses are true of the program's. No conditions. -/
import Derived.Test.YtonbgpliomhboaaGreatDoorRxE
import Derived.Laws.CopyOwn
namespace Go.Proofs.YtonbgpliomhboaaGreatDoor
open Go.RowKit
namespace Rx

theorem add_add' (ad : Addr) (i j : Nat) : (ad.add i).add j = ad.add (i + j) := Go.Deep.add_add ad i j
theorem add_zero_block (g j : Nat) : (⟨g, 0, none⟩ : Addr).add j = ⟨g, j, none⟩ := by unfold Addr.add; split <;> simp_all
theorem add_off (g i j : Nat) : (⟨g, i, none⟩ : Addr).add j = ⟨g, i + j, none⟩ := by unfold Addr.add; split <;> simp_all

section
variable {P : Program} {W : WX} {M0 : Mem} {S : St} {hdr : Nat → Option Value} {inn : Nat → List Nat} {M : Mem} {a : Act} {w : World} {o : Oper} {e : Eff} {id : Nat}

theorem v1At_rep {i : TI} {cs : List Cell} {us : List Value} {off : Nat} {x : V1} (h : v1At i cs off = some x) (hc : All2 (RepC w M hdr) cs us) :
    ((us.drop off).take i.size).length = i.size ∧ ((i.isAgg = true ∧ RepV1 w M hdr x (.agg ((us.drop off).take i.size).toArray)) ∨ (i.isAgg = false ∧ ∃ u, (us.drop off).take i.size = [u] ∧ RepV1 w M hdr x u)) := by
  have hr := (hc.drop (n := off)).take (n := i.size)
  have hl := hr.len
  unfold v1At at h
  dsimp only at h
  split at h
  · rename_i hsz
    refine ⟨by rw [← hl, hsz], ?_⟩
    split at h
    · rename_i ha
      cases h
      exact .inl ⟨ha, _, rfl, hr⟩
    · rename_i ha
      split at h
      · rename_i c hcs
        cases h
        rw [hcs] at hr
        obtain ⟨u, hu, hc⟩ := hr.one'
        exact .inr ⟨by simpa using ha, u, hu, hc⟩
      · cases h
  · cases h

theorem load_rep {t : TypeId} {i : TI} {cs : List Cell} {us : List Value} {ad : Addr} {off : Nat} {x : V1} (hi : TIOK P t i) (h : v1At i cs off = some x) (hc : All2 (RepC w M hdr) cs us)
    (hl : ∀ (j : Nat) u, us[j]? = some u → w.cell? (ad.add j) = some u) : ∃ v, (Instr.loadAt t (.pointer (some (ad.add off)))).run P w = .ok v w ∧ RepV1 w M hdr x v := by
  obtain ⟨hlen, h⟩ := v1At_rep h hc
  have hcell : ∀ (j : Nat) v, ((us.drop off).take i.size)[j]? = some v → w.cell? ((ad.add off).add j) = some v := by
    intro j v hv
    rw [add_add']
    refine hl _ _ ?_
    have hj : j < i.size := by have := (List.getElem?_eq_some_iff.1 hv).1; omega
    rw [List.getElem?_take_of_lt hj, List.getElem?_drop] at hv
    exact hv
  rcases h with ⟨ha, hx⟩ | ⟨ha, u, hu, hx⟩
  · refine ⟨_, ?_, hx⟩
    have := run_loadCells_list (P := P) w (ad.add off) _ hcell
    rw [hlen] at this
    simp [Instr.loadAt, Instr.sureAddr, loadVar, hi.agg, ha, hi.size, this]
  · refine ⟨u, ?_, hx⟩
    have := hcell 0 u (by rw [hu]; rfl)
    have h0 : (ad.add off).add 0 = ad.add off := by rw [add_add']; rfl
    rw [h0] at this
    simp [Instr.loadAt, Instr.sureAddr, loadVar, hi.agg, ha, this]

theorem heap_cell {w : World} {g : Nat} {vs : Array Value} {t : TypeId} (h : w.heap[g]? = some (.cells vs t (0, 0))) (j : Nat) : w.cell? ⟨g, j, none⟩ = vs[j]? := cell_of_row w g j vs t (0, 0) h
theorem blkAt_some {H : Heap} {b : Nat} {B : Blk} (h : blkAt H b = some B) : lk H b = some (some B) := by
  unfold blkAt at h
  cases hl : lk H b with
  | none => rw [hl] at h; cases h
  | some x => rw [hl] at h; simp at h; rw [h]

/-- The cells of one element of a row. -/
theorem row_elem {t : TypeId} {e : Ty} {xs : List e.den} {fz : Nat} {v : Value} {n : Nat} {x : e.den} {gs : List Nat} {base : Nat → Nat → Prop} (h : RepBlk w M hdr base (.row t e xs fz) v gs) (hx : xs[n]? = some x) :
    ∃ g cap vs, v = .slice (some ⟨g, 0, none⟩) xs.length cap ∧ w.heap[g]? = some (.cells vs t (0, 0)) ∧ RepD w M e x ((vs.toList.drop (n * e.size)).take e.size) ∧ n * e.size + e.size ≤ xs.length * e.size ∧ xs.length * e.size ≤ vs.size ∧
      (∀ (j : Nat) u, ((vs.toList.drop (n * e.size)).take e.size)[j]? = some u → w.cell? ((⟨g, n * e.size, none⟩ : Addr).add j) = some u) := by
  have hn : n < xs.length := (List.getElem?_eq_some_iff.1 hx).1
  rcases h with ⟨rfl, _⟩ | ⟨g, cap, vs, rfl, rfl, h1, h2, h3, h4, h5, h6, h7⟩
  · simp at hn
  · have hsz : n * e.size + e.size ≤ xs.length * e.size := by
      have := Nat.mul_le_mul_right e.size (show n + 1 ≤ xs.length from hn)
      rw [Nat.add_mul] at this; omega
    have hcap : xs.length * e.size ≤ vs.size := by rw [h5]; exact Nat.mul_le_mul_right _ h3
    have hr := RepL.get (fun x vs h => RepD.len h) h6 hx
    have heq : ((vs.toList.take (xs.length * e.size)).drop (n * e.size)).take e.size = (vs.toList.drop (n * e.size)).take e.size := by
      rw [List.drop_take, List.take_take, Nat.min_eq_left (by omega)]
    rw [heq] at hr
    refine ⟨g, cap, vs, rfl, h2, hr, hsz, hcap, fun j u hu => ?_⟩
    have hj : j < e.size := by have := (List.getElem?_eq_some_iff.1 hu).1; simp at this; omega
    rw [add_off, heap_cell h2]
    rw [List.getElem?_take_of_lt hj, List.getElem?_drop] at hu
    simpa using hu

/-- An element of a row whose front part is cut off. -/
theorem que_elem {t : TypeId} {e : Ty} {xs : (OK.que t e).den} {v : Value} {n : Nat} {x : e.den} {gs : List Nat} (h : RepObj w M (.que t e) xs v gs) (hx : (OK.list xs)[n]? = some x) :
    ∃ g o cap vs, v = .slice (some ⟨g, o, none⟩) (OK.list xs).length cap ∧ w.heap[g]? = some (.cells vs t (0, 0)) ∧ RepD w M e x ((vs.toList.drop (o + n * e.size)).take e.size) ∧
      (∀ (j : Nat) u, ((vs.toList.drop (o + n * e.size)).take e.size)[j]? = some u → w.cell? ((⟨g, o + n * e.size, none⟩ : Addr).add j) = some u) := by
  obtain ⟨ys, hy, h⟩ := h
  have hxy : ys[n]? = some x := by rw [hy]; exact hx
  have hn : n < ys.length := (List.getElem?_eq_some_iff.1 hxy).1
  rcases h with ⟨rfl, _⟩ | ⟨g, o, cap, vs, rfl, rfl, h2, h3, h4, h5, h6⟩
  · simp at hn
  · have hsz : n * e.size + e.size ≤ ys.length * e.size := by
      have := Nat.mul_le_mul_right e.size (show n + 1 ≤ ys.length from hn)
      rw [Nat.add_mul] at this; omega
    have hr := RepL.get (fun x vs h => RepD.len h) h6 hxy
    have heq : (((vs.toList.drop o).take (ys.length * e.size)).drop (n * e.size)).take e.size = (vs.toList.drop (o + n * e.size)).take e.size := by
      rw [List.drop_take, List.take_take, Nat.min_eq_left (by omega), List.drop_drop]
    rw [heq] at hr
    refine ⟨g, o, cap, vs, by rw [show OK.list xs = ys from hy.symm], h2, hr, fun j u hu => ?_⟩
    have hj : j < e.size := by have := (List.getElem?_eq_some_iff.1 hu).1; simp at this; omega
    rw [add_off, heap_cell h2]
    rw [List.getElem?_take_of_lt hj, List.getElem?_drop] at hu
    simpa using hu

/-- Numbers one behind another. -/
theorem shift_hd {α β : Type} {hs1 hs2 : List α} {n : Nat} {f : Nat → β} {q : α → β} (hh : ∀ (j : Nat) v, (hs1 ++ hs2)[j]? = some v → f (n + j) = q v) : (∀ (j : Nat) v, hs1[j]? = some v → f (n + j) = q v) ∧ (∀ (j : Nat) v, hs2[j]? = some v → f (n + hs1.length + j) = q v) := by
  refine ⟨fun j v hv => hh j v ?_, fun j v hv => ?_⟩
  · rw [List.getElem?_append_left (List.getElem?_eq_some_iff.1 hv).1]; exact hv
  · rw [Nat.add_assoc]
    refine hh _ v ?_
    rw [List.getElem?_append_right (by omega)]
    simpa using hv
/-- A row that is laid open. -/
def IsRow (w : World) (M : Mem) (fz : Nat) (B : Blk) (hd : Hd) : Prop := ∃ t e ys, B = .row t e ys fz ∧ RowAt w M t e ys hd.1 hd.2
theorem openC_rep {fz : Nat} : ∀ {T : RTy} {x : T.den} {vs : List Value} {gs : List Nat} {n : Nat}, RepO w M T x vs gs → ∃ hs : List Hd, gs = gsOf hs ∧ (openC fz T x n).2.2 = n + hs.length ∧ (openC fz T x n).2.1.map (·.1) = List.range' n hs.length ∧
    All2 (fun q hd => ∃ B, q.2 = some B ∧ IsRow w M fz B hd) (openC fz T x n).2.1 hs ∧ ∀ hdr' : Nat → Option Value, (∀ (j : Nat) hd, hs[j]? = some hd → hdr' (n + j) = some hd.1) → All2 (RepC w M hdr') (openC fz T x n).1 vs
  | .d T, x, vs, gs, n, ⟨h1, h2⟩ => ⟨[], h2, rfl, rfl, trivial, fun hdr' _ => h1.cells⟩
  | .row t e, xs, vs, gs, n, ⟨v, e1, h⟩ => by
    subst e1
    refine ⟨[(v, gs)], by rw [gsOf_one], rfl, rfl, .one ⟨_, rfl, t, e, xs, rfl, h⟩, fun hdr' hh => .one ⟨hh 0 (v, gs) rfl, ?_⟩⟩
    rcases h with ⟨_, rfl, _⟩ | ⟨g, cap, us, rfl, _⟩ <;> exact ⟨_, _, _, rfl⟩
  | .pair A B, x, vs, gs, n, ⟨v1, v2, g1, g2, e1, e2, h1, h2⟩ => by
    subst e1; subst e2
    obtain ⟨hs1, a1, a2, a3, a4, a5⟩ := openC_rep (fz := fz) (n := n) h1
    obtain ⟨hs2, b1, b2, b3, b4, b5⟩ := openC_rep (fz := fz) (n := (openC fz A x.1 n).2.2) h2
    refine ⟨hs1 ++ hs2, by rw [gsOf_append, ← a1, ← b1], ?_, ?_, a4.append b4, fun hdr' hh => ?_⟩
    · show (openC fz B x.2 _).2.2 = _
      rw [b2, a2, List.length_append]; omega
    · show List.map _ ((openC fz A x.1 n).2.1 ++ (openC fz B x.2 _).2.1) = _
      rw [List.map_append, a3, b3, a2, List.length_append, List.range'_append_1]
    · obtain ⟨s1, s2⟩ := shift_hd hh
      exact (a5 hdr' s1).append (b5 hdr' (by rw [a2]; exact s2))
  | .box _ _, _, _, _, _, h => h.elim
  | .deep _ _, _, _, _, _, h => h.elim

theorem RowAt.blk {t : TypeId} {e : Ty} {ys : List e.den} {fz : Nat} {v : Value} {gs : List Nat} {base : Nat → Nat → Prop} (h : RowAt w M t e ys v gs) (hb : ∀ g ∈ gs, base fz g) (hm : ∀ p, M p → p.block ∉ gs) : RepBlk w M hdr base (.row t e ys fz) v gs := by
  rcases h with ⟨h1, h2, h3⟩ | ⟨g, cap, vs, e1, rfl, h1, h2, h3, h4, h5⟩
  · exact .inl ⟨h1, h2, h3⟩
  · exact .inr ⟨g, cap, vs, e1, rfl, hb g (by simp), h1, h2, h3, h4, h5, fun p hp e => absurd (show p.block ∈ [g] by simp [e]) (hm p hp)⟩

/-- An element of a deep row is laid open. -/
theorem open_good {β : Type} {b : Nat} {t : TypeId} {T : RTy} {xs : List T.den} {op : Option (Nat × List Cell)} {fz n : Nat} {k : List Cell → List (Nat × Option Blk) → List Nat → Option β} {r : β} (h : Good W M0 S hdr inn M a w) (hb : lk S.heap b = some (some (.deep t T xs op fz))) (hf : fz ≠ 1)
    (hk : openK S.heap b t T xs op fz n id k = some r) : ∃ cs wr ids hdr' inn', k cs wr ids = some r ∧ Good W M0 ⟨S.tmps, setAll S.heap (wr ++ [(b, some (.deep t T xs (some (n, cs)) fz))])⟩ hdr' inn' M a w ∧ (∀ b v, hdr b = some v → hdr' b = some v) ∧
      lk (setAll S.heap (wr ++ [(b, some (.deep t T xs (some (n, cs)) fz))])) b = some (some (.deep t T xs (some (n, cs)) fz)) := by
  have hlast : ∀ wr cs, lk (setAll S.heap (wr ++ [(b, some (.deep t T xs (some (n, cs)) fz))])) b = some (some (.deep t T xs (some (n, cs)) fz)) := fun wr cs => by
    rw [setAll_append]
    simp only [setAll, lk_cons, if_true]
  unfold openK at hk
  split at hk
  · obtain ⟨x, hx, hk⟩ := ob_some hk
    obtain ⟨hck, hk⟩ := chk_some hk
    simp only [Bool.and_eq_true] at hck
    obtain ⟨hnew, hnb⟩ := hck
    obtain ⟨v, hv, hB⟩ := h.hp b _ hb
    have hnl : n < xs.length := (List.getElem?_eq_some_iff.1 hx).1
    rcases hB with ⟨rfl, _⟩ | ⟨g, cap, vs, gi, hsl, hgs, hnd, hbs, h2, h3, h4, h5, h6, h7⟩
    · simp at hnl
    have h6' : RepOL (RepO w M T) xs (vs.toList.take (xs.length * T.data.size)) gi := h6
    have hul := RepOL.len (fun x vs gs h => RepO.len h) h6'
    obtain ⟨g1, g2, g3, hgi, k1, k2, k3⟩ := RepOL.split (fun x vs gs h => RepO.len h) h6' hx
    obtain ⟨hs, q1, q2, q3, q4, q5⟩ := openC_rep (fz := Rx.inner fz) (n := id) k2
    generalize hp : openC (Rx.inner fz) T x id = p at hk hnew hnb q2 q3 q4 q5
    obtain ⟨cs, wr, nn⟩ := p
    dsimp only at hk hnew hnb q2 q3 q4 q5
    have hin : ∀ b', (id ≤ b' ∧ b' < id + hs.length) → lk S.heap b' = none := fun b' hr => by
      rw [q3, List.all_eq_true] at hnew
      have := hnew b' (by rw [List.mem_range'_1]; exact hr)
      simpa [isNew] using this
    have hbin : ¬ (id ≤ b ∧ b < id + hs.length) := fun hr => by rw [hin b hr] at hb; cases hb
    have hnd2 : (wr.map (·.1)).Nodup := by rw [q3]; exact List.nodup_range'
    -- a block afterwards
    have back : ∀ {b' C}, lk (setAll S.heap (wr ++ [(b, some (.deep t T xs (some (n, cs)) fz))])) b' = some (some C) →
        (b' = b ∧ C = .deep t T xs (some (n, cs)) fz) ∨ (∃ j hd, b' = id + j ∧ hs[j]? = some hd ∧ IsRow w M (Rx.inner fz) C hd) ∨ (b' ≠ b ∧ ¬ (id ≤ b' ∧ b' < id + hs.length) ∧ lk S.heap b' = some (some C)) := by
      intro b' C hC
      rw [setAll_append] at hC
      simp only [setAll, lk_cons] at hC
      split at hC
      · rename_i e; cases hC; exact .inl ⟨e.symm, rfl⟩
      · rename_i e
        rw [lk_setAll _ _ _ hnd2] at hC
        obtain ⟨c1, c2⟩ := lookup_range (b := b') q4 q3
        split at hC
        · rename_i y hy
          cases hC
          obtain ⟨j, hd, B, e1, e2, e3, e4⟩ := c1 _ hy
          cases e3
          exact .inr (.inl ⟨j, hd, e1, e2, e4⟩)
        · rename_i hy
          exact .inr (.inr ⟨fun e' => e e'.symm, c2 hy, hC⟩)
    let hdr' : Nat → Option Value := fun b' => if id ≤ b' ∧ b' < id + hs.length then (hs[b' - id]?).map (·.1) else hdr b'
    let inn' : Nat → List Nat := fun b' => if id ≤ b' ∧ b' < id + hs.length then ((hs[b' - id]?).map (·.2)).getD [] else if b' = b then g :: (g1 ++ g3) else inn b'
    have hpos : ∀ (j : Nat) hd, hs[j]? = some hd → hdr' (id + j) = some hd.1 ∧ inn' (id + j) = hd.2 := fun j hd hj => by
      have hlt := (List.getElem?_eq_some_iff.1 hj).1
      constructor
      · show (if _ then _ else _) = _
        rw [if_pos ⟨by omega, by omega⟩, show id + j - id = j by omega, hj]; rfl
      · show (if _ then _ else _) = _
        rw [if_pos ⟨by omega, by omega⟩, show id + j - id = j by omega, hj]; rfl
    have hh : ∀ b v, hdr b = some v → hdr' b = some v := fun b' v' hb' => by
      show (if _ then _ else _) = _
      rw [if_neg (fun hr => by rw [h.un b' (hin b' hr)] at hb'; cases hb')]; exact hb'
    have ib : inn' b = g :: (g1 ++ g3) := by
      show (if _ then _ else _) = _
      rw [if_neg hbin, if_pos rfl]
    have io : ∀ b', b' ≠ b → ¬ (id ≤ b' ∧ b' < id + hs.length) → inn' b' = inn b' := fun b' e hr => by
      show (if _ then _ else _) = _
      rw [if_neg hr, if_neg e]
    have hsub : ∀ (j : Nat) (hd : Hd) g', hs[j]? = some hd → g' ∈ hd.2 → g' ∈ g2 := fun j hd g' hj hg' => by
      rw [q1]; exact mem_gsOf.2 ⟨hd, List.mem_of_getElem? hj, hg'⟩
    have hinb : ∀ g', g' ∈ g2 → g' ∈ inn b := fun g' hg' => by
      rw [hgs, hgi]; simp [hg']
    have hinb2 : ∀ g', g' ∈ g :: (g1 ++ g3) → g' ∈ inn b := fun g' hg' => by
      rw [hgs, hgi]
      simp only [List.mem_cons, List.mem_append] at hg' ⊢
      rcases hg' with h | h | h <;> simp [h]
    have hnd1 : (g :: (g1 ++ (g2 ++ g3))).Nodup := by rw [← hgi, ← hgs]; exact hnd
    have hn2 : g2.Nodup := by
      have := (List.nodup_cons.1 hnd1).2
      exact (List.nodup_append.1 (List.nodup_append.1 this).2.1).1
    have hno : ∀ g', g' ∈ g2 → g' ∉ g :: (g1 ++ g3) := fun g' hg' hm => by
      have h0 := List.nodup_cons.1 hnd1
      have h1 := List.nodup_append.1 h0.2
      have h2 := List.nodup_append.1 h1.2.1
      rcases List.mem_cons.1 hm with rfl | hm
      · exact h0.1 (by simp [hg'])
      · rcases List.mem_append.1 hm with hm | hm
        · exact h1.2.2 g' hm g' (by simp [hg']) rfl
        · exact h2.2.2 g' hg' g' hm rfl
    refine ⟨cs, wr, _, hdr', inn', hk, ?_, hh, hlast _ _⟩
    refine h.step (dst := none) (x := .undef) (u := undef) (rd := []) (M' := M) (w' := w) h.ext (Nat.le_refl _) (fun _ _ => rfl) (fun _ h => h) hh (fun p hp => ⟨h.ml p hp, h.mo p hp⟩) ?_ ?_ ?_ trivial
    · intro b' hb'
      rw [setAll_append] at hb'
      simp only [setAll, lk_cons] at hb'
      split at hb'
      · cases hb'
      · rw [lk_setAll _ _ _ hnd2] at hb'
        split at hb'
        · cases hb'
        · rename_i hy
          have := (lookup_range (b := b') q4 q3).2 hy
          show (if _ then _ else _) = _
          rw [if_neg this]; exact h.un b' hb'
    · intro b' C hC
      rcases back hC with ⟨rfl, rfl⟩ | ⟨j, hd, rfl, hj, t', e', ys, rfl, hr⟩ | ⟨e1, e2, hC⟩
      · refine ⟨⟨v, hh _ _ hv, ?_⟩, fun f1 f2 => by
          show (if _ then _ else _) = _
          rw [if_neg hbin]; exact h.ag _ (.deep t T xs none fz) hb f1 f2⟩
        rw [ib]
        refine .inr ⟨g, cap, vs, g1 ++ g3, hsl, rfl, ?_, fun g' hg' => hbs g' (hinb2 g' hg'), h2, h3, h4, h5, ⟨hnl, hul, g1, g3, rfl, k1, ?_, k3⟩, fun p hp hm => h7 p hp (hinb2 _ hm)⟩
        · refine hnd1.sublist ?_
          exact (List.Sublist.append (List.Sublist.refl _) (List.sublist_append_right _ _)).cons_cons _
        · exact q5 hdr' fun j hd hj => (hpos j hd hj).1
      · refine ⟨⟨hd.1, (hpos j hd hj).1, ?_⟩, fun h1 h2 => ?_⟩
        · rw [(hpos j hd hj).2]
          exact hr.blk (fun g' hg' => (hbs g' (hinb _ (hsub j hd g' hj hg'))).inner) fun p hp hm => hf (h7 p hp (hinb _ (hsub j hd _ hj hm)))
        · exfalso
          have h1' : 2 ≤ Rx.inner fz := h1
          have h2' : Rx.inner fz % 2 = 0 := h2
          rcases inner_half fz with ⟨e1, e2⟩ | ⟨_, _, _, e⟩
          · omega
          · omega
      · obtain ⟨u, hu, hr⟩ := h.hp b' C hC
        refine ⟨⟨u, hh _ _ hu, ?_⟩, fun f1 f2 => ?_⟩
        · rw [io b' e1 e2]
          exact hr.keep (fun _ _ => rfl) (fun _ h => h) hh fun g' _ => ⟨rfl, fun p hp _ => hp⟩
        · show (if _ then _ else _) = _
          rw [if_neg e2]; exact h.ag b' C hC f1 f2
    · intro b1 b2 C1 C2 g' hbb hC1 hC2 hg1 hg2
      have hq : gsOf hs = g2 := q1.symm
      rcases back hC1 with ⟨rfl, rfl⟩ | ⟨j, hd, rfl, hj, _⟩ | ⟨e1, e2, hD1⟩
      · rw [ib] at hg1
        rcases back hC2 with ⟨rfl, rfl⟩ | ⟨j, hd, rfl, hj, _⟩ | ⟨e3, e4, hD2⟩
        · exact hbb rfl
        · rw [(hpos j hd hj).2] at hg2
          exact hno g' (hsub j hd g' hj hg2) hg1
        · rw [io b2 e3 e4] at hg2
          exact h.sep _ b2 _ C2 g' hbb hb hD2 (hinb2 g' hg1) hg2
      · rw [(hpos j hd hj).2] at hg1
        rcases back hC2 with ⟨rfl, rfl⟩ | ⟨j', hd', rfl, hj', _⟩ | ⟨e3, e4, hD2⟩
        · rw [ib] at hg2
          exact hno g' (hsub j hd g' hj hg1) hg2
        · rw [(hpos j' hd' hj').2] at hg2
          exact gs_sep (by rw [hq]; exact hn2) (fun e => hbb (by rw [e])) hj hj' hg1 hg2
        · rw [io b2 e3 e4] at hg2
          exact h.sep b b2 _ C2 g' (fun e => e3 e.symm) hb hD2 (hinb g' (hsub j hd g' hj hg1)) hg2
      · rw [io b1 e1 e2] at hg1
        rcases back hC2 with ⟨rfl, rfl⟩ | ⟨j, hd, rfl, hj, _⟩ | ⟨e3, e4, hD2⟩
        · rw [ib] at hg2
          exact h.sep b1 _ C1 _ g' hbb hD1 hb hg1 (hinb2 g' hg2)
        · rw [(hpos j hd hj).2] at hg2
          exact h.sep b1 b C1 _ g' e1 hD1 hb hg1 (hinb g' (hsub j hd g' hj hg2))
        · rw [io b2 e3 e4] at hg2
          exact h.sep b1 b2 C1 C2 g' hbb hD1 hD2 hg1 hg2
  · rename_i m cs
    rcases br_some hk with ⟨hm, hk2⟩ | ⟨_, hk2⟩
    · have hm' : n = m := by simpa using hm
      subst hm'
      refine ⟨cs, [], [], hdr, inn, hk2, h.sameH fun b' => ?_, fun _ _ h => h, hlast _ _⟩
      show lk S.heap b' = lk ((b, some _) :: S.heap) b'
      rw [lk_cons]
      split
      · rename_i e; subst e; exact hb
      · rfl
    · cases hk2

/-- The cells of the element that is laid open. -/
theorem open_elem {t : TypeId} {T : RTy} {xs : List T.den} {cs : List Cell} {fz : Nat} {v : Value} {n : Nat} {gs : List Nat} {base : Nat → Nat → Prop} (h : RepBlk w M hdr base (.deep t T xs (some (n, cs)) fz) v gs) :
    ∃ g cap vs gi, v = .slice (some ⟨g, 0, none⟩) xs.length cap ∧ gs = g :: gi ∧ gs.Nodup ∧ (∀ g ∈ gs, base fz g) ∧ w.heap[g]? = some (.cells vs t (0, 0)) ∧ xs.length ≤ cap ∧ cap ≤ maxLen ∧ vs.size = cap * T.data.size ∧ (∀ p, M p → p.block ∈ gs → fz = 1) ∧
      RepDeep w M hdr T xs (some (n, cs)) (vs.toList.take (xs.length * T.data.size)) gi ∧ n * T.data.size + T.data.size ≤ xs.length * T.data.size ∧ xs.length * T.data.size ≤ vs.size ∧ All2 (RepC w M hdr) cs ((vs.toList.drop (n * T.data.size)).take T.data.size) ∧
      (∀ (j : Nat) u, ((vs.toList.drop (n * T.data.size)).take T.data.size)[j]? = some u → w.cell? ((⟨g, n * T.data.size, none⟩ : Addr).add j) = some u) := by
  rcases h with ⟨_, h, _⟩ | ⟨g, cap, vs, gi, rfl, rfl, hnd, hbs, h2, h3, h4, h5, h6, h7⟩
  · cases h
  · have h6' := h6
    obtain ⟨hn, hul, g1, g2, e, k1, k2, k3⟩ := h6'
    have hsz : n * T.data.size + T.data.size ≤ xs.length * T.data.size := by
      have := Nat.mul_le_mul_right T.data.size (show n + 1 ≤ xs.length from hn)
      rw [Nat.add_mul] at this; omega
    have hcap : xs.length * T.data.size ≤ vs.size := by rw [h5]; exact Nat.mul_le_mul_right _ h3
    have heq : ((vs.toList.take (xs.length * T.data.size)).drop (n * T.data.size)).take T.data.size = (vs.toList.drop (n * T.data.size)).take T.data.size := by
      rw [List.drop_take, List.take_take, Nat.min_eq_left (by omega)]
    rw [heq] at k2
    refine ⟨g, cap, vs, gi, rfl, rfl, hnd, hbs, h2, h3, h4, h5, h7, h6, hsz, hcap, k2, fun j u hu => ?_⟩
    have hj : j < T.data.size := by have := (List.getElem?_eq_some_iff.1 hu).1; simp at this; omega
    rw [add_off, heap_cell h2]
    rw [List.getElem?_take_of_lt hj, List.getElem?_drop] at hu
    simpa using hu

theorem sound_load {E : Env} {t : TypeId} {x : Operand} (h : Good W M0 S hdr inn M a w) (htab : ∀ t i, E.tab.lookup t = some i → TIOK P t i) (ho : o.op = .load t x) (hk : opK E o.op id S some = some e) : Sound P W M0 S a w o e := by
  rw [ho] at hk
  simp only [opK] at hk
  split at hk
  · rename_i i c hi hc
    have hT := htab t i hi
    have hv := h.one hc
    have fin : ∀ {x1 : V1} {rd}, (∃ v, (Instr.loadAt t (a.eval x)).run P w = .ok v w ∧ RepV1 w M hdr x1 v) → e = ⟨.v x1, [], rd⟩ → Sound P W M0 S a w o e := by
      rintro x1 rd ⟨v, hr, hx⟩ rfl
      exact sound_val h (by simp [execOp, ho, hr]) hx
    unfold loadK at hk
    split at hk
    · rename_i b off
      obtain ⟨g, hh, hv⟩ := hv
      split at hk
      · rename_i ty cs hb
        split at hk
        · rename_i x1 hx1
          obtain ⟨v0, hv0, hB⟩ := h.hp b _ (blkAt_some hb)
          obtain ⟨g', vs, rfl, _, h1, h2, h3, h4⟩ := hB
          rw [hh] at hv0
          simp at hv0; subst hv0
          injection hk with hk
          refine fin ?_ hk.symm
          have := load_rep (ad := ⟨g, 0, none⟩) hT hx1 h3 (fun j u hu => by rw [add_zero_block, heap_cell h2]; simpa using hu)
          rw [add_zero_block] at this
          rw [hv]; exact this
        · cases hk
      · cases hk
    · rename_i b n sz off
      obtain ⟨g, nn, cc, hh, hv⟩ := hv
      split at hk
      · rename_i ty et xs fz hb
        split at hk
        · rename_i hsz
          obtain ⟨y, hy, hk⟩ := ob_some hk
          split at hk
          · rename_i x1 hx1
            obtain ⟨v0, hv0, hB⟩ := h.hp b _ (blkAt_some hb)
            obtain ⟨g', cap, vs, rfl, h2, h3, h4, h5, h6⟩ := row_elem hB hy
            rw [hh] at hv0
            simp at hv0; obtain ⟨rfl, _⟩ := hv0
            injection hk with hk
            refine fin ?_ hk.symm
            have := load_rep (hdr := hdr) (ad := ⟨g, n * et.size, none⟩) hT hx1 h3.cells h6
            rw [add_off] at this
            rw [hv, hsz]; exact this
          · cases hk
        · cases hk
      · rename_i ty T xs op fz hb
        split at hk
        · rename_i hsz
          obtain ⟨hsz, hfz⟩ := hsz
          obtain ⟨cs, wr, ids, hdr', inn', hk, hg, hh', hl'⟩ := open_good h (blkAt_some hb) hfz hk
          split at hk
          · rename_i x1 hx1
            injection hk with hk
            subst hk
            obtain ⟨v0, hv0, hB⟩ := hg.hp b _ hl'
            obtain ⟨g', cap, vs, gi, rfl, _, _, _, _, _, _, _, _, _, _, _, hcs, hcell⟩ := open_elem hB
            rw [hh' _ _ hh] at hv0
            simp at hv0; obtain ⟨rfl, _⟩ := hv0
            have := load_rep (P := P) (hdr := hdr') (ad := ⟨g, n * T.data.size, none⟩) hT hx1 hcs hcell
            rw [add_off] at this
            obtain ⟨u, hu1, hu2⟩ := this
            intro K Q hK
            exact wp_val (v := u) (by simp [execOp, ho, hv, hsz, hu1]) (hK _ _ ⟨hdr', inn', M, hg.val (rd := []) hu2⟩)
          · cases hk
        · cases hk
      · cases hk
    · rename_i b n sz
      obtain ⟨g, o0, nn, cc, hh, hv⟩ := hv
      split at hk
      · rename_i ty et xs fz hb
        split at hk
        · rename_i hsz
          obtain ⟨y, hy, hk⟩ := ob_some hk
          split at hk
          · rename_i x1 hx1
            obtain ⟨v0, hv0, hB⟩ := h.hp b _ (blkAt_some hb)
            obtain ⟨g', o', cap, vs, rfl, h2, h3, h6⟩ := que_elem hB.1 hy
            rw [hh] at hv0
            simp at hv0; obtain ⟨⟨rfl, rfl⟩, _⟩ := hv0
            injection hk with hk
            refine fin ?_ hk.symm
            have := load_rep (hdr := hdr) (ad := ⟨g, o0 + n * et.size, none⟩) hT hx1 h3.cells h6
            rw [add_off, Nat.add_zero] at this
            rw [hv, hsz]; exact this
          · cases hk
        · cases hk
      · cases hk
    · rename_i T y off
      obtain ⟨ad, us, hv, hD, hl⟩ := hv
      split at hk
      · rename_i x1 hx1
        injection hk with hk
        refine fin ?_ hk.symm
        rw [hv]
        exact load_rep hT hx1 hD.cells fun j u hu => (hl j u hu).1
      · cases hk
    · cases hk
  · cases hk

theorem takeD_nil : ∀ {T : Ty} {cs r : List Cell} {x : T.den} {vs : List Value}, takeD [] T cs = some (x, r) → All2 (RepC w M hdr) cs vs → ∃ v1 v2, vs = v1 ++ v2 ∧ RepD w M T x v1 ∧ All2 (RepC w M hdr) r v2
  | .unit, cs, r, x, vs, h, hc => by
    simp only [takeD] at h
    cases h
    exact ⟨[], vs, rfl, rfl, hc⟩
  | .pair a b, cs, r, x, vs, h, hc => by
    simp only [takeD] at h
    obtain ⟨y, hy, h⟩ := Option.bind_eq_some_iff.1 h
    obtain ⟨z, hz, h⟩ := Option.bind_eq_some_iff.1 h
    cases h
    obtain ⟨v1, v2, rfl, h1, h2⟩ := takeD_nil hy hc
    obtain ⟨v3, v4, rfl, h3, h4⟩ := takeD_nil hz h2
    exact ⟨v1 ++ v3, v4, by simp, ⟨v1, v3, rfl, h1, h3⟩, h4⟩
  | .int k, cs, r, x, vs, h, hc => by
    simp only [takeD] at h
    split at h
    · split at h
      · rename_i hk
        cases h; subst hk
        obtain ⟨v, vs, rfl, h1, h2⟩ := hc.cons'
        exact ⟨[v], vs, rfl, by simp only [RepC] at h1; simp [RepD, h1], h2⟩
      · cases h
    · cases h
  | .bool, cs, r, x, vs, h, hc => by
    simp only [takeD] at h
    split at h
    · cases h
      obtain ⟨v, vs, rfl, h1, h2⟩ := hc.cons'
      exact ⟨[v], vs, rfl, by simp only [RepC] at h1; simp [RepD, h1], h2⟩
    · cases h
  | .str, cs, r, x, vs, h, hc => by
    simp only [takeD] at h
    split at h
    · cases h
      obtain ⟨v, vs, rfl, h1, h2⟩ := hc.cons'
      exact ⟨[v], vs, rfl, by simp only [RepC] at h1; simp [RepD, h1], h2⟩
    · cases h
  | .slice e, cs, r, x, vs, h, hc => by
    simp only [takeD] at h
    split at h
    · split at h
      · rename_i he
        cases h; subst he
        obtain ⟨v, vs, rfl, h1, h2⟩ := hc.cons'
        exact ⟨[v], vs, rfl, h1, h2⟩
      · cases h
    · split at h
      · rename_i he
        cases h; subst he
        obtain ⟨v, vs, rfl, h1, h2⟩ := hc.cons'
        exact ⟨[v], vs, rfl, h1.1, h2⟩
      · cases h
    · cases h
      obtain ⟨v, vs, rfl, h1, h2⟩ := hc.cons'
      refine ⟨[v], vs, rfl, ?_, h2⟩
      simp only [RepC] at h1
      exact ⟨none, 0, [], by simp [h1], Nat.le_refl _, Nat.zero_le _, rfl, .inl rfl⟩
    · simp [blkAt, lk] at h
    · cases h
  | .ref e, cs, r, x, vs, h, hc => by
    simp only [takeD] at h
    split at h
    · split at h
      · rename_i he
        cases h; subst he
        obtain ⟨v, vs, rfl, ⟨ad, us, h1, h2, h3⟩, h4⟩ := hc.cons'
        exact ⟨[v], vs, rfl, ⟨ad, us, by rw [h1]; rfl, h2, h3⟩, h4⟩
      · cases h
    · simp [blkAt, lk] at h
    · cases h
  | .clo f e, cs, r, x, vs, h, hc => by
    simp only [takeD] at h
    split at h
    · split at h
      · rename_i he
        split at h
        · rename_i hf
          cases h; subst he; subst hf
          obtain ⟨v, vs, rfl, h1, h4⟩ := hc.cons'
          exact ⟨[v], vs, rfl, h1, h4⟩
        · cases h
      · cases h
    · split at h
      · simp [blkAt, lk] at h
      · cases h
    · cases h
theorem takeAll_nil {T : Ty} {cs : List Cell} {x : T.den} {vs : List Value} (h : takeAll [] T cs = some x) (hc : All2 (RepC w M hdr) cs vs) : RepD w M T x vs := by
  unfold takeAll at h
  obtain ⟨y, hy, h⟩ := Option.bind_eq_some_iff.1 h
  split at h
  · rename_i hr
    cases h
    obtain ⟨v1, v2, rfl, h1, h2⟩ := takeD_nil (x := y.1) (r := y.2) hy hc
    rw [hr] at h2
    cases h2.nil'
    simpa using h1
  · cases h

theorem run_storeAt {t : TypeId} {i : TI} {g off : Nat} {ty : TypeId} {vs : Array Value} {v : Value} (hi : TIOK P t i) (hg : w.heap[g]? = some (.cells vs ty (0, 0))) (hsz : v.cells.toList.length = i.size) (hl : off + i.size ≤ vs.size) (h1 : ∀ u ∈ v.cells.toList, u.oneCell' = true) :
    (Instr.storeAt t (.pointer (some ⟨g, off, none⟩)) v).run P w = .ok () (w.setRow g (vs.toList.take off ++ v.cells.toList ++ vs.toList.drop (off + v.cells.toList.length)).toArray) := by
  have := run_storeCells_at (P := P) g off ty v.cells.toList 0 vs w hg (by rw [hsz]; simpa using hl) h1
  simp only [Nat.add_zero] at this
  have hs : v.cells.size = i.size := by simpa using hsz
  simp [Instr.storeAt, Instr.sureAddr, storeVar, hi.size, hs, this]

theorem setRow_cell {g : Nat} {cs : Array Value} {p : Addr} (h : p.block ≠ g) : (w.setRow g cs).cell? p = w.cell? p := cell_setRow_other w g cs p h

theorem splice {α : Type} (l u : List α) (A s off L : Nat) (h : off + u.length ≤ s) (h2 : A + s ≤ L) (h3 : L ≤ l.length) :
    (l.take (A + off) ++ u ++ l.drop (A + off + u.length)).take L = (l.take L).take A ++ (((l.drop A).take s).take off ++ u ++ ((l.drop A).take s).drop (off + u.length)) ++ (l.take L).drop (A + s) := by
  apply List.ext_getElem?
  intro j
  simp only [List.getElem?_append, List.getElem?_take, List.getElem?_drop, List.length_append, List.length_take, List.length_drop]
  repeat' split
  all_goals first
    | rfl
    | omega
    | (congr 1; omega)
    | (rw [List.getElem?_eq_none (by omega)])
    | (symm; rw [List.getElem?_eq_none (by omega)])

theorem three {α : Type} (P E Q : List α) {A s : Nat} (hP : P.length = A) (hE : E.length = s) : (P ++ E ++ Q).take A = P ∧ ((P ++ E ++ Q).drop A).take s = E ∧ (P ++ E ++ Q).drop (A + s) = Q := by
  subst hP; subst hE
  refine ⟨by simp, by simp, ?_⟩
  rw [← List.length_append]
  exact List.drop_left
theorem sound_store {E : Env} {t : TypeId} {x y : Operand} (h : Good W M0 S hdr inn M a w) (htab : ∀ t i, E.tab.lookup t = some i → TIOK P t i) (ho : o.op = .store t x y) (hk : opK E o.op id S some = some e) : Sound P W M0 S a w o e := by
  rw [ho] at hk
  simp only [opK] at hk
  split at hk
  · rename_i i c v1 hi hc hv1
    have hT := htab t i hi
    have hv := h.one hc
    have hy := h.v1 hv1
    have hyc := RepV1.cells hy
    unfold storeK at hk
    dsimp only at hk
    split at hk
    · rename_i hlen
      have hul : (a.eval y).cells.toList.length = i.size := by rw [← hyc.len]; exact hlen
      have hone : ∀ u ∈ (a.eval y).cells.toList, u.oneCell' = true := hyc.all_right fun _ _ h => RepC.one h
      split at hk
      · rename_i b off
        obtain ⟨g, hh, hv⟩ := hv
        split at hk
        · rename_i ty cs fz hb
          split at hk
          · rename_i hoff
            obtain ⟨hfz, hoff⟩ := hoff
            injection hk with hk
            subst hk
            have hb' := blkAt_some hb
            obtain ⟨v0, hv0, hB⟩ := h.hp b _ hb'
            obtain ⟨g', vs, rfl, hgs, h1, h2, h3, h4⟩ := hB
            rw [hh] at hv0
            simp at hv0; subst hv0
            have hcl := h3.len
            have hr := run_storeAt (P := P) (off := off) hT h2 hul (by simp at hcl; omega) hone
            intro K Q hK
            have hkeep : ∀ p, M p → (w.setRow g (vs.toList.take off ++ (a.eval y).cells.toList ++ vs.toList.drop (off + (a.eval y).cells.toList.length)).toArray).cell? p = w.cell? p := fun p hp => setRow_cell fun e => hfz (h4 p hp e).1
            refine wp_skp (w' := w.setRow g (vs.toList.take off ++ (a.eval y).cells.toList ++ vs.toList.drop (off + (a.eval y).cells.toList.length)).toArray) (by simp only [execOp, ho, hv]; simp [hr]) (hK _ _ ⟨hdr, inn, M, ?_⟩)
            refine h.write hb' hh rfl (below_row h.ext h1) (by simp) (fun g' hg' _ => setRow_other w g g' _ (fun e => hg' (by rw [hgs, e]; simp))) hkeep ?_ trivial
            rw [hgs]
            exact ⟨g, _, rfl, rfl, h1, setRow_heap w g vs _ ty (0, 0) h2, by simpa using (putCells_rep h3 hyc).mono fun _ _ h => h.keep hkeep (fun _ h => h) (fun _ _ h => h), fun p hp e => absurd (h4 p hp e).1 hfz⟩
          · cases hk
        · cases hk
      · rename_i b n sz off
        obtain ⟨g, nn, cc, hh, hv⟩ := hv
        split at hk
        · rename_i ty et xs fz hb
          split at hk
          · rename_i hsz
            obtain ⟨hfz, hsz, hoff⟩ := hsz
            obtain ⟨x0, hx0, hk⟩ := ob_some hk
            obtain ⟨x1, hx1, hk⟩ := Option.bind_eq_some_iff.1 hk
            injection hk with hk
            subst hk
            have hb' := blkAt_some hb
            obtain ⟨v0, hv0, hB⟩ := h.hp b _ hb'
            have hB' := hB
            obtain ⟨g', cap, vs, rfl, h2, h3, h4, h5, h6⟩ := row_elem hB hx0
            rw [hh] at hv0
            simp at hv0; obtain ⟨rfl, rfl, rfl⟩ := hv0
            rcases hB' with ⟨_, h, _⟩ | ⟨g', cap', vs', e1, hgs, k1, k2, k3, k4, k5, k6, k7⟩
            · cases h
            · simp at e1; obtain ⟨rfl, rfl⟩ := e1
              rw [h2] at k2; simp at k2; subst k2
              have hn : n < xs.length := (List.getElem?_eq_some_iff.1 hx0).1
              have hcl := h3.len
              have hr := run_storeAt (P := P) (off := n * et.size + off) hT h2 hul (by rw [← hlen]; omega) hone
              have hM : ∀ p, M p → p.block ≠ g := fun p hp e => hfz (k7 p hp e).1
              have hkeep : ∀ p, M p → (w.setRow g (vs.toList.take (n * et.size + off) ++ (a.eval y).cells.toList ++ vs.toList.drop (n * et.size + off + (a.eval y).cells.toList.length)).toArray).cell? p = w.cell? p := fun p hp => setRow_cell (hM p hp)
              have hnew := putCells_rep (off := off) (h3.cells (hdr := hdr)) hyc
              have hD := takeAll_nil hx1 hnew
              have hset := RepL.set (fun x vs h => RepD.len h) k6 hn hD
              intro K Q hK
              refine wp_skp (w' := w.setRow g (vs.toList.take (n * et.size + off) ++ (a.eval y).cells.toList ++ vs.toList.drop (n * et.size + off + (a.eval y).cells.toList.length)).toArray) (by simp only [execOp, ho, hv, hsz]; simp [hr]) (hK _ _ ⟨hdr, inn, M, ?_⟩)
              refine h.write hb' hh rfl (below_row h.ext k1) (by simp) (fun g' hg' _ => setRow_other w g g' _ (fun e => hg' (by rw [hgs, e]; simp))) hkeep ?_ trivial
              rw [hgs]
              refine .inr ⟨g, cc, _, by simp, rfl, k1, setRow_heap w g vs _ ty (0, 0) h2, by simpa using k3, k4, ?_, ?_, fun p hp e => absurd e (hM p hp)⟩
              · have : (a.eval y).cells.size = i.size := by simpa using hul
                simp; omega
              · have hvl : vs.size = vs.toList.length := by simp
                have := splice vs.toList (a.eval y).cells.toList (n * et.size) et.size off (xs.length * et.size) (by rw [hul, ← hlen]; exact hoff) h4 (by rw [← hvl]; exact h5)
                rw [List.length_set]
                have e2 : ∀ l : List Value, l.toArray.toList = l := fun _ => rfl
                rw [e2, this]
                exact hset.mono fun _ _ h => h.keep hkeep (fun _ h => h)
          · cases hk
        · rename_i ty T xs op fz hb
          split at hk
          · rename_i hsz
            obtain ⟨hsz, hfz, hoff⟩ := hsz
            obtain ⟨cs, wr, ids, hdr', inn', hk, hg, hh', hl'⟩ := open_good h (blkAt_some hb) hfz hk
            injection hk with hk
            subst hk
            obtain ⟨v0, hv0, hB⟩ := hg.hp b _ hl'
            obtain ⟨g', cap, vs, gi, rfl, hgs, hnd, hbs, h2, h3, h4, h5, h7, h6, hle, hcap, hcs, hcell⟩ := open_elem hB
            have hv0' := hv0
            rw [hh' _ _ hh] at hv0
            simp at hv0; obtain ⟨rfl, _⟩ := hv0
            have hM : ∀ p, M p → p.block ∉ inn' b := fun p hp e => hfz (h7 p hp e)
            have hMg : ∀ p, M p → p.block ≠ g := fun p hp e => hM p hp (by rw [hgs, e]; simp)
            have hr := run_storeAt (P := P) (off := n * T.data.size + off) hT h2 hul (by rw [← hlen]; omega) hone
            have hkeep : ∀ p, M p → (w.setRow g (vs.toList.take (n * T.data.size + off) ++ (a.eval y).cells.toList ++ vs.toList.drop (n * T.data.size + off + (a.eval y).cells.toList.length)).toArray).cell? p = w.cell? p := fun p hp => setRow_cell (hMg p hp)
            have hyc' : All2 (RepC w M hdr') v1.cells (a.eval y).cells.toList := hyc.mono fun _ _ h => h.keep (fun _ _ => rfl) (fun _ h => h) hh'
            have hnew := putCells_rep (off := off) hcs hyc'
            have hcsl := hcs.len
            intro K Q hK
            refine wp_skp (w' := w.setRow g (vs.toList.take (n * T.data.size + off) ++ (a.eval y).cells.toList ++ vs.toList.drop (n * T.data.size + off + (a.eval y).cells.toList.length)).toArray) (by simp only [execOp, ho, hv, hsz]; simp [hr]) (hK _ _ ⟨hdr', inn', M, ?_⟩)
            have hw := hg.write (dst := o.dst) (x := .undef) (u := undef) (rd := []) (B := .deep ty T xs (some (n, putCells cs off v1.cells)) fz) hl' hv0' rfl
              (w' := w.setRow g (vs.toList.take (n * T.data.size + off) ++ (a.eval y).cells.toList ++ vs.toList.drop (n * T.data.size + off + (a.eval y).cells.toList.length)).toArray)
              (below_row h.ext (hbs g (by rw [hgs]; simp))) (by simp) (fun g' hg' _ => setRow_other w g g' _ (fun e => hg' (by rw [hgs, e]; simp))) hkeep ?_ trivial
            · show Good W M0 (S.app o.dst ⟨.undef, wr ++ [(b, some (.deep ty T xs (some (n, cs)) fz)), (b, some (.deep ty T xs (some (n, putCells cs off v1.cells)) fz))], b :: ids⟩) hdr' inn' M _ _
              have e : wr ++ [(b, some (Blk.deep ty T xs (some (n, cs)) fz)), (b, some (.deep ty T xs (some (n, putCells cs off v1.cells)) fz))] = (wr ++ [(b, some (.deep ty T xs (some (n, cs)) fz))]) ++ [(b, some (.deep ty T xs (some (n, putCells cs off v1.cells)) fz))] := by simp
              unfold St.app
              dsimp only
              rw [e, setAll_append]
              exact hw
            · refine .inr ⟨g, cap, _, gi, rfl, hgs, hnd, hbs, setRow_heap w g vs _ ty (0, 0) h2, h3, h4, ?_, ?_, fun p hp e => absurd e (hM p hp)⟩
              · have : (a.eval y).cells.size = i.size := by simpa using hul
                simp; omega
              · have hvl : vs.size = vs.toList.length := by simp
                have hsp := splice vs.toList (a.eval y).cells.toList (n * T.data.size) T.data.size off (xs.length * T.data.size) (by rw [hul, ← hlen]; exact hoff) hle (by rw [← hvl]; exact hcap)
                have e2 : ∀ l : List Value, l.toArray.toList = l := fun _ => rfl
                rw [e2, hsp]
                obtain ⟨d1, d2, g1, g2, d3, d4, d5, d6⟩ := h6
                have hgn : ∀ g' ∈ gi, g' ≠ g := fun g' hm e => by
                  rw [hgs] at hnd
                  exact (List.nodup_cons.1 hnd).1 (by rw [← e]; exact hm)
                have kO : ∀ {l : List T.den} {us : List Value} {gs' : List Nat}, (∀ g' ∈ gs', g' ∈ gi) → RepOL (RepO w M T) l us gs' → RepOL (RepO (w.setRow g (vs.toList.take (n * T.data.size + off) ++ (a.eval y).cells.toList ++ vs.toList.drop (n * T.data.size + off + (a.eval y).cells.toList.length)).toArray) M T) l us gs' := fun hsub h =>
                  RepOL.mono (fun x vs gs' hg' h => RepO.keep hkeep (fun _ h => h) (fun g' hm => setRow_other w g g' _ (hgn g' (hsub g' (hg' g' hm)))) h) h
                have hel : (((vs.toList.drop (n * T.data.size)).take T.data.size).take off ++ (a.eval y).cells.toList ++ ((vs.toList.drop (n * T.data.size)).take T.data.size).drop (off + (a.eval y).cells.toList.length)).length = T.data.size := by
                  have hyl : (a.eval y).cells.toList.length = v1.cells.length := by rw [hul, hlen]
                  simp only [List.length_append, List.length_take, List.length_drop]
                  rw [hyl]
                  simp only [Array.length_toList]
                  omega
                have htl : ((vs.toList.take (xs.length * T.data.size)).take (n * T.data.size)).length = n * T.data.size := by
                  simp only [List.length_take, Array.length_toList]; omega
                obtain ⟨t1, t2, t3⟩ := three _ _ ((vs.toList.take (xs.length * T.data.size)).drop (n * T.data.size + T.data.size)) htl hel
                refine ⟨d1, ?_, g1, g2, d3, ?_, ?_, ?_⟩
                · rw [List.length_append, List.length_append, htl, hel, List.length_drop, d2]
                  omega
                · rw [t1]
                  exact kO (fun g' hm => by rw [d3]; simp [hm]) d4
                · rw [t2]
                  exact hnew.mono fun _ _ h => h.keep hkeep (fun _ h => h) (fun _ _ h => h)
                · rw [t3]
                  exact kO (fun g' hm => by rw [d3]; simp [hm]) d6
          · cases hk
        · cases hk
      · cases hk
    · cases hk
  · cases hk
end
end Rx
end Go.Proofs.YtonbgpliomhboaaGreatDoor

namespace Go.Proofs.YtonbgpliomhboaaGreatDoor
open Go.RowKit
namespace Rx

section
variable {P : Program} {W : WX} {M0 : Mem} {S : St} {hdr : Nat → Option Value} {inn : Nat → List Nat} {M : Mem} {a : Act} {w : World} {o : Oper} {e : Eff} {id : Nat} {E : Env}

theorem sound_un {op : UnOp} {t : TypeId} {x : Operand} (h : Good W M0 S hdr inn M a w) (ho : o.op = .unOp op t x) (hk : opK E o.op id S some = some e) : Sound P W M0 S a w o e := by
  rw [ho] at hk
  simp only [opK] at hk
  split at hk
  · rename_i b hx
    cases hk
    exact sound_val h (v := .bool (!b)) (by simp [execOp, ho, h.bool hx, Op.unary]) rfl
  · rename_i kd n hx
    cases hk
    exact sound_val h (v := .int kd (kd.wrap (0 - n))) (by simp [execOp, ho, h.int hx, Op.unary, Op.intArith]) rfl
  · cases hk

theorem sound_nilCheck {x : Operand} (h : Good W M0 S hdr inn M a w) (ho : o.op = .nilCheck x) (hk : opK E o.op id S some = some e) : Sound P W M0 S a w o e := by
  rw [ho] at hk
  simp only [opK] at hk
  split at hk
  · rename_i b off hx
    cases hk
    have hr := h.one hx
    obtain ⟨g, h1, h2⟩ := hr
    exact sound_val h (by simp [execOp, ho, h2]) ⟨g, h1, rfl⟩
  · rename_i b i s off hx
    cases hk
    have hr := h.one hx
    obtain ⟨g, n, c, h1, h2⟩ := hr
    exact sound_val h (by simp [execOp, ho, h2]) ⟨g, n, c, h1, rfl⟩
  · rename_i T y off hx
    cases hk
    have hr := h.one hx
    obtain ⟨ad, us, h2, h3⟩ := hr
    exact sound_val h (by simp [execOp, ho, h2]) ⟨ad, us, rfl, h3⟩
  · cases hk

theorem sound_extract {x : Operand} {n : Nat} (h : Good W M0 S hdr inn M a w) (ho : o.op = .extract x n) (hk : opK E o.op id S some = some e) : Sound P W M0 S a w o e := by
  rw [ho] at hk
  simp only [opK] at hk
  split at hk
  · rename_i xs hx
    split at hk
    · rename_i y hy
      cases hk
      have hr := h.ev x
      rw [hx] at hr
      obtain ⟨vs, hv, hA⟩ := hr
      obtain ⟨v, hvs, hR⟩ := hA.get hy
      exact sound_val h (v := v) (by simp [execOp, ho, hv, Instr.extract, hvs]) hR
    · cases hk
  · cases hk

theorem run_fieldAt {t : TypeId} {i fi : TI} {fs : List (Nat × TypeId)} {f : Nat} {p : Nat × TypeId} {ad : Addr} (hi : TIOK P t i) (hd : i.desc = .struct fs) (hf : fs[f]? = some p) (hfi : TIOK P p.2 fi) :
    (Instr.fieldAt t (.pointer (some ad)) f).run P w = .ok (.pointer (some (ad.add p.1))) w := by
  obtain ⟨fields, hu, rfl⟩ := hi.struct hd
  rw [List.getElem?_map] at hf
  obtain ⟨fd, h1, rfl⟩ := Option.map_eq_some_iff.1 hf
  have h1' : fields[f]? = some fd := by simpa using h1
  have hz : ¬ fi.size = 0 := by have := hfi.pos; omega
  simp [Instr.fieldAt, run_underlying hu, h1', Instr.sureAddr, fieldPlace, hfi.size, hz]

theorem sound_fieldAddr {t : TypeId} {x : Operand} {f : Nat} (h : Good W M0 S hdr inn M a w) (htab : ∀ t i, E.tab.lookup t = some i → TIOK P t i) (ho : o.op = .fieldAddr t x f) (hk : opK E o.op id S some = some e) : Sound P W M0 S a w o e := by
  rw [ho] at hk
  simp only [opK] at hk
  split at hk
  · rename_i i c hi hc
    split at hk
    · rename_i fs hd
      split at hk
      · rename_i p hp
        split at hk
        · rename_i fi hfi
          have hr := h.one hc
          have run : ∀ ad, (a.eval x) = .pointer (some ad) → (execOp a.eval o).run P w = .ok (.value (.pointer (some (ad.add p.1)))) w := by
            intro ad had
            simp [execOp, ho, had, run_fieldAt (htab _ _ hi) hd hp (htab _ _ hfi)]
          split at hk
          · cases hk
            obtain ⟨g, h1, h2⟩ := hr
            have := run _ h2
            rw [add_off] at this
            exact sound_val h this ⟨g, h1, rfl⟩
          · cases hk
            obtain ⟨g, n, c, h1, h2⟩ := hr
            have := run _ h2
            rw [add_off] at this
            exact sound_val h this ⟨g, n, c, h1, by rw [Nat.add_assoc]⟩
          · cases hk
            obtain ⟨ad, us, h2, h3⟩ := hr
            have := run _ h2
            rw [add_add'] at this
            exact sound_val h this ⟨ad, us, rfl, h3⟩
          · cases hk
        · cases hk
      · cases hk
    · cases hk
  · cases hk

theorem run_part {t : TypeId} {i : TI} {cs : List Cell} {us : List Value} {off : Nat} {x : V1} (hi : TIOK P t i) (h : v1At i cs off = some x) (hc : All2 (RepC w M hdr) cs us) : ∃ v, (part t us.toArray off).run P w = .ok v w ∧ RepV1 w M hdr x v := by
  obtain ⟨hl, h⟩ := v1At_rep h hc
  rcases h with ⟨ha, hx⟩ | ⟨ha, u, hu, hx⟩
  · refine ⟨_, ?_, hx⟩
    simp [part, hi.agg, ha, hi.size]
  · refine ⟨u, ?_, hx⟩
    have : us[off]? = some u := by
      have h0 : ((us.drop off).take i.size)[0]? = some u := by rw [hu]; rfl
      rw [List.getElem?_take_of_lt hi.pos, List.getElem?_drop] at h0
      simpa using h0
    simp [part, hi.agg, ha, this]

theorem sound_field {t : TypeId} {x : Operand} {f : Nat} (h : Good W M0 S hdr inn M a w) (htab : ∀ t i, E.tab.lookup t = some i → TIOK P t i) (ho : o.op = .field t x f) (hk : opK E o.op id S some = some e) : Sound P W M0 S a w o e := by
  rw [ho] at hk
  simp only [opK] at hk
  split at hk
  · rename_i i cs hi hc
    split at hk
    · rename_i fs hd
      split at hk
      · rename_i p hp
        split at hk
        · rename_i fi hfi
          split at hk
          · rename_i x1 hx1
            cases hk
            obtain ⟨us, hv, hA⟩ := h.v1 hc
            obtain ⟨v, h1, h2⟩ := run_part (htab _ _ hfi) hx1 hA
            obtain ⟨fields, hu, rfl⟩ := (htab _ _ hi).struct hd
            rw [List.getElem?_map] at hp
            obtain ⟨fd, h3, rfl⟩ := Option.map_eq_some_iff.1 hp
            have h3' : fields[f]? = some fd := by simpa using h3
            exact sound_val h (v := v) (by simp only [execOp, ho, hv]; simp [Instr.field, run_underlying hu, h3', asAgg, h1]) h2
          · cases hk
        · cases hk
      · cases hk
    · cases hk
  · cases hk

theorem intOf_rep {x : Operand} {k : IntKind} {n : Int} (h : Good W M0 S hdr inn M a w) (hx : intOfAV (S.ev x) = some (k, n)) : a.eval x = .int k n := by
  unfold intOfAV at hx
  split at hx
  · rename_i k' n' he
    cases hx
    exact h.int he
  · cases hx

theorem idx_some {α : Type} {xs : List α} {i : Int} {x : α} (h : idx xs i = some x) : 0 ≤ i ∧ xs[i.toNat]? = some x ∧ i < xs.length := by
  unfold idx at h
  split at h
  · rename_i h0
    have := (List.getElem?_eq_some_iff.1 h).1
    exact ⟨h0, h, by omega⟩
  · cases h

theorem RepD.sliceInv {e : Ty} {xs : List e.den} {vs : List Value} (h : RepD w M (.slice e) xs vs) : ∃ A c us, vs = [.slice A xs.length c] ∧ xs.length ≤ c ∧ c ≤ maxLen ∧ RepL (RepD w M e) xs us ∧ (xs = [] ∨ ∃ ad, A = some ad ∧ Lies w M ad us) := h

theorem sound_indexAddr {t : TypeId} {x y : Operand} (h : Good W M0 S hdr inn M a w) (htab : ∀ t i, E.tab.lookup t = some i → TIOK P t i) (ho : o.op = .indexAddr t x y) (hk : opK E o.op id S some = some e) : Sound P W M0 S a w o e := by
  rw [ho] at hk
  simp only [opK] at hk
  split at hk
  · rename_i ti c k0 n hti hc hn
    have hn' := intOf_rep h hn
    have hr := h.one hc
    split at hk
    · rename_i et hd
      split at hk
      · rename_i ei hei
        have hu := (htab _ _ hti).slice hd
        have hel : P.elem t = et := by simp [Program.elem, hu]
        have run : ∀ ad (len cap : Nat), a.eval x = .slice (some ad) len cap → 0 ≤ n → n < len → (execOp a.eval o).run P w = .ok (.value (.pointer (some (ad.add (n.toNat * ei.size))))) w := by
          intro ad len cap hx h0 h1
          have := run_indexAt_slice (P := P) w t ad len cap k0 n (by rw [hel]; exact hu)
          rw [if_pos ⟨h0, h1⟩, hel, (htab _ _ hei).size] at this
          simp [execOp, ho, hx, hn', this]
        split at hk
        · rename_i e1 xs
          split at hk
          · rename_i hsz
            obtain ⟨z, hz, hk⟩ := ob_some hk
            obtain ⟨h0, hz, hlt⟩ := idx_some hz
            cases hk
            obtain ⟨A, c, us, e2, h1, h2, h3, h4⟩ := RepD.sliceInv hr
            simp at e2
            rcases h4 with h4 | ⟨ad, rfl, hl⟩
            · subst h4; simp at hz
            · have hD := RepL.get (fun x vs h => RepD.len h) h3 hz
              refine sound_val h (run ad _ _ e2 h0 hlt) ⟨ad.add (n.toNat * ei.size), _, by rw [add_add']; rfl, hD, fun j u hu => ?_⟩
              have hj : j < e1.size := by have := (List.getElem?_eq_some_iff.1 hu).1; simp at this; omega
              rw [List.getElem?_take_of_lt hj, List.getElem?_drop] at hu
              rw [add_add', ← hsz]
              exact hl _ _ hu
          · cases hk
        · rename_i bn e1 xs
          split at hk
          · rename_i hsz
            obtain ⟨z, hz, hk⟩ := ob_some hk
            obtain ⟨h0, hz, hlt⟩ := idx_some hz
            cases hk
            obtain ⟨A, c, us, e2, h1, h2, h3, h4⟩ := RepD.sliceInv hr.1
            simp at e2
            rcases h4 with h4 | ⟨ad, rfl, hl⟩
            · subst h4; simp at hz
            · have hD := RepL.get (fun x vs h => RepD.len h) h3 hz
              refine sound_val h (run ad _ _ e2 h0 hlt) ⟨ad.add (n.toNat * ei.size), _, by rw [add_add']; rfl, hD, fun j u hu => ?_⟩
              have hj : j < e1.size := by have := (List.getElem?_eq_some_iff.1 hu).1; simp at this; omega
              rw [List.getElem?_take_of_lt hj, List.getElem?_drop] at hu
              rw [add_add', ← hsz]
              exact hl _ _ hu
          · cases hk
        · rename_i b
          split at hk
          · rename_i ty e1 xs fz hb
            split at hk
            · rename_i hsz
              obtain ⟨z, hz, hk⟩ := ob_some hk
              obtain ⟨h0, hz, hlt⟩ := idx_some hz
              cases hk
              obtain ⟨v0, hv0, hB⟩ := h.hp b _ (blkAt_some hb)
              obtain ⟨hh, _⟩ := hr
              obtain ⟨g, cap, vs, rfl, h2, h3, h4, h5, h6⟩ := row_elem hB hz
              rw [hh] at hv0
              simp at hv0
              have := run _ _ _ hv0 h0 hlt
              rw [add_zero_block] at this
              exact sound_val h this ⟨g, _, _, by rw [hh, hv0], by rw [hsz]; rfl⟩
            · cases hk
          · rename_i ty T xs op fz hb
            split at hk
            · rename_i hsz
              obtain ⟨z, hz, hk⟩ := ob_some hk
              obtain ⟨h0, hz, hlt⟩ := idx_some hz
              cases hk
              obtain ⟨v0, hv0, hB⟩ := h.hp b _ (blkAt_some hb)
              obtain ⟨hh, _⟩ := hr
              rcases hB with ⟨rfl, _⟩ | ⟨g, cap, vs, gi, rfl, _⟩
              · simp at hz
              · rw [hh] at hv0
                simp at hv0
                have := run _ _ _ hv0 h0 hlt
                rw [add_zero_block] at this
                exact sound_val h this ⟨g, _, _, by rw [hh, hv0], by rw [hsz]; rfl⟩
            · cases hk
          · rename_i ty e1 xs fz hb
            split at hk
            · rename_i hsz
              obtain ⟨z, hz, hk⟩ := ob_some hk
              obtain ⟨h0, hz, hlt⟩ := idx_some hz
              cases hk
              obtain ⟨v0, hv0, hB⟩ := h.hp b _ (blkAt_some hb)
              obtain ⟨hh, _⟩ := hr
              obtain ⟨g, o', cap, vs, rfl, h2, h3, h4⟩ := que_elem hB.1 hz
              rw [hh] at hv0
              simp at hv0
              have := run _ _ _ hv0 h0 hlt
              rw [add_off] at this
              exact sound_val h this ⟨g, o', _, _, by rw [hh, hv0], by rw [hsz]⟩
            · cases hk
          · cases hk
        · cases hk
      · cases hk
    · rename_i m et hd
      split at hk
      · rename_i ei b off hei
        split at hk
        · rename_i hb
          cases hk
          obtain ⟨h0, h1, h2⟩ := hb
          have hu := (htab _ _ hti).array hd
          obtain ⟨g, hh, hv⟩ := hr
          have hs := (htab _ _ hei).size (w := w)
          refine sound_val h (v := .pointer (some ⟨g, off + n.toNat * ei.size, none⟩)) ?_ ⟨g, hh, rfl⟩
          have e1 : (Instr.indexAt t (.pointer (some ⟨g, off, none⟩)) (.int k0 n)).run P w = .ok (.pointer (some ⟨g, off + n.toNat * ei.size, none⟩)) w := by
            have hm : ¬ m ≤ 1 := by omega
            simp [Instr.indexAt, asIntOf, run_underlying hu, Instr.sureAddr, h0, h1, hs, add_off]
          simp [execOp, ho, hv, hn', e1]
        · cases hk
      · cases hk
    · cases hk
  · cases hk

theorem sound_index {t : TypeId} {x y : Operand} (h : Good W M0 S hdr inn M a w) (htab : ∀ t i, E.tab.lookup t = some i → TIOK P t i) (ho : o.op = .index t x y) (hk : opK E o.op id S some = some e) : Sound P W M0 S a w o e := by
  rw [ho] at hk
  simp only [opK] at hk
  split at hk
  · rename_i ti s k0 n hti hc hn
    have hn' := intOf_rep h hn
    have hs := h.str hc
    split at hk
    · rename_i hd
      obtain ⟨b, hb, hk⟩ := ob_some hk
      cases hk
      unfold sidx at hb
      split at hb
      · rename_i h0
        have hu := (htab _ _ hti).str hd
        refine sound_val h (v := .int .u8 b.toNat) ?_ rfl
        simp [execOp, ho, hs, hn', Instr.index, asIntOf, run_underlying hu, h0, hb]
      · cases hb
    · cases hk
  · cases hk

theorem boundOf_rep {x : Option Operand} {d l : Int} (h : Good W M0 S hdr inn M a w) (hb : boundOf S x d = some l) : (x = none ∧ l = d) ∨ ∃ o k, x = some o ∧ a.eval o = .int k l := by
  unfold boundOf at hb
  split at hb
  · cases hb; exact .inl ⟨rfl, rfl⟩
  · rename_i o
    obtain ⟨p, hp, rfl⟩ := Option.map_eq_some_iff.1 hb
    exact .inr ⟨o, p.1, rfl, intOf_rep h hp⟩

theorem run_sliceBound {k : IntKind} {i : Int} {y : Nat} {c : BoundsCode} (h0 : 0 ≤ i) (h1 : i ≤ y) : (Instr.sliceBound (.int k i) y c).run P w = .ok i.toNat w := by
  simp [Instr.sliceBound, asIntOf, h0, h1]
theorem run_bounds {isS : Bool} {len cap : Nat} {lo hi : Option Operand} {l hh : Int} (hl : (lo = none ∧ l = 0) ∨ ∃ o k, lo = some o ∧ a.eval o = .int k l) (hhi : (hi = none ∧ hh = len) ∨ ∃ o k, hi = some o ∧ a.eval o = .int k hh)
    (h0 : 0 ≤ l) (h1 : l ≤ hh) (h2 : hh ≤ len) (hc : len ≤ cap) : (Instr.sliceBounds isS len cap (lo.map a.eval) (hi.map a.eval) none).run P w = .ok (l.toNat, hh.toNat, cap) w := by
  have e1 : hh.toNat = hh := by omega
  have hb : ∀ k c, (Instr.sliceBound (.int k hh) cap c).run P w = .ok hh.toNat w := fun k c => run_sliceBound (by omega) (by omega)
  have hb2 : ∀ k c, (Instr.sliceBound (.int k l) hh.toNat c).run P w = .ok l.toNat w := fun k c => run_sliceBound h0 (by omega)
  rcases hl with ⟨rfl, rfl⟩ | ⟨o1, k1, rfl, e3⟩ <;> rcases hhi with ⟨rfl, rfl⟩ | ⟨o2, k2, rfl, e4⟩
  · simp [Instr.sliceBounds]
  · simp [Instr.sliceBounds, e4, hb]
  · have hb3 : ∀ k c, (Instr.sliceBound (.int k l) len c).run P w = .ok l.toNat w := fun k c => run_sliceBound h0 (by omega)
    simp [Instr.sliceBounds, e3, hb3]
  · simp [Instr.sliceBounds, e3, e4, hb, hb2]

/-- A part of a slice of data. -/
theorem slice_run {t et : TypeId} {ti ei : TI} {x : Operand} {lo hi : Option Operand} {e1 : Ty} {xs : List e1.den} {l hh : Int} {M' : Mem} (h : Good W M0 S hdr inn M a w) (htab : ∀ t i, E.tab.lookup t = some i → TIOK P t i) (ho : o.op = .slice t x lo hi none) (hti : E.tab.lookup t = some ti) (hd : ti.desc = .slice et)
    (hei : E.tab.lookup et = some ei) (hsz : e1.size = ei.size) (hl : boundOf S lo 0 = some l) (hhi : boundOf S hi xs.length = some hh) (hb : 0 ≤ l ∧ l ≤ hh ∧ hh ≤ xs.length) (hr : RepD w M' (.slice e1) xs [a.eval x]) :
    ∃ v, (execOp a.eval o).run P w = .ok (.value v) w ∧ RepD w M' (.slice e1) ((xs.take hh.toNat).drop l.toNat) [v] := by
  obtain ⟨h0, h1, h2⟩ := hb
  have hu := (htab _ _ hti).slice hd
  obtain ⟨A, c, us, e2, g1, g2, g3, g4⟩ := RepD.sliceInv hr
  simp at e2
  have hbd := run_bounds (P := P) (w := w) (isS := true) (boundOf_rep h hl) (boundOf_rep h hhi) h0 h1 h2 g1
  have hlen : ((xs.take hh.toNat).drop l.toNat).length = hh.toNat - l.toNat := by simp; omega
  refine ⟨.slice (if c = l.toNat then A else A.map (·.add (l.toNat * ei.size))) (hh.toNat - l.toNat) (c - l.toNat), ?_, ?_⟩
  · simp [execOp, ho, e2, Instr.sliceAt, Instr.slice, run_underlying hu, hbd, (htab _ _ hei).size]
  · refine ⟨_, c - l.toNat, (us.take (hh.toNat * e1.size)).drop (l.toNat * e1.size), by rw [hlen], by rw [hlen]; omega, by omega, ?_, ?_⟩
    · exact RepL.drop (fun x vs h => RepD.len h) (RepL.take (fun x vs h => RepD.len h) g3)
    · by_cases hE : (xs.take hh.toNat).drop l.toNat = []
      · exact .inl hE
      · have hne : ¬ c = l.toNat := by
          intro hc
          apply hE
          apply List.eq_nil_of_length_eq_zero
          rw [hlen]; omega
        rcases g4 with g4 | ⟨ad, rfl, hl⟩
        · subst g4; simp at hE
        · refine .inr ⟨ad.add (l.toNat * ei.size), by simp [hne], fun j u hu => ?_⟩
          rw [List.getElem?_drop] at hu
          have hj : l.toNat * e1.size + j < hh.toNat * e1.size := by
            have := (List.getElem?_eq_some_iff.1 hu).1; simp at this; omega
          rw [List.getElem?_take_of_lt hj] at hu
          rw [add_add', ← hsz]
          exact hl _ _ hu

theorem sound_slice {t : TypeId} {x : Operand} {lo hi mx : Option Operand} (h : Good W M0 S hdr inn M a w) (htab : ∀ t i, E.tab.lookup t = some i → TIOK P t i) (ho : o.op = .slice t x lo hi mx) (hk : opK E o.op id S some = some e)
    (hrow : ∀ b, S.ev x = .v (.one (.row b)) → Sound P W M0 S a w o e) : Sound P W M0 S a w o e := by
  rw [ho] at hk
  simp only [opK] at hk
  split at hk
  · rename_i ti s hti hx
    have hs := h.str hx
    split at hk
    · rename_i hd
      split at hk
      · rename_i l hh hl hhi
        rcases br_some hk with ⟨hb, hk⟩ | ⟨hb, hk⟩
        · cases hk
          obtain ⟨h0, h1, h2⟩ : 0 ≤ l ∧ l ≤ hh ∧ hh ≤ s.size := by simpa using hb
          have hu := (htab _ _ hti).str hd
          have := run_bounds (P := P) (w := w) (isS := false) (boundOf_rep h hl) (boundOf_rep h hhi) h0 h1 h2 (Nat.le_refl _)
          refine sound_val h (v := .string (s.extract l.toNat hh.toNat)) ?_ rfl
          simp [execOp, ho, hs, Instr.sliceAt, Instr.slice, run_underlying hu, this]
        · cases hk
      · cases hk
    · cases hk
  · rename_i ti e1 xs hti hx
    have hr := h.one hx
    split at hk
    · rename_i et hd
      split at hk
      · rename_i ei hei
        split at hk
        · rename_i hsz
          split at hk
          · rename_i l hh hl hhi
            rcases br_some hk with ⟨hb, hk⟩ | ⟨hb, hk⟩
            · cases hk
              obtain ⟨v, h1, h2⟩ := slice_run h htab ho hti hd hei hsz hl hhi (by simpa using hb) hr
              exact sound_val h h1 h2
            · cases hk
          · cases hk
        · cases hk
      · cases hk
    · cases hk
  · rename_i ti b hti hx
    exact hrow b hx
  · cases hk
end
end Rx
end Go.Proofs.YtonbgpliomhboaaGreatDoor
