/- The evaluator's append is true of the program's. No conditions. -/
import Derived.Test.YthfgpnpoocepeaaGreatRxH
import Derived.Maps.AppendAt
import Derived.Laws.OwnMore
import Derived.Laws.BytesString
import Derived.Laws.IdiomStrings
namespace Go.Proofs.YthfgpnpoocepeaaGreat
open Go.RowKit
namespace Rx

section
variable {P : Program} {W : WX} {M0 : Mem} {S : St} {hdr : Nat → Option Value} {inn : Nat → List Nat} {M : Mem} {a : Act} {w : World} {o : Oper} {e : Eff} {id : Nat} {E : Env}

/-- append, with where the new slice lies and what the world is. -/
theorem run_append_two (base : Nat) (t ty e : TypeId) (i : TypeInfo) (z : Value) (ht : P.underlying t = some (.slice e)) (hi : P.info? e = some i) (hz : i.zero = some z)
    (hzs : z.cells.size = i.size) (v : Value) (n : Nat) (xs : List Value) (hown : w.ownsRow base e i.size v n xs)
    (ad : Addr) (m c : Nat) (news : List Value) (hl : news.length = m * i.size) (hnews : ∀ j u, news[j]? = some u → w.cell? (ad.add j) = some u) (h1 : ∀ u ∈ news, u.oneCell' = true)
    (h63 : n + m ≤ maxLen) (hbytes : (n + m) * i.bytes ≤ 140737488355328) (hbase : base ≤ w.heap.size) :
    ∃ v' w', (Builtin.append_ #[t, t] ty #[v, .slice (some ad) m c]).run P w = .ok v' w' ∧ w'.ownsRow base e i.size v' (n + m) (xs ++ news) ∧
      ((own v' = none ∧ w' = w ∧ own v = none) ∨ (∃ g cs, own v = some g ∧ own v' = some g ∧ w' = w.setRow g cs) ∨ (own v' = some w.heap.size ∧ Ext w w')) := by
  have hsmall : n + m ≤ 9223372036854775807 := by simp only [maxLen] at h63; omega
  have hlen : (xs ++ news).length = (n + m) * i.size := by rw [List.length_append, hown.1, hl, Nat.add_mul]
  have grown : ∀ (old : Nat), old < n + m →
      (w.drew.alloc (.cells (xs.toArray ++ news.toArray ++ Builtin.zeroCells z.cells (grownCap w (n + m) old e - (n + m))) e)).ownsRow base e i.size
        (.slice (some ⟨w.heap.size, 0, none⟩) (n + m) (grownCap w (n + m) old e)) (n + m) (xs ++ news) := by
    intro old ho
    have hge := grownCap_ge w (n + m) old e
    have hcm : grownCap w (n + m) old e ≤ maxLen := grownCap_le_maxLen w (n + m) old e h63
    refine ⟨hlen, .inr ⟨w.heap.size, _, _, rfl, hbase, heap_alloc_new w.drew _, hge, hcm, ?_, ?_⟩⟩
    · simp only [Array.size_append, List.size_toArray, size_zeroCells, hzs, hown.1, hl, ← Nat.add_mul]
      congr 1
      omega
    · simp only [Array.toList_append, List.append_assoc]
      rw [← List.append_assoc, ← hlen]
      exact List.take_left
  rcases hown.2 with ⟨rfl, rfl⟩ | ⟨g, cap, cur, rfl, hbg, hg, hnc, hcm, hcs, htake⟩
  · have hx : xs = [] := List.eq_nil_of_length_eq_zero (by simpa using hown.1)
    subst hx
    by_cases hm : m = 0
    · subst hm
      have hn : news = [] := List.eq_nil_of_length_eq_zero (by simpa using hl)
      subst hn
      refine ⟨.slice none 0 0, w, ?_, World.ownsRow_nil w base e i.size, .inl ⟨rfl, rfl, rfl⟩⟩
      simp [Builtin.append_, run_underlying ht, sizeOf, typeInfo, hi, Builtin.lenOf, Builtin.firstCells, loadCells, loadCellsFrom]
    · have hr := run_append_nil (P := P) w t ty e i z ht hi hz ad m c news hl hnews (by omega) (by omega) (by have hb := hbytes; simp only [Nat.zero_add] at hb; omega)
      have hgr := grown 0 (by omega)
      simp only [Nat.zero_add, List.nil_append, Array.empty_append] at hgr ⊢
      exact ⟨_, _, hr, hgr, .inr (.inr ⟨rfl, Ext.alloc (Ext.drew (Ext.refl w)) _⟩)⟩
  · by_cases hroom : n + m ≤ cap
    · have hfit : n * i.size + news.length ≤ cur.size := by rw [hl, hcs, ← Nat.add_mul]; exact Nat.mul_le_mul_right _ hroom
      have hr := run_append_room (P := P) w t ty e i ht hi g n cap cur hg ad m c news hl hnews h1 hroom hfit
      refine ⟨_, _, hr, ⟨hlen, .inr ⟨g, cap, _, rfl, hbg, setRow_heap w g cur _ e _ hg, hroom, hcm, ?_, ?_⟩⟩, .inr (.inl ⟨g, _, rfl, rfl, rfl⟩)⟩
      · simp only [List.size_toArray, List.length_append, List.length_take, List.length_drop, Array.length_toList]
        omega
      · rw [htake, ← hlen]
        exact List.take_left
    · have holds : ∀ j u, xs[j]? = some u → w.cell? ((⟨g, 0, none⟩ : Addr).add j) = some u := hown.cells (g := g) rfl
      have hr := run_append_grow (P := P) w t ty e i z ht hi hz ⟨g, 0, none⟩ n cap xs hown.1 holds ad m c news hl hnews (by omega) (by omega) (growslice_fits (by omega) hbytes)
      exact ⟨_, _, hr, grown cap (by omega), .inr (.inr ⟨rfl, Ext.alloc (Ext.drew (Ext.refl w)) _⟩)⟩
theorem run_append_nil_src (base : Nat) (t ty e : TypeId) (i : TypeInfo) (ht : P.underlying t = some (.slice e)) (hi : P.info? e = some i)
    (v : Value) (n : Nat) (xs : List Value) (hown : w.ownsRow base e i.size v n xs) (c : Nat) : (Builtin.append_ #[t, t] ty #[v, .slice none 0 c]).run P w = .ok v w := by
  rcases hown.2 with ⟨rfl, rfl⟩ | ⟨g, cap, cur, rfl, _, _, hnc, _⟩
  · simp [Builtin.append_, run_underlying ht, sizeOf, typeInfo, hi, Builtin.lenOf, Builtin.firstCells]
  · simp [Builtin.append_, run_underlying ht, sizeOf, typeInfo, hi, Builtin.lenOf, Builtin.firstCells, hnc, storeCells]

/-- The elements of a slice, as they lie. -/
def Src (w : World) (M : Mem) (e : Ty) (xs : List e.den) (v : Value) : Prop :=
  ∃ A c us, v = .slice A xs.length c ∧ RepL (RepD w M e) xs us ∧ ∀ ad, A = some ad → ∀ (j : Nat) u, us[j]? = some u → w.cell? (ad.add j) = some u

theorem elems_rep {T : Ty} {x : Operand} {xs : List T.den} {rd : List Nat} (h : Good W M0 S hdr inn M a w) (hx : elems S.heap T (S.ev x) = some (xs, rd)) : Src w M T xs (a.eval x) ∧ ((∃ A c, a.eval x = .slice (some A) xs.length c) ∨ (xs = [] ∧ ∃ c, a.eval x = .slice none 0 c)) := by
  unfold elems at hx
  split at hx
  · rename_i e' ys he
    split at hx
    · rename_i hT
      cases hx; subst hT
      obtain ⟨A, c, us, e2, h1, h2, h3, h4⟩ := RepD.sliceInv (h.one he)
      simp at e2
      rcases h4 with h4 | ⟨ad, rfl, hl⟩
      · subst h4
        have hus : us = [] := h3
        subst hus
        refine ⟨⟨A, c, [], e2, rfl, by simp⟩, ?_⟩
        cases A with
        | none => exact .inr ⟨rfl, c, by simpa using e2⟩
        | some A => exact .inl ⟨A, c, e2⟩
      · exact ⟨⟨some ad, c, us, e2, h3, fun ad' had j u hu => by cases had; exact (hl j u hu).1⟩, .inl ⟨ad, c, e2⟩⟩
    · cases hx
  · rename_i bn e' ys he
    split at hx
    · rename_i hT
      cases hx; subst hT
      obtain ⟨A, c, us, e2, h1, h2, h3, h4⟩ := RepD.sliceInv (h.one he).1
      simp at e2
      rcases h4 with h4 | ⟨ad, rfl, hl⟩
      · subst h4
        have hus : us = [] := h3
        subst hus
        refine ⟨⟨A, c, [], e2, rfl, by simp⟩, ?_⟩
        cases A with
        | none => exact .inr ⟨rfl, c, by simpa using e2⟩
        | some A => exact .inl ⟨A, c, e2⟩
      · exact ⟨⟨some ad, c, us, e2, h3, fun ad' had j u hu => by cases had; exact (hl j u hu).1⟩, .inl ⟨ad, c, e2⟩⟩
    · cases hx
  · rename_i he
    cases hx
    have := h.one he
    exact ⟨⟨none, 0, [], this, rfl, by simp⟩, .inr ⟨rfl, 0, this⟩⟩
  · rename_i b he
    split at hx
    · rename_i t e' ys fz hb
      split at hx
      · rename_i hT
        cases hx; subst hT
        obtain ⟨v0, hv0, hB⟩ := h.hp b _ (blkAt_some hb)
        obtain ⟨hh, _⟩ := h.one he
        rw [hh] at hv0
        simp at hv0
        rcases hB with ⟨rfl, h2, _⟩ | ⟨g, cap, vs, h2, _, h3, h4, h5, h6, h7, h8, h9⟩
        · exact ⟨⟨none, 0, [], hv0.trans h2, rfl, by simp⟩, .inr ⟨rfl, 0, hv0.trans h2⟩⟩
        · refine ⟨⟨_, cap, _, hv0.trans h2, h8, fun ad had j u hu => ?_⟩, .inl ⟨_, cap, hv0.trans h2⟩⟩
          cases had
          rw [add_zero_block, heap_cell h4]
          have hj := (List.getElem?_eq_some_iff.1 hu).1
          rw [List.getElem?_take_of_lt (by simp at hj; omega)] at hu
          simpa using hu
      · cases hx
    · cases hx
  · cases hx

theorem row_gs {base : Nat → Nat → Prop} {t : TypeId} {T : Ty} {xs : List T.den} {fz : Nat} {v : Value} {gs : List Nat} (h : RepBlk w M hdr base (.row t T xs fz) v gs) : gs = (own v).toList := by
  rcases h with ⟨_, rfl, rfl⟩ | ⟨g, cap, vs, rfl, rfl, _⟩ <;> rfl
theorem blk_owns {base : Nat → Nat → Prop} {t : TypeId} {T : Ty} {xs : List T.den} {fz : Nat} {v : Value} {gs : List Nat} (h : RepBlk w M hdr base (.row t T xs fz) v gs) :
    ∃ us, w.ownsRow 0 t T.size v xs.length us ∧ RepL (RepD w M T) xs us := by
  rcases h with ⟨rfl, rfl, _⟩ | ⟨g, cap, vs, rfl, _, h1, h2, h3, h4, h5, h6, h7⟩
  · exact ⟨[], ⟨by simp, .inl ⟨rfl, rfl⟩⟩, rfl⟩
  · have hl := RepL.len (fun x vs h => RepD.len h) h6
    exact ⟨_, ⟨hl, .inr ⟨g, cap, vs, rfl, Nat.zero_le _, h2, h3, h4, h5, rfl⟩⟩, h6⟩

theorem cell_spot {p : Addr} (w : World) (h : p.spot ≠ none) : w.cell? p = none := by
  unfold World.cell?
  split
  · have : p.spot.isSome = true := by cases hs : p.spot <;> simp_all
    simp [this]
  · rfl

/-- append at the state: the row is b (or nothing was there). -/
theorem sound_append_row {t et : TypeId} {T : Ty} {v : Value} {xs ys : List T.den} {fz : Nat} {s x : Operand} {c : Call} {i : TI} {wr : List (Nat × Option Blk)} {rd gsv : List Nat} (h : Good W M0 S hdr inn M a w) (hT : TIOK P et i) (hTy : i.ty = T)
    (hu : P.underlying t = some (.slice et)) (ho : o.op = .call c) (hcc : c.callee = .builtin .append) (hct : c.argTypes = #[t, t]) (hca : c.args = #[s, x])
    (hv : a.eval s = v) (hfz : fz < 2) (hB : RepBlk w M hdr W.fresh (.row et T xs fz) v gsv) (hsrc : Src w M T ys (a.eval x)) (hsrc2 : (∃ A c, a.eval x = .slice (some A) ys.length c) ∨ (ys = [] ∧ ∃ c, a.eval x = .slice none 0 c))
    (hlen : xs.length + ys.length ≤ 4294967296) (hid : isNew S.heap id = true)
    (hwr : (wr = [(id, some (.row et T (xs ++ ys) fz))] ∧ v = .slice none 0 0) ∨ ∃ b, wr = [(b, none), (id, some (.row et T (xs ++ ys) fz))] ∧ lk S.heap b = some (some (.row et T xs fz)) ∧ hdr b = some v ∧ inn b = gsv) :
    Sound P W M0 S a w o ⟨.v (.one (.row id)), wr, rd⟩ := by
  obtain ⟨info, z, g1, g2, g3, g4, g5, g6, g7⟩ := hT.info
  have hsz : T.size = info.size := by rw [g2, ← hT.tsz, hTy]
  obtain ⟨us, hown, hL⟩ := blk_owns hB
  obtain ⟨A, cc, ns, hxv, hN, hcell⟩ := hsrc
  rw [hsz] at hown
  have hby : info.bytes ≤ 32768 := by rw [g3]; exact hT.byt
  have hbytes : (xs.length + ys.length) * info.bytes ≤ 140737488355328 := Nat.le_trans (Nat.mul_le_mul hlen hby) (by decide)
  have hnl := RepL.len (fun x vs h => RepD.len h) hN
  have hone : ∀ u ∈ ns, u.oneCell' = true := by
    have : ∀ {xs : List T.den} {ns : List Value}, RepL (RepD w M T) xs ns → ∀ u ∈ ns, u.oneCell' = true := by
      intro xs
      induction xs with
      | nil => intro ns h u hu; have : ns = [] := h; subst this; cases hu
      | cons x xs ih =>
        rintro ns ⟨v1, v2, rfl, h1, h2⟩ u hu
        rcases List.mem_append.1 hu with hu | hu
        · exact (h1.cells (hdr := hdr)).all_right (fun _ _ h => RepC.one h) u hu
        · exact ih h2 u hu
    exact this hN
  have hrun : ∃ v' w', (Builtin.append_ #[t, t] o.type #[v, a.eval x]).run P w = .ok v' w' ∧ w'.ownsRow 0 et info.size v' (xs.length + ys.length) (us ++ ns) ∧
      ((own v' = none ∧ w' = w ∧ own v = none) ∨ (∃ g cs, own v = some g ∧ own v' = some g ∧ w' = w.setRow g cs) ∨ (own v' = some w.heap.size ∧ Ext w w') ∨ (v' = v ∧ w' = w)) := by
    rcases hsrc2 with ⟨ad, c0, h2⟩ | ⟨rfl, c0, h2⟩
    · rw [h2] at hxv; cases hxv
      obtain ⟨v', w', r1, r2, r3⟩ := run_append_two (P := P) (w := w) 0 t o.type et info z hu g1 g4 (by rw [g5, g2]) v _ us hown ad ys.length cc ns (by rw [hnl, hsz]) (hcell ad rfl) hone
        (by simp only [maxLen]; omega) hbytes (Nat.zero_le _)
      rw [h2]
      refine ⟨v', w', r1, r2, ?_⟩
      rcases r3 with r | r | r
      · exact .inl r
      · exact .inr (.inl r)
      · exact .inr (.inr (.inl r))
    · have hns : ns = [] := hN
      subst hns
      rw [h2]
      exact ⟨v, w, run_append_nil_src _ _ _ _ _ hu g1 _ _ _ hown c0, by simpa using hown, .inr (.inr (.inr ⟨rfl, rfl⟩))⟩
  obtain ⟨v', w', r1, r2, r3⟩ := hrun
  have hex : (execOp a.eval o).run P w = .ok (.value v') w' := by
    simp [execOp, ho, resolve, hcc, hct, hca, invoke, builtin, hv, r1]
  have hn : lk S.heap id = none := by simpa [isNew] using hid
  have hne := h.un id hn
  have hh : ∀ b v, hdr b = some v → (fun b => if b = id then some v' else hdr b) b = some v := fun b v hb => by
    have : b ≠ id := fun e => by rw [e, hne] at hb; cases hb
    simpa [this] using hb
  have hL' := RepL.append hL hN
  -- what is kept
  have hgv := row_gs hB
  have hge : ∀ g, own v = some g → g < w.heap.size ∧ W.fresh fz g := fun g hg => hB.lt (by rw [hgv, hg]; simp)
  have hExt : ExtW W w' := by
    rcases r3 with ⟨_, rfl, _⟩ | ⟨g, cs, hg, _, rfl⟩ | ⟨_, hE⟩ | ⟨_, rfl⟩
    · exact h.ext
    · exact below_row h.ext (hge g hg).2
    · exact h.ext.trans hE
    · exact h.ext
  have hsize : w.heap.size ≤ w'.heap.size := by
    rcases r3 with ⟨_, rfl, _⟩ | ⟨g, cs, hg, _, rfl⟩ | ⟨_, hE⟩ | ⟨_, rfl⟩
    · exact Nat.le_refl _
    · simp
    · exact hE.size
    · exact Nat.le_refl _
  have hother : ∀ g, own v ≠ some g → g < w.heap.size → w'.heap[g]? = w.heap[g]? := by
    intro g hg hlt
    rcases r3 with ⟨_, rfl, _⟩ | ⟨g', cs, hg', _, rfl⟩ | ⟨_, hE⟩ | ⟨_, rfl⟩
    · rfl
    · exact setRow_other w g' g cs fun e => hg (by rw [e]; exact hg')
    · exact hE.block g hlt
    · rfl
  have hMo : ∀ p, M p → own v = some p.block → fz = 1 ∧ p.off < xs.length * T.size := by
    intro p hp ho
    rcases hB with ⟨_, rfl, _⟩ | ⟨g, cap, vs, rfl, _, _, _, _, _, _, _, hm⟩
    · cases ho
    · simp only [own, Option.some.injEq] at ho
      exact hm p hp ho.symm
  have hkeep : ∀ p, M p → w'.cell? p = w.cell? p := by
    intro p hp
    by_cases hpo : own v = some p.block
    · obtain ⟨hf, hoff⟩ := hMo p hp hpo
      rcases r3 with ⟨_, rfl, _⟩ | ⟨g, cs, hg, hg', rfl⟩ | ⟨_, hE⟩ | ⟨_, rfl⟩
      · rfl
      · rw [hpo] at hg; cases hg
        by_cases hsp : p.spot = none
        · have hp' : p = ⟨p.block, p.off, none⟩ := by cases p; simp_all
          rcases hown.2 with ⟨e1, _⟩ | ⟨q, cap, cur, e1, _, k2, _, _, _, k6⟩
          · rw [e1] at hpo; cases hpo
          · rcases r2.2 with ⟨e2, _⟩ | ⟨q', cap', cur', e2, _, k2', _, _, _, k6'⟩
            · rw [e2] at hg'; cases hg'
            · rw [e1] at hpo; rw [e2] at hg'
              simp only [own, Option.some.injEq] at hpo hg'
              subst hpo; subst hg'
              rw [hp', heap_cell k2, heap_cell k2']
              rw [← hsz] at k6 k6'
              have hl1 := hown.1
              rw [← hsz] at hl1
              have c1 : (cur.toList.take (xs.length * T.size))[p.off]? = us[p.off]? := by rw [k6]
              have c2 : (cur'.toList.take ((xs.length + ys.length) * T.size))[p.off]? = (us ++ ns)[p.off]? := by rw [k6']
              rw [List.getElem?_take_of_lt hoff] at c1
              rw [List.getElem?_take_of_lt (by rw [Nat.add_mul]; omega), List.getElem?_append_left (by omega)] at c2
              simp at c1 c2
              rw [c1, c2]
        · rw [cell_spot _ hsp, cell_spot _ hsp]
      · exact hE.cell (h.ml p hp)
      · rfl
    · have := hother p.block hpo (h.ml p hp)
      exact World.cell?_of_block this
  have hMn : ∀ p, M p → own v' = some p.block → own v = some p.block := by
    intro p hp ho'
    rcases r3 with ⟨e0, _, _⟩ | ⟨g, cs, hg, hg', rfl⟩ | ⟨e0, hE⟩ | ⟨rfl, _⟩
    · rw [e0] at ho'; cases ho'
    · rw [hg'] at ho'; rw [← ho']; exact hg
    · rw [e0] at ho'
      have := h.ml p hp
      simp at ho'; omega
    · exact ho'
  have hnew : ∀ hdr' : Nat → Option Value, RepBlk w' M hdr' W.fresh (.row et T (xs ++ ys) fz) v' (own v').toList := by
    intro hdr'
    rcases r2.2 with ⟨e2, h0⟩ | ⟨g, cap, cur, e2, k1, k2, k3, k4, k5, k6⟩
    · refine .inl ⟨?_, e2, by rw [e2]; rfl⟩
      apply List.eq_nil_of_length_eq_zero
      rw [List.length_append]; exact h0
    · rw [← hsz] at k5 k6
      have k1' : W.fresh fz g := by
        have hog : own v' = some g := by rw [e2]; rfl
        rcases r3 with ⟨e0, _, _⟩ | ⟨g0, cs, h1, h2, _⟩ | ⟨e0, _⟩ | ⟨rfl, _⟩
        · rw [e0] at hog; cases hog
        · rw [h2] at hog; cases hog; exact (hge _ h1).2
        · rw [e0] at hog; cases hog; exact .new h.ext.size hfz
        · exact (hge _ hog).2
      refine .inr ⟨g, cap, cur, by rw [e2, List.length_append], by rw [e2]; rfl, k1', k2, by rw [List.length_append]; exact k3, k4, k5, ?_, fun p hp e => ?_⟩
      · rw [List.length_append, k6]
        exact hL'.mono fun _ _ h => h.keep hkeep (fun _ h => h)
      · have := hMo p hp (hMn p hp (by rw [e2, ← e]; rfl))
        refine ⟨this.1, ?_⟩
        rw [List.length_append, Nat.add_mul]; omega
  have hslice : ∃ A n c, v' = .slice A n c := by
    rcases r2.2 with ⟨e2, _⟩ | ⟨g, cap, cur, e2, _⟩
    · exact ⟨_, _, _, e2⟩
    · exact ⟨_, _, _, e2⟩
  -- the others' blocks
  have hoth : ∀ b B, lk S.heap b = some (some B) → ((wr = [(id, some (.row et T (xs ++ ys) fz))] ∧ v = .slice none 0 0) ∨ (∃ b0, lk S.heap b0 = some (some (.row et T xs fz)) ∧ inn b0 = gsv ∧ b ≠ b0)) → ∃ u, hdr b = some u ∧ RepBlk w' M (fun b => if b = id then some v' else hdr b) W.fresh B u (inn b) ∧ ∀ g ∈ inn b, own v ≠ some g ∧ own v' ≠ some g := by
    intro b B hb hcase
    obtain ⟨u, hu, hr⟩ := h.hp b B hb
    have hov : ∀ g ∈ inn b, own v ≠ some g := by
      intro g hg hgo
      rcases hcase with ⟨_, rfl⟩ | ⟨b0, h0, h1, hne⟩
      · cases hgo
      · exact h.sep b b0 B _ g hne hb h0 hg (by rw [h1, hgv, hgo]; simp)
    refine ⟨u, hu, hr.keep hkeep (fun _ h => h) hh (fun g hg => ⟨hother g (hov g hg) (hr.lt hg).1, fun p hp _ => hp⟩), fun g hg => ⟨hov g hg, ?_⟩⟩
    intro hg'
    rcases r3 with ⟨e0, _, _⟩ | ⟨g0, cs, h1, h2, _⟩ | ⟨e0, _⟩ | ⟨rfl, _⟩
    · rw [e0] at hg'; cases hg'
    · rw [h2] at hg'; cases hg'
      exact hov g hg h1
    · rw [e0] at hg'
      have := (hr.lt hg).1
      simp at hg'; omega
    · exact hov g hg hg'
  -- a block afterwards
  have back : ∀ {b B}, lk (setAll S.heap wr) b = some (some B) → (b = id ∧ B = .row et T (xs ++ ys) fz) ∨ (b ≠ id ∧ lk S.heap b = some (some B) ∧ ∃ u, hdr b = some u ∧ RepBlk w' M (fun b => if b = id then some v' else hdr b) W.fresh B u (inn b) ∧ ∀ g ∈ inn b, own v ≠ some g ∧ own v' ≠ some g) := by
    intro b B hb
    rcases hwr with ⟨rfl, hv0⟩ | ⟨b0, rfl, hb0, hh0, hi0⟩
    · simp only [setAll, lk_cons] at hb
      split at hb
      · rename_i e; subst e; cases hb; exact .inl ⟨rfl, rfl⟩
      · rename_i e
        exact .inr ⟨fun e' => e e'.symm, hb, hoth b B hb (.inl ⟨rfl, hv0⟩)⟩
    · simp only [setAll, lk_cons] at hb
      split at hb
      · rename_i e; subst e; cases hb; exact .inl ⟨rfl, rfl⟩
      · rename_i e
        split at hb
        · cases hb
        · rename_i e2
          exact .inr ⟨fun e' => e e'.symm, hb, hoth b B hb (.inr ⟨b0, hb0, hi0, fun e' => e2 e'.symm⟩)⟩
  intro K Q hK
  refine wp_val hex (hK _ _ ⟨fun b => if b = id then some v' else hdr b, fun b => if b = id then (own v').toList else inn b, M, h.step hExt hsize hkeep (fun _ h => h) hh (fun p hp => ⟨Nat.lt_of_lt_of_le (h.ml p hp) hsize, h.mo p hp⟩) ?_ ?_ ?_ ⟨by simp, hslice⟩⟩)
  · intro b hb
    have hb' : b ≠ id ∧ lk S.heap b = none := by
      rcases hwr with ⟨rfl, hv0⟩ | ⟨b0, rfl, hb0, hh0, hi0⟩
      · simp only [setAll, lk_cons] at hb
        split at hb
        · cases hb
        · rename_i e; exact ⟨fun e' => e e'.symm, hb⟩
      · simp only [setAll, lk_cons] at hb
        split at hb
        · cases hb
        · rename_i e
          split at hb
          · cases hb
          · exact ⟨fun e' => e e'.symm, hb⟩
    simp [hb'.1, h.un b hb'.2]
  · intro b B hb
    rcases back hb with ⟨rfl, rfl⟩ | ⟨e, hb, u, hu, hr, _⟩
    · refine ⟨⟨v', by simp, by simpa using hnew _⟩, fun hf => ?_⟩
      have : fz ≥ 2 := hf
      omega
    · simp only [e, if_false]
      exact ⟨⟨u, hu, hr⟩, h.ag b B hb⟩
  · intro b b' B B' g hbb hb hb' hg
    rcases back hb with ⟨rfl, rfl⟩ | ⟨e, hb0, u, hu, hr, hn1⟩
    · rcases back hb' with ⟨rfl, rfl⟩ | ⟨e', hb0', u', hu', hr', hn2⟩
      · exact absurd rfl hbb
      · simp only [if_true] at hg
        simp only [e', if_false]
        intro hg'
        exact (hn2 g hg').2 (by simpa using hg)
    · simp only [e, if_false] at hg
      rcases back hb' with ⟨rfl, rfl⟩ | ⟨e', hb0', u', hu', hr', hn2⟩
      · simp only [if_true]
        intro hg'
        exact (hn1 g hg).2 (by simpa using hg')
      · simp only [e', if_false]
        exact h.sep b b' B B' g hbb hb0 hb0' hg

/-- append of a deep row at the state. -/
theorem sound_append_deep {t et : TypeId} {T : RTy} {v vx : Value} {xs ys : List T.den} {s x : Operand} {c : Call} {i : TI} {rm rd gsv : List Nat} {bx : Nat} (h : Good W M0 S hdr inn M a w) (hT : TIOK P et i) (hTs : T.data.size = i.size)
    (hu : P.underlying t = some (.slice et)) (ho : o.op = .call c) (hcc : c.callee = .builtin .append) (hct : c.argTypes = #[t, t]) (hca : c.args = #[s, x])
    (hv : a.eval s = v) (hvx : a.eval x = vx) (hB : RepBlk w M hdr W.fresh (.deep et T xs none 0) v gsv) (hbx : lk S.heap bx = some (some (.deep et T ys none 0))) (hhx : hdr bx = some vx)
    (hlen : xs.length + ys.length ≤ 4294967296) (hid : isNew S.heap id = true)
    (hrm : (rm = [bx] ∧ gsv = []) ∨ ∃ b, rm = [b, bx] ∧ b ≠ bx ∧ lk S.heap b = some (some (.deep et T xs none 0)) ∧ inn b = gsv) :
    Sound P W M0 S a w o ⟨.v (.one (.row id)), gone rm ++ [(id, some (.deep et T (xs ++ ys) none 0))], rd⟩ := by
  obtain ⟨info, z, g1, g2, g3, g4, g5, g6, g7⟩ := hT.info
  have hsz : T.data.size = info.size := by rw [g2, hTs]
  -- the cells of both
  have cellsOf' : ∀ {l : List T.den} {u : Value} {gs : List Nat}, RepBlk w M hdr W.fresh (.deep et T l none 0) u gs → ∃ us gi, w.ownsRow 0 et info.size u l.length us ∧ RepOL (RepO w M T) l us gi ∧ gs = (own u).toList ++ gi ∧ (∃ A n c, u = .slice A n c) ∧ (own u = none → l = []) := by
    intro l u gs hl
    rcases hl with ⟨rfl, _, rfl, rfl⟩ | ⟨g, cap, vs, gi, rfl, rfl, hn, k1, k2, k3, k4, k5, k6, k7⟩
    · exact ⟨[], [], ⟨by simp, .inl ⟨rfl, rfl⟩⟩, ⟨rfl, rfl⟩, rfl, ⟨_, _, _, rfl⟩, fun _ => rfl⟩
    · have hL := RepOL.len (fun x vs gs h => RepO.len h) (show RepOL (RepO w M T) l _ gi from k6)
      exact ⟨_, gi, ⟨by rw [← hsz]; exact hL, .inr ⟨g, cap, vs, rfl, Nat.zero_le _, k2, k3, k4, by rw [← hsz]; exact k5, by rw [hsz]⟩⟩, k6, rfl, ⟨_, _, _, rfl⟩, fun h => by cases h⟩
  obtain ⟨us, gi, hown, hL, hgv, hsl, hnil⟩ := cellsOf' hB
  obtain ⟨vx', hvx', hBx⟩ := h.hp bx _ hbx
  rw [hhx] at hvx'; cases hvx'
  obtain ⟨ns, gj, hownx, hN, hgx, ⟨Ax, nx, cx, hslx⟩, hnilx⟩ := cellsOf' hBx
  have hby : info.bytes ≤ 32768 := by rw [g3]; exact hT.byt
  have hbytes : (xs.length + ys.length) * info.bytes ≤ 140737488355328 := Nat.le_trans (Nat.mul_le_mul hlen hby) (by decide)
  have hone : ∀ u ∈ ns, u.oneCell' = true := by
    have row1 : ∀ {T : RTy} {x : T.den} {vs : List Value} {gs : List Nat}, RepO w M T x vs gs → ∀ u ∈ vs, u.oneCell' = true := by
      intro T
      induction T with
      | d T => intro x vs gs hx u hu; exact (hx.1.cells (hdr := hdr)).all_right (fun _ _ h => RepC.one h) u hu
      | row t e =>
        rintro x vs gs ⟨v, rfl, hr⟩ u hu
        rw [List.mem_singleton] at hu; subst hu
        rcases hr with ⟨_, rfl, _⟩ | ⟨g, cap, us, rfl, _⟩ <;> rfl
      | pair A B iha ihb =>
        rintro x vs gs ⟨v1, v2, g1, g2, rfl, _, h1, h2⟩ u hu
        rcases List.mem_append.1 hu with hu | hu
        · exact iha h1 u hu
        · exact ihb h2 u hu
      | box t T => intro x vs gs hx; exact hx.elim
      | deep t T _ => intro x vs gs hx; exact hx.elim
      | mp fr t e => intro x vs gs hx; exact hx.elim
    have : ∀ {l : List T.den} {ns : List Value} {gs : List Nat}, RepOL (RepO w M T) l ns gs → ∀ u ∈ ns, u.oneCell' = true := by
      intro l
      induction l with
      | nil => intro ns gs h u hu; rw [h.1] at hu; cases hu
      | cons x xs ih =>
        rintro ns gs ⟨v1, v2, g1, g2, rfl, _, h1, h2⟩ u hu
        rcases List.mem_append.1 hu with hu | hu
        · exact row1 h1 u hu
        · exact ih h2 u hu
    exact this hN
  have hrun : ∃ v' w', (Builtin.append_ #[t, t] o.type #[v, a.eval x]).run P w = .ok v' w' ∧ w'.ownsRow 0 et info.size v' (xs.length + ys.length) (us ++ ns) ∧
      ((own v' = none ∧ w' = w ∧ own v = none) ∨ (∃ g cs, own v = some g ∧ own v' = some g ∧ w' = w.setRow g cs) ∨ (own v' = some w.heap.size ∧ Ext w w') ∨ (v' = v ∧ w' = w)) := by
    rw [hvx]
    rcases hownx.2 with ⟨e1, e2⟩ | ⟨g, cap, cur, e1, _, k2, k3, _, k5, k6⟩
    · have hns : ns = [] := List.eq_nil_of_length_eq_zero (by rw [hownx.1, e2]; simp)
      subst hns
      rw [e1]
      exact ⟨v, w, run_append_nil_src _ _ _ _ _ hu g1 _ _ _ hown _, by rw [e2]; simpa using hown, .inr (.inr (.inr ⟨rfl, rfl⟩))⟩
    · obtain ⟨v', w', r1, r2, r3⟩ := run_append_two (P := P) (w := w) 0 t o.type et info z hu g1 g4 (by rw [g5, g2]) v _ us hown ⟨g, 0, none⟩ ys.length cap ns hownx.1 (fun j u hj => hownx.cells (g := g) (by rw [e1]; rfl) j u hj) hone
        (by simp only [maxLen]; omega) hbytes (Nat.zero_le _)
      rw [e1]
      refine ⟨v', w', r1, r2, ?_⟩
      rcases r3 with r | r | r
      · exact .inl r
      · exact .inr (.inl r)
      · exact .inr (.inr (.inl r))
  obtain ⟨v', w', r1, r2, r3⟩ := hrun
  have hex : (execOp a.eval o).run P w = .ok (.value v') w' := by
    simp [execOp, ho, resolve, hcc, hct, hca, invoke, builtin, hv, r1]
  have hge : ∀ g ∈ gsv, g < w.heap.size ∧ W.fresh 0 g := fun g hg => hB.lt hg
  have hgo : ∀ {g}, own v = some g → g ∈ gsv := fun hg => by rw [hgv, hg]; simp
  have hExt : ExtW W w' := by
    rcases r3 with ⟨_, rfl, _⟩ | ⟨g, cs, hg, _, rfl⟩ | ⟨_, hE⟩ | ⟨_, rfl⟩
    · exact h.ext
    · exact below_row h.ext (hge g (hgo hg)).2
    · exact h.ext.trans hE
    · exact h.ext
  have hsize : w.heap.size ≤ w'.heap.size := by
    rcases r3 with ⟨_, rfl, _⟩ | ⟨g, cs, hg, _, rfl⟩ | ⟨_, hE⟩ | ⟨_, rfl⟩
    · exact Nat.le_refl _
    · simp
    · exact hE.size
    · exact Nat.le_refl _
  have hother : ∀ g, own v ≠ some g → g < w.heap.size → w'.heap[g]? = w.heap[g]? := by
    intro g hg hlt
    rcases r3 with ⟨_, rfl, _⟩ | ⟨g', cs, hg', _, rfl⟩ | ⟨_, hE⟩ | ⟨_, rfl⟩
    · rfl
    · exact setRow_other w g' g cs fun e => hg (by rw [e]; exact hg')
    · exact hE.block g hlt
    · rfl
  have hMo : ∀ p, M p → p.block ∉ gsv := fun p hp hm => by
    have := (hB.seen p hp hm).1
    cases this
  have hMx : ∀ p, M p → p.block ∉ inn bx := fun p hp hm => by
    have := (hBx.seen p hp hm).1
    cases this
  have hkeep : ∀ p, M p → w'.cell? p = w.cell? p := fun p hp =>
    World.cell?_of_block (hother p.block (fun e => hMo p hp (hgo e)) (h.ml p hp))
  have hnew : ∀ g, own v' = some g → own v = some g ∨ g = w.heap.size := by
    intro g hg
    rcases r3 with ⟨e0, _, _⟩ | ⟨g', cs, h1, h2, _⟩ | ⟨e0, _⟩ | ⟨rfl, _⟩
    · rw [e0] at hg; cases hg
    · rw [h2] at hg; cases hg; exact .inl h1
    · rw [e0] at hg; cases hg; exact .inr rfl
    · exact .inl hg
  have hdx : ∀ g ∈ gsv, g ∉ inn bx := by
    intro g hg
    rcases hrm with ⟨_, e⟩ | ⟨b, _, hne, hb, hi⟩
    · rw [e] at hg; cases hg
    · exact h.sep b bx _ _ g hne hb hbx (by rw [hi]; exact hg)
  have hLw : RepOL (RepO w' M T) (xs ++ ys) (us ++ ns) (gi ++ gj) := by
    have k : ∀ {l : List T.den} {us : List Value} {gs : List Nat}, (∀ g ∈ gs, own v ≠ some g ∧ g < w.heap.size) → RepOL (RepO w M T) l us gs → RepOL (RepO w' M T) l us gs := fun hg h =>
      RepOL.mono (fun x vs gs' hg' h => RepO.keep hkeep (fun _ h => h) (fun g hm => hother g (hg g (hg' g hm)).1 (hg g (hg' g hm)).2) h) h
    refine RepOL.append (k (fun g hg => ⟨fun e => ?_, RepOL.lt hL g hg⟩) hL) (k (fun g hg => ⟨fun e => ?_, RepOL.lt hN g hg⟩) hN)
    · have hn := hB.nodup
      rw [hgv, e] at hn
      exact (List.nodup_cons.1 (show (g :: gi).Nodup from hn)).1 hg
    · exact hdx g (hgo e) (by rw [hgx]; exact List.mem_append.2 (.inr hg))
  have hmem : ∀ g ∈ (own v').toList ++ (gi ++ gj), w.heap.size ≤ g ∨ g ∈ gsv ∨ g ∈ inn bx := by
    intro g hg
    rcases List.mem_append.1 hg with hg | hg
    · rcases hnew g (by simpa using hg) with h1 | h1
      · exact .inr (.inl (hgo h1))
      · exact .inl (by omega)
    · rcases List.mem_append.1 hg with hg | hg
      · exact .inr (.inl (by rw [hgv]; exact List.mem_append.2 (.inr hg)))
      · exact .inr (.inr (by rw [hgx]; exact List.mem_append.2 (.inr hg)))
  have hnd : ((own v').toList ++ (gi ++ gj)).Nodup := by
    have n1 := hB.nodup
    have n2 := hBx.nodup
    rw [hgv, List.nodup_append] at n1
    rw [hgx, List.nodup_append] at n2
    rw [List.nodup_append, List.nodup_append]
    refine ⟨by cases own v' <;> simp, ⟨n1.2.1, n2.2.1, fun g hg g' hg' e => ?_⟩, fun g hg g' hg' e => ?_⟩
    · subst e
      exact hdx g (by rw [hgv]; exact List.mem_append.2 (.inr hg)) (by rw [hgx]; exact List.mem_append.2 (.inr hg'))
    · subst e
      rcases hnew g (by simpa using hg) with h1 | h1
      · rcases List.mem_append.1 hg' with hg' | hg'
        · exact n1.2.2 g (by rw [h1]; simp) g hg' rfl
        · exact hdx g (hgo h1) (by rw [hgx]; exact List.mem_append.2 (.inr hg'))
      · rcases List.mem_append.1 hg' with hg' | hg'
        · have := RepOL.lt hL g hg'; omega
        · have := RepOL.lt hN g hg'; omega
  intro K Q hK
  have hslice : ∃ A n c, v' = .slice A n c := by
    rcases r2.2 with ⟨e2, _⟩ | ⟨g, cap, cur, e2, _⟩
    · exact ⟨_, _, _, e2⟩
    · exact ⟨_, _, _, e2⟩
  have hrm1 : ∀ b ∈ rm, ∃ B, lk S.heap b = some (some B) := by
    intro b hb
    rcases hrm with ⟨rfl, _⟩ | ⟨b0, rfl, _, hb0, _⟩
    · rw [List.mem_singleton] at hb; subst hb; exact ⟨_, hbx⟩
    · rcases List.mem_cons.1 hb with rfl | hb
      · exact ⟨_, hb0⟩
      · rw [List.mem_singleton] at hb; subst hb; exact ⟨_, hbx⟩
  have hbxm : bx ∈ rm := by
    rcases hrm with ⟨rfl, _⟩ | ⟨b0, rfl, _⟩ <;> simp
  obtain ⟨hdr', inn', hg⟩ := h.merge (dst := o.dst) (v0 := v') (rd := rd) (ids := []) (rm := rm) (gs := (own v').toList ++ (gi ++ gj)) (B := .deep et T (xs ++ ys) none 0) hid hrm1 hExt hsize rfl hslice
    (fun g hg => by
      rcases hmem g hg with h1 | h1 | h1
      · exact .inl h1
      · rcases hrm with ⟨_, e⟩ | ⟨b0, rfl, _, _, hi⟩
        · rw [e] at h1; cases h1
        · exact .inr ⟨b0, by simp, by rw [hi]; exact h1⟩
      · exact .inr ⟨bx, hbxm, h1⟩)
    (fun b C hb hbm g hg => by
      obtain ⟨u, hu, hr⟩ := h.hp b C hb
      refine hother g (fun e => ?_) (hr.lt hg).1
      rcases hrm with ⟨_, e'⟩ | ⟨b0, rfl, _, hb0, hi⟩
      · have := hgo e
        rw [e'] at this; cases this
      · exact h.sep b b0 C _ g (fun e' => hbm (by simp [e'])) hb hb0 hg (by rw [hi]; exact hgo e))
    hkeep
    (fun hdr' hh => by
      rcases r2.2 with ⟨e2, h0⟩ | ⟨g, cap, cur, e2, k1, k2, k3, k4, k5, k6⟩
      · have e3 : xs ++ ys = [] := by
          apply List.eq_nil_of_length_eq_zero
          rw [List.length_append]; exact h0
        have hL0 := hLw
        rw [e3] at hL0
        exact .inl ⟨e3, rfl, e2, by rw [e2, hL0.2]; rfl⟩
      · have hog : own v' = some g := by rw [e2]; rfl
        refine .inr ⟨g, cap, cur, gi ++ gj, by rw [e2, List.length_append], by rw [hog]; rfl, hnd, fun g' hg' => ?_, k2, by rw [List.length_append]; exact k3, k4, by rw [hsz]; exact k5, ?_, fun p hp hm => ?_⟩
        · rcases hmem g' hg' with h1 | h1 | h1
          · exact .new (Nat.le_trans h.ext.size h1) (by decide)
          · exact (hge g' h1).2
          · exact (hBx.lt h1).2
        · show RepOL (RepO w' M T) _ _ _
          rw [List.length_append, hsz, k6]
          exact hLw
        · exfalso
          rcases hmem _ hm with h1 | h1 | h1
          · have := h.ml p hp; omega
          · exact hMo p hp h1
          · exact hMx p hp h1)
  exact wp_val hex (hK _ _ ⟨hdr', inn', M, hg⟩)

/-- append where there is room, behind a part that is cut off. -/
theorem run_append_room_off (t ty e : TypeId) (i : TypeInfo) (ht : P.underlying t = some (.slice e)) (hi : P.info? e = some i)
    (g off sLen sCap : Nat) (cur : Array Value) (hg : w.heap[g]? = some (.cells cur e (0, 0)))
    (ad : Addr) (m c : Nat) (news : List Value) (hl : news.length = m * i.size) (hnews : ∀ j u, news[j]? = some u → w.cell? (ad.add j) = some u) (h1 : ∀ u ∈ news, u.oneCell' = true)
    (hroom : sLen + m ≤ sCap) (hfit : off + sLen * i.size + news.length ≤ cur.size) :
    (Builtin.append_ #[t, t] ty #[.slice (some ⟨g, off, none⟩) sLen sCap, .slice (some ad) m c]).run P w =
      .ok (.slice (some ⟨g, off, none⟩) (sLen + m) sCap) (w.setRow g (cur.toList.take (off + sLen * i.size) ++ news ++ cur.toList.drop (off + sLen * i.size + news.length)).toArray) := by
  have hf := run_firstCells_some (P := P) w i.size m ad m c news hl hnews
  have hst := run_storeCells_at P g (off + sLen * i.size) e news 0 cur w hg (by simpa using hfit) h1
  simp only [Nat.add_zero] at hst
  simp [Builtin.append_, run_underlying ht, sizeOf, typeInfo, hi, Builtin.lenOf, hroom, hf, Addr.add_lit, hst]
theorem que_ones {T : Ty} {xs : List T.den} {ns : List Value} (h : RepL (RepD w M T) xs ns) : ∀ u ∈ ns, u.oneCell' = true := by
  induction xs generalizing ns with
  | nil => intro u hu; have : ns = [] := h; subst this; cases hu
  | cons x xs ih =>
    obtain ⟨v1, v2, rfl, h1, h2⟩ := h
    intro u hu
    rcases List.mem_append.1 hu with hu | hu
    · exact (h1.cells (hdr := fun _ => none)).all_right (fun _ _ h => RepC.one h) u hu
    · exact ih h2 u hu
/-- append onto a row whose front part is cut off. -/
theorem sound_append_que {t et : TypeId} {T : Ty} {v : Value} {xs : (OK.que et T).den} {ys : List T.den} {s x : Operand} {c : Call} {i : TI} {b : Nat} {rd : List Nat} (h : Good W M0 S hdr inn M a w) (hT : TIOK P et i) (hTy : i.ty = T)
    (hu : P.underlying t = some (.slice et)) (ho : o.op = .call c) (hcc : c.callee = .builtin .append) (hct : c.argTypes = #[t, t]) (hca : c.args = #[s, x])
    (hv : a.eval s = v) (hb : lk S.heap b = some (some (.obj (.que et T) xs 0))) (hhd : hdr b = some v) (hsrc : Src w M T ys (a.eval x)) (hsrc2 : (∃ A c, a.eval x = .slice (some A) ys.length c) ∨ (ys = [] ∧ ∃ c, a.eval x = .slice none 0 c))
    (hlen : (OK.list xs).length + ys.length ≤ 4294967296) (hid : isNew S.heap id = true) :
    Sound P W M0 S a w o ⟨.v (.one (.row id)), [(b, none), (id, some (.obj (.que et T) (OK.list xs ++ ys) 0))], rd⟩ := by
  obtain ⟨v0, hv0, hB, hfr, hMn⟩ := h.hp b _ hb
  rw [hhd] at hv0; cases hv0
  have hMn : ∀ p, M p → p.block ∉ inn b := fun p hp hm => by cases hMn p hp hm
  obtain ⟨zs, hzs, hB⟩ := hB
  have hzs : zs = OK.list xs := hzs
  rw [← hzs] at hlen ⊢
  obtain ⟨info, z, g1, g2, g3, g4, g5, g6, g7⟩ := hT.info
  have hsz : T.size = info.size := by rw [g2, ← hT.tsz, hTy]
  obtain ⟨A, cc, ns, hxv, hN, hcell⟩ := hsrc
  have hby : info.bytes ≤ 32768 := by rw [g3]; exact hT.byt
  have hbytes : (zs.length + ys.length) * info.bytes ≤ 140737488355328 := Nat.le_trans (Nat.mul_le_mul hlen hby) (by decide)
  have hnl := RepL.len (fun x vs h => RepD.len h) hN
  have hone := que_ones hN
  -- what comes out
  have fin : ∀ v' w', (Builtin.append_ #[t, t] o.type #[v, a.eval x]).run P w = .ok v' w' → (∃ A n c, v' = .slice A n c) → w.heap.size ≤ w'.heap.size → ExtW W w' →
      (∀ g, g ∉ inn b → g < w.heap.size → w'.heap[g]? = w.heap[g]?) → ∀ gs', (∀ g ∈ gs', (w.heap.size ≤ g ∧ W.fresh 0 g) ∨ g ∈ inn b) →
      ((∀ p, M p → w'.cell? p = w.cell? p) → RepObj w' M (.que et T) (zs ++ ys) v' gs') →
      Sound P W M0 S a w o ⟨.v (.one (.row id)), [(b, none), (id, some (.obj (.que et T) (zs ++ ys) 0))], rd⟩ := by
    intro v' w' hr hsl hsize hExt hoth gs' hgs hrep K Q hK
    have hkeep : ∀ p, M p → w'.cell? p = w.cell? p := fun p hp => World.cell?_of_block (hoth p.block (hMn p hp) (h.ml p hp))
    obtain ⟨hdr', inn', hg⟩ := h.merge (dst := o.dst) (v0 := v') (rd := rd) (ids := []) (rm := [b]) (gs := gs') (B := .obj (.que et T) (zs ++ ys) 0) hid (fun b' hb' => by
        rw [List.mem_singleton] at hb'; subst hb'; exact ⟨_, hb⟩) hExt hsize rfl hsl
      (fun g hg => by
        rcases hgs g hg with h1 | h1
        · exact .inl h1.1
        · exact .inr ⟨b, by simp, h1⟩)
      (fun b' C hb' hn g hg => by
        obtain ⟨u, hu, hr⟩ := h.hp b' C hb'
        exact hoth g (fun hm => h.sep b' b C _ g (fun e => hn (by simp [e])) hb' hb hg hm) (hr.lt hg).1)
      hkeep
      (fun hdr' _ => ⟨hrep hkeep, fun g hg => by
        rcases hgs g hg with h1 | h1
        · exact h1.2
        · exact hfr g h1, fun p hp hm => by
        rcases hgs _ hm with h1 | h1
        · have := h.ml p hp; omega
        · exact absurd h1 (hMn p hp)⟩)
    have hex : (execOp a.eval o).run P w = .ok (.value v') w' := by
      simp [execOp, ho, resolve, hcc, hct, hca, invoke, builtin, hv, hr]
    exact wp_val hex (hK _ _ ⟨_, _, _, hg⟩)
  have hnew : ∀ (n m old : Nat) (us : List Value), us.length = n * T.size → n + m = zs.length + ys.length → m * T.size = ns.length → RepL (RepD w M T) (zs ++ ys) (us ++ ns) → n + m ≤ maxLen → ∀ w', w' = w.drew.alloc (.cells (us.toArray ++ ns.toArray ++ Builtin.zeroCells z.cells (grownCap w (n + m) old et - (n + m))) et) → ((∀ p, M p → w'.cell? p = w.cell? p) → RepObj w' M (.que et T) (zs ++ ys) (.slice (some ⟨w.heap.size, 0, none⟩) (n + m) (grownCap w (n + m) old et)) [w.heap.size]) := by
    intro n m old us h1 h2 h3 hL hmx w' hw' hkeep
    have hge := grownCap_ge w (n + m) old et
    have hcm := grownCap_le_maxLen w (n + m) old et hmx
    have hlen2 : (zs ++ ys).length = n + m := by rw [List.length_append]; omega
    refine ⟨zs ++ ys, rfl, .inr ⟨w.heap.size, 0, _, _, by rw [hlen2], rfl, by rw [hw']; exact heap_alloc_new w.drew _, by rw [hlen2]; exact hge, hcm, ?_, ?_⟩⟩
    · have e1 : (us ++ ns).length = (n + m) * T.size := by rw [List.length_append, h1, ← h3, Nat.add_mul]
      rw [List.length_append] at e1
      simp only [Array.size_append, List.size_toArray, size_zeroCells, g5, Nat.zero_add]
      rw [e1, hsz, g2, ← Nat.add_mul]
      exact Nat.mul_le_mul_right _ (by omega)
    · have e1 : (us ++ ns).length = (zs ++ ys).length * T.size := by rw [hlen2, List.length_append, h1, ← h3, Nat.add_mul]
      have e2 : ((us.toArray ++ ns.toArray ++ Builtin.zeroCells z.cells (grownCap w (n + m) old et - (n + m))).toList.drop 0).take ((zs ++ ys).length * T.size) = us ++ ns := by
        simp only [Array.toList_append, List.drop_zero]
        rw [← e1, List.take_left]
      rw [e2]
      exact hL.mono fun _ _ h => h.keep hkeep (fun _ h => h)
  have hmaxl : zs.length + ys.length ≤ maxLen := by simp only [maxLen]; omega
  rcases hB with ⟨hz0, rfl, hgs0⟩ | ⟨g, off, cap, vs, rfl, hgs0, h1, h2, h3, h4, h5⟩
  · subst hz0
    rcases hsrc2 with ⟨ad, c0, hx2⟩ | ⟨rfl, c0, hx2⟩
    · rw [hx2] at hxv; cases hxv
      have hn' : ns.length = ys.length * info.size := by rw [hnl, hsz]
      by_cases hm : ys.length = 0
      · have hy0 : ys = [] := List.eq_nil_of_length_eq_zero hm
        subst hy0
        refine fin (.slice none 0 0) w ?_ ⟨_, _, _, rfl⟩ (Nat.le_refl _) h.ext (fun _ _ _ => rfl) [] (fun g hg => by cases hg) fun _ => ⟨[], rfl, .inl ⟨rfl, rfl, rfl⟩⟩
        rw [hx2]
        have hn0 : ns = [] := List.eq_nil_of_length_eq_zero (by simpa using hn')
        simp [Builtin.append_, run_underlying hu, sizeOf, typeInfo, g1, Builtin.lenOf, Builtin.firstCells, loadCells, loadCellsFrom]
      · have hr := run_append_nil (P := P) w t o.type et info z hu g1 g4 ad ys.length cc ns hn' (hcell ad rfl) (by omega) (by omega) (by have hb := hbytes; simp only [List.length_nil, Nat.zero_add] at hb; omega)
        have hE : Ext w (w.drew.alloc (.cells (ns.toArray ++ Builtin.zeroCells z.cells (grownCap w ys.length 0 et - ys.length)) et)) := Ext.alloc (Ext.drew (Ext.refl w)) _
        refine fin _ _ (by rw [hx2]; exact hr) ⟨_, _, _, rfl⟩ hE.size (h.ext.trans hE) (fun g _ hl => hE.block g hl) [w.heap.size] (fun g hg => by rw [List.mem_singleton] at hg; subst hg; exact .inl ⟨Nat.le_refl _, .new h.ext.size (by decide)⟩) ?_
        have := hnew 0 ys.length 0 [] (by simp) (by simp) (by rw [hnl]) (by simpa using hN) (by simpa using hmaxl) (w.drew.alloc (.cells (ns.toArray ++ Builtin.zeroCells z.cells (grownCap w ys.length 0 et - ys.length)) et)) (by simp)
        simpa using this
    · refine fin (.slice none 0 0) w ?_ ⟨_, _, _, rfl⟩ (Nat.le_refl _) h.ext (fun _ _ _ => rfl) [] (fun g hg => by cases hg) fun _ => ⟨[], rfl, .inl ⟨rfl, rfl, rfl⟩⟩
      rw [hx2]
      simp [Builtin.append_, run_underlying hu, sizeOf, typeInfo, g1, Builtin.lenOf, Builtin.firstCells]
  · have hgm : g ∈ inn b := by rw [hgs0]; simp
    have hus := RepL.len (fun x vs h => RepD.len h) h5
    have hvl : off + zs.length * T.size ≤ vs.size := by
      have := Nat.mul_le_mul_right T.size h2; omega
    rcases hsrc2 with ⟨ad, c0, hx2⟩ | ⟨rfl, c0, hx2⟩
    · rw [hx2] at hxv; cases hxv
      have hn' : ns.length = ys.length * info.size := by rw [hnl, hsz]
      by_cases hroom : zs.length + ys.length ≤ cap
      · have hfit : off + zs.length * info.size + ns.length ≤ vs.size := by
          rw [hn', ← hsz]
          have := Nat.mul_le_mul_right T.size hroom
          rw [Nat.add_mul] at this; omega
        have hr := run_append_room_off (P := P) t o.type et info hu g1 g off zs.length cap vs h1 ad ys.length cc ns hn' (hcell ad rfl) hone hroom hfit
        refine fin _ _ (by rw [hx2]; exact hr) ⟨_, _, _, rfl⟩ (by simp) (below_row h.ext (hfr g hgm)) (fun g' hg' _ => setRow_other w g g' _ fun e => hg' (by rw [e]; exact hgm)) [g] (fun g' hg' => by rw [List.mem_singleton] at hg'; subst hg'; exact .inr hgm) fun hkeep => ?_
        have hlen2 : (zs ++ ys).length = zs.length + ys.length := List.length_append
        refine ⟨zs ++ ys, rfl, .inr ⟨g, off, cap, _, by rw [hlen2], rfl, setRow_heap w g vs _ et _ h1, by rw [hlen2]; exact hroom, h3, ?_, ?_⟩⟩
        · simp only [List.size_toArray, List.length_append, List.length_take, List.length_drop, Array.length_toList]
          omega
        · have e1 : (((vs.toList.take (off + zs.length * info.size) ++ ns ++ vs.toList.drop (off + zs.length * info.size + ns.length)).toArray.toList.drop off).take ((zs ++ ys).length * T.size)) = (vs.toList.drop off).take (zs.length * T.size) ++ ns := by
            rw [← hsz]
            have hvt : vs.toList.length = vs.size := Array.length_toList
            have hl1 : (vs.toList.take (off + zs.length * T.size)).length = off + zs.length * T.size := by rw [List.length_take]; omega
            rw [List.append_assoc, List.drop_append_of_le_length (by omega), List.drop_take, Nat.add_sub_cancel_left, ← List.append_assoc, hlen2, Nat.add_mul]
            have hl2 : ((vs.toList.drop off).take (zs.length * T.size) ++ ns).length = zs.length * T.size + ys.length * T.size := by
              rw [List.length_append, hus, hnl]
            rw [← hl2, List.take_left]
          rw [e1]
          exact (RepL.append h5 hN).mono fun _ _ h => h.keep hkeep (fun _ h => h)
      · have holds : ∀ j u, ((vs.toList.drop off).take (zs.length * T.size))[j]? = some u → w.cell? ((⟨g, off, none⟩ : Addr).add j) = some u := fun j u hj => by
          have hj2 : j < zs.length * T.size := by have := (List.getElem?_eq_some_iff.1 hj).1; rw [hus] at this; exact this
          rw [List.getElem?_take_of_lt hj2, List.getElem?_drop] at hj
          rw [add_off, heap_cell h1]
          simpa using hj
        have hr := run_append_grow (P := P) w t o.type et info z hu g1 g4 ⟨g, off, none⟩ zs.length cap _ (by rw [hus, hsz]) holds ad ys.length cc ns hn' (hcell ad rfl) (by omega) (by simp only [maxLen] at hmaxl; omega) (growslice_fits (by omega) hbytes)
        have hE : ∀ C : Obj, Ext w (w.drew.alloc C) := fun C => Ext.alloc (Ext.drew (Ext.refl w)) _
        refine fin _ _ (by rw [hx2]; exact hr) ⟨_, _, _, rfl⟩ (hE _).size (h.ext.trans (hE _)) (fun g' _ hl => (hE _).block g' hl) [w.heap.size] (fun g' hg => by rw [List.mem_singleton] at hg; subst hg; exact .inl ⟨Nat.le_refl _, .new h.ext.size (by decide)⟩) ?_
        exact hnew zs.length ys.length cap _ hus rfl (by rw [hnl]) (RepL.append h5 hN) hmaxl _ rfl
    · have hns : ns = [] := hN
      refine fin (.slice (some ⟨g, off, none⟩) zs.length cap) w ?_ ⟨_, _, _, rfl⟩ (Nat.le_refl _) h.ext (fun _ _ _ => rfl) [g] (fun g' hg' => by rw [List.mem_singleton] at hg'; subst hg'; exact .inr hgm) fun _ => ⟨zs ++ [], rfl, .inr ⟨g, off, cap, vs, by simp, rfl, h1, by simpa using h2, h3, h4, by simpa using h5⟩⟩
      rw [hx2]
      simp [Builtin.append_, run_underlying hu, sizeOf, typeInfo, g1, Builtin.lenOf, Builtin.firstCells, h2, storeCells]
theorem sound_append {c : Call} (h : Good W M0 S hdr inn M a w) (htab : ∀ t i, E.tab.lookup t = some i → TIOK P t i) (ho : o.op = .call c) (hc : c.callee = .builtin .append) (hk : opK E o.op id S some = some e) : Sound P W M0 S a w o e := by
  rw [ho] at hk
  simp only [opK, hc] at hk
  split at hk
  · rename_i t t2 s x ht hx
    split at hk
    · rename_i htt
      split at hk
      · rename_i i hi
        split at hk
        · rename_i et hd
          split at hk
          · rename_i ei hei
            subst htt
            have hu := (htab _ _ hi).slice hd
            have hct : c.argTypes = #[t2, t2] := by rw [← ht]
            have hca : c.args = #[s, x] := by rw [← hx]
            have hT := htab _ _ hei
            have old : appendR S.heap et ei.ty (S.ev s) (S.ev x) id some = some e → Sound P W M0 S a w o e := by
              intro hk
              unfold appendR at hk
              split at hk
              · cases hk
              rename_i ys rd hel
              obtain ⟨hs1, hs2⟩ := elems_rep h hel
              split at hk
              · rename_i hsn
                obtain ⟨hid, hk⟩ := chk_some hk
                rcases br_some hk with ⟨hb, hk⟩ | ⟨hb, hk⟩
                · cases hk
                  have hv := h.one hsn
                  exact sound_append_row h hT rfl hu ho hc hct hca hv (xs := []) (fz := 0) (gsv := []) (by decide) (.inl ⟨rfl, rfl, rfl⟩) hs1 hs2 (by simpa using hb) hid (.inl ⟨rfl, rfl⟩)
                · cases hk
              · rename_i b hsb
                split at hk
                · rename_i t' e' xs fz hb0
                  split at hk
                  · rename_i hT'
                    split at hk
                    · rename_i htt
                      obtain ⟨hid, hk⟩ := chk_some hk
                      rcases br_some hk with ⟨hb, hk⟩ | ⟨hb, hk⟩
                      · cases hk
                        obtain ⟨htt1, htt2⟩ := htt
                        subst hT'; subst htt1
                        have hb1 := blkAt_some hb0
                        obtain ⟨v0, hv0, hB⟩ := h.hp b _ hb1
                        obtain ⟨hh, _⟩ := h.one hsb
                        rw [hh] at hv0
                        simp at hv0
                        exact sound_append_row h hT rfl hu ho hc hct hca hv0 (xs := xs) htt2 hB hs1 hs2 (by simpa using hb) hid (.inr ⟨b, rfl, hb1, by rw [hh, hv0], rfl⟩)
                      · cases hk
                    · cases hk
                  · cases hk
                · rename_i t' e' xs fz hb0
                  split at hk
                  · rename_i hT'
                    split at hk
                    · rename_i htt
                      obtain ⟨hid, hk⟩ := chk_some hk
                      rcases br_some hk with ⟨hb, hk⟩ | ⟨hb, hk⟩
                      · cases hk
                        obtain ⟨htt1, htt2⟩ := htt
                        subst hT'; subst htt1; subst htt2
                        have hb1 := blkAt_some hb0
                        obtain ⟨hh, _⟩ := h.one hsb
                        exact sound_append_que h hT rfl hu ho hc hct hca rfl hb1 hh hs1 hs2 (by simpa using hb) hid
                      · cases hk
                    · cases hk
                  · cases hk
                · cases hk
              · cases hk
            unfold appendK at hk
            split at hk
            · rename_i bx hx1
              split at hk
              · rename_i td T ys fzx hbx
                have hq := chk_some hk
                clear hk
                have hfx' : fzx = 0 := Nat.eq_of_beq_eq_true hq.1
                have hk := hq.2
                clear hq
                subst hfx'
                have hbx' := blkAt_some hbx
                obtain ⟨hhx, _⟩ := h.one hx1
                unfold appendD at hk
                split at hk
                · rename_i hsn
                  split at hk
                  · rename_i htd
                    obtain ⟨htd, hts⟩ := htd
                    subst htd
                    obtain ⟨hid, hk1⟩ := chk_some hk
                    rcases br_some hk1 with ⟨hb, hk2⟩ | ⟨hb, hk2⟩
                    · cases hk2
                      exact sound_append_deep (rm := [bx]) (xs := []) (gsv := []) (vx := a.eval x) h hT (by rw [hts]; exact hT.tsz) hu ho hc hct hca (h.one hsn) rfl (.inl ⟨rfl, rfl, rfl, rfl⟩) hbx' hhx (by simpa using hb) hid (.inl ⟨rfl, rfl⟩)
                    · cases hk2
                  · cases hk
                · rename_i b hsb
                  split at hk
                  · rename_i t' T' xs fz0 hb0
                    split at hk
                    · rename_i hTT
                      split at hk
                      · rename_i htt
                        obtain ⟨ht1, ht2, hne, hts, hz0⟩ := htt
                        subst hTT; subst ht1; subst ht2; subst hz0
                        obtain ⟨hid, hk1⟩ := chk_some hk
                        rcases br_some hk1 with ⟨hb, hk2⟩ | ⟨hb, hk2⟩
                        · cases hk2
                          have hb1 := blkAt_some hb0
                          obtain ⟨v0, hv0, hB⟩ := h.hp b _ hb1
                          obtain ⟨hh, _⟩ := h.one hsb
                          rw [hh] at hv0
                          simp at hv0
                          exact sound_append_deep (rm := [b, bx]) (xs := xs) (gsv := inn b) (vx := a.eval x) h hT (by rw [hts]; exact hT.tsz) hu ho hc hct hca hv0 rfl hB hbx' hhx (by simpa using hb) hid (.inr ⟨b, rfl, hne, hb1, rfl⟩)
                        · cases hk2
                      · cases hk
                    · cases hk
                  · cases hk
                · cases hk
              · exact old hk
            · exact old hk
          · cases hk
        · cases hk
      · cases hk
    · cases hk
  · cases hk
/-- A new block that is looked at from outside from the beginning. -/
theorem Good.newData {dst : Option Tmp} {x : AV} {u : Value} {rd : List Nat} {w' : World} {n : Nat} (h : Good W M0 S hdr inn M a w) (hE : Ext w w') (hs : w.heap.size < w'.heap.size) (hv : RepAV w' (fun p => M p ∨ (p.block = w.heap.size ∧ p.off < n)) hdr x u) :
    Good W M0 (S.app dst ⟨x, [], rd⟩) hdr inn (fun p => M p ∨ (p.block = w.heap.size ∧ p.off < n)) (a.put dst u) w' := by
  have hc : ∀ p, M p → w'.cell? p = w.cell? p := fun p hp => hE.cell (h.ml p hp)
  refine ⟨h.ext.trans hE, put_nod h, put_len h, put_tm h hc (fun _ h => .inl h) (fun _ _ h => h) hv, ?_, h.un, h.sep, ?_, ?_, h.ag⟩
  · intro b B hb
    obtain ⟨v, hv, hr⟩ := h.hp b B hb
    refine ⟨v, hv, hr.keep hc (fun _ h => .inl h) (fun _ _ h => h) fun g hg => ⟨hE.block g (hr.lt hg).1, fun p hp e => ?_⟩⟩
    rcases hp with hp | ⟨hp, _⟩
    · exact hp
    · have := (hr.lt hg).1
      omega
  · rintro p (hp | ⟨hp, _⟩)
    · exact Nat.lt_of_lt_of_le (h.ml p hp) hE.size
    · omega
  · rintro p (hp | ⟨hp, _⟩)
    · exact h.mo p hp
    · exact .inr (.inl (by have := h.ext.size; omega))

theorem bytesIn_len (s : ByteArray) : (bytesIn s).length = s.size := by
  unfold bytesIn ByteArray.size
  rw [List.length_map, Array.length_toList]
theorem bytesIn_rep (w : World) (M : Mem) : ∀ (l : List UInt8), RepL (RepD w M (.int .u8)) (l.map fun b => (b.toNat : Int)) (l.map fun b => Value.int .u8 b.toNat)
  | [] => rfl
  | b :: l => ⟨[.int .u8 b.toNat], _, rfl, rfl, bytesIn_rep w M l⟩

theorem sound_convert {s d : TypeId} {x : Operand} (h : Good W M0 S hdr inn M a w) (htab : ∀ t i, E.tab.lookup t = some i → TIOK P t i) (ho : o.op = .convert s d x) (hk : opK E o.op id S some = some e) : Sound P W M0 S a w o e := by
  rw [ho] at hk
  simp only [opK] at hk
  split at hk
  · rename_i is i k0 n hs hd hx
    split at hk
    · rename_i kd hkd
      cases hk
      obtain ⟨ds, h1, _⟩ := (htab _ _ hs).und
      have h2 := (htab _ _ hd).int hkd
      exact sound_val h (v := .int kd (kd.wrap n)) (by simp [execOp, ho, h.int hx, convert, run_underlying h1, run_underlying h2, Conv.intToInt]) rfl
    · cases hk
  · rename_i is i s0 hs hd hx
    split at hk
    · rename_i hk1 hk2
      cases hk
      have h1 := (htab _ _ hs).str hk1
      have h2 := (htab _ _ hd).str hk2
      exact sound_val h (v := .string s0) (by simp [execOp, ho, h.str hx, convert, run_underlying h1, run_underlying h2]) rfl
    · rename_i et hk1 hk2
      split at hk
      · rename_i ei hei
        split at hk
        · rename_i hk3
          rcases br_some hk with ⟨hb, hk⟩ | ⟨_, hk⟩
          · cases hk
            have hsz : s0.size ≤ 4294967296 := by simpa using hb
            have h1 := (htab _ _ hs).str hk1
            have h2 := (htab _ _ hd).slice hk2
            have h3 := (htab _ _ hei).int hk3
            have hrun := run_bytes_of_string (P := P) w s d et s0 h1 h2 h3
            have hm : s0.size ≤ maxLen := by simp only [maxLen]; omega
            have hge := grownCap_ge w s0.size 0 et
            have hle := grownCap_le_maxLen w s0.size 0 et hm
            generalize grownCap w s0.size 0 et = cap at hrun hge hle
            generalize hC : Obj.cells (bytesRow s0 cap) et ((bytesRow s0 cap).size, (bytesRow s0 cap).size + 1) = C at hrun
            have hE : Ext w (w.drew.alloc C) := (Ext.refl w).drew.alloc C
            have hnew : (w.drew.alloc C).heap[w.heap.size]? = some C := by
              show (w.heap.push C)[w.heap.size]? = _
              simp
            intro K Q hK
            refine wp_val (v := .slice (some ⟨w.heap.size, 0, none⟩) s0.size cap) (w' := w.drew.alloc C) (by simp [execOp, ho, h.str hx, hrun]) ?_
            apply hK
            refine ⟨hdr, inn, _, h.newData (n := s0.size) hE (by show w.heap.size < (w.heap.push C).size; simp) ?_⟩
            have hl := bytesIn_len s0
            refine ⟨some ⟨w.heap.size, 0, none⟩, cap, s0.data.toList.map fun b => Value.int .u8 b.toNat, congrArg (fun n => [Value.slice (some ⟨w.heap.size, 0, none⟩) n cap]) hl.symm, Nat.le_trans (Nat.le_of_eq hl) hge, hle, bytesIn_rep _ _ _, .inr ⟨_, rfl, fun j u hu => ?_⟩⟩
            have hj : j < s0.size := by have := (List.getElem?_eq_some_iff.1 hu).1; rw [List.length_map, Array.length_toList] at this; exact this
            rw [add_zero_block]
            refine ⟨?_, .inr ⟨rfl, hj⟩⟩
            subst hC
            rw [cell_of_row _ _ j (bytesRow s0 cap) et _ hnew]
            have hu' : (s0.data.map fun b => Value.int .u8 b.toNat)[j]? = some u := by simpa using hu
            have hj' : j < (s0.data.map fun b => Value.int .u8 b.toNat).size := by rw [Array.size_map]; exact hj
            unfold bytesRow
            rw [Array.getElem?_append_left hj']
            exact hu'
          · cases hk
        · cases hk
      · cases hk
    · cases hk
  · rename_i is i hs hd _ _
    unfold bytesK at hk
    split at hk
    · rename_i et hk1 hk2
      split at hk
      · rename_i ei hei
        split at hk
        · rename_i hk3
          split at hk
          · rename_i xs rd hel
            cases hk
            have h1 := (htab _ _ hs).slice hk1
            have h2 := (htab _ _ hei).int hk3
            have h3 := (htab _ _ hd).str hk2
            obtain ⟨⟨A, c, us, e1, e2, e3⟩, hcase⟩ := elems_rep h hel
            have hus : us = xs.map (Value.int .u8) := by
              have : ∀ {xs : List Int} {us : List Value}, RepL (RepD w M (.int .u8)) xs us → us = xs.map (Value.int .u8) := by
                intro xs
                induction xs with
                | nil => intro us h; exact h
                | cons y ys ih =>
                  rintro us ⟨v1, v2, rfl, k1, k2⟩
                  have k1' : v1 = [.int .u8 y] := k1
                  rw [k1', ih k2]; rfl
              exact this e2
            have hrun : (convert s d (a.eval x)).run P w = .ok (.string (bytesOf xs)) w := by
              rcases hcase with ⟨A', c', e4⟩ | ⟨rfl, c', e4⟩
              · rw [e4] at e1
                cases e1
                have hl : (loadCells A' xs.length).run P w = .ok (xs.map (Value.int .u8)).toArray w := by
                  have hk := run_loadCells_list (P := P) (w := w) A' us (fun j v hv => e3 A' rfl j v hv)
                  have hln : us.length = xs.length := by rw [hus]; exact List.length_map ..
                  rw [hln] at hk
                  rw [hk, hus]
                rw [e4, run_convert_bytes_string w s d et _ _ _ h1 h2 h3]
                exact run_bytesToString w A' xs.length _ xs hl
              · rw [e4, run_convert_bytes_string w s d et _ _ _ h1 h2 h3]
                rfl
            exact sound_val h (v := .string (bytesOf xs)) (by simp [execOp, ho, hrun]) rfl
          · cases hk
        · cases hk
      · cases hk
    · cases hk
  · cases hk

end
end Rx
end Go.Proofs.YthfgpnpoocepeaaGreat
