/- The evaluator's addresses of parts, strings, conversions, lengths are true of the program's. No conditions. -/
import Derived.Test.YthfgpnpoocepeaaGreatRxF
namespace Go.Proofs.YthfgpnpoocepeaaGreat
open Go.RowKit
namespace Rx

section
variable {P : Program} {W : WX} {M0 : Mem} {S : St} {hdr : Nat → Option Value} {inn : Nat → List Nat} {M : Mem} {a : Act} {w : World} {o : Oper} {e : Eff} {id : Nat} {E : Env}

theorem sound_un {op : UnOp} {t : TypeId} {x : Operand} (h : Good W M0 S hdr inn M a w) (ho : o.op = .unOp op t x) (hk : opK E o.op id S some = some e) : Sound P W M0 S a w o e := by
  rw [ho] at hk
  simp only [opK] at hk
  split at hk
  · rename_i b hx
    cases hk
    exact sound_val h (v := .bool (!b)) (by simp [execOp, ho, h.bool hx, Op.unary]) rfl
  · rename_i kd n hx
    cases hk
    exact sound_val h (v := .int kd (kd.wrap (0 - n))) (by simp [execOp, ho, h.int hx, Op.unary, Op.intArith]) rfl
  · cases hk

theorem sound_nilCheck {x : Operand} (h : Good W M0 S hdr inn M a w) (ho : o.op = .nilCheck x) (hk : opK E o.op id S some = some e) : Sound P W M0 S a w o e := by
  rw [ho] at hk
  simp only [opK] at hk
  split at hk
  · rename_i b off hx
    cases hk
    have hr := h.one hx
    obtain ⟨g, h1, h2⟩ := hr
    exact sound_val h (by simp [execOp, ho, h2]) ⟨g, h1, rfl⟩
  · rename_i b i s off hx
    cases hk
    have hr := h.one hx
    obtain ⟨g, n, c, h1, h2⟩ := hr
    exact sound_val h (by simp [execOp, ho, h2]) ⟨g, n, c, h1, rfl⟩
  · rename_i T y off hx
    cases hk
    have hr := h.one hx
    obtain ⟨ad, us, h2, h3⟩ := hr
    exact sound_val h (by simp [execOp, ho, h2]) ⟨ad, us, rfl, h3⟩
  · cases hk

theorem sound_extract {x : Operand} {n : Nat} (h : Good W M0 S hdr inn M a w) (ho : o.op = .extract x n) (hk : opK E o.op id S some = some e) : Sound P W M0 S a w o e := by
  rw [ho] at hk
  simp only [opK] at hk
  split at hk
  · rename_i xs hx
    split at hk
    · rename_i y hy
      cases hk
      have hr := h.ev x
      rw [hx] at hr
      obtain ⟨vs, hv, hA⟩ := hr
      obtain ⟨v, hvs, hR⟩ := hA.get hy
      exact sound_val h (v := v) (by simp [execOp, ho, hv, Instr.extract, hvs]) hR
    · cases hk
  · cases hk

theorem run_fieldAt {t : TypeId} {i fi : TI} {fs : List (Nat × TypeId)} {f : Nat} {p : Nat × TypeId} {ad : Addr} (hi : TIOK P t i) (hd : i.desc = .struct fs) (hf : fs[f]? = some p) (hfi : TIOK P p.2 fi) :
    (Instr.fieldAt t (.pointer (some ad)) f).run P w = .ok (.pointer (some (ad.add p.1))) w := by
  obtain ⟨fields, hu, rfl⟩ := hi.struct hd
  rw [List.getElem?_map] at hf
  obtain ⟨fd, h1, rfl⟩ := Option.map_eq_some_iff.1 hf
  have h1' : fields[f]? = some fd := by simpa using h1
  have hz : ¬ fi.size = 0 := by have := hfi.pos; omega
  simp [Instr.fieldAt, run_underlying hu, h1', Instr.sureAddr, fieldPlace, hfi.size, hz]

theorem sound_fieldAddr {t : TypeId} {x : Operand} {f : Nat} (h : Good W M0 S hdr inn M a w) (htab : ∀ t i, E.tab.lookup t = some i → TIOK P t i) (ho : o.op = .fieldAddr t x f) (hk : opK E o.op id S some = some e) : Sound P W M0 S a w o e := by
  rw [ho] at hk
  simp only [opK] at hk
  split at hk
  · rename_i i c hi hc
    split at hk
    · rename_i fs hd
      split at hk
      · rename_i p hp
        split at hk
        · rename_i fi hfi
          have hr := h.one hc
          have run : ∀ ad, (a.eval x) = .pointer (some ad) → (execOp a.eval o).run P w = .ok (.value (.pointer (some (ad.add p.1)))) w := by
            intro ad had
            simp [execOp, ho, had, run_fieldAt (htab _ _ hi) hd hp (htab _ _ hfi)]
          split at hk
          · cases hk
            obtain ⟨g, h1, h2⟩ := hr
            have := run _ h2
            rw [add_off] at this
            exact sound_val h this ⟨g, h1, rfl⟩
          · cases hk
            obtain ⟨g, n, c, h1, h2⟩ := hr
            have := run _ h2
            rw [add_off] at this
            exact sound_val h this ⟨g, n, c, h1, by rw [Nat.add_assoc]⟩
          · cases hk
            obtain ⟨ad, us, h2, h3⟩ := hr
            have := run _ h2
            rw [add_add'] at this
            exact sound_val h this ⟨ad, us, rfl, h3⟩
          · cases hk
        · cases hk
      · cases hk
    · cases hk
  · cases hk

theorem run_part {t : TypeId} {i : TI} {cs : List Cell} {us : List Value} {off : Nat} {x : V1} (hi : TIOK P t i) (h : v1At i cs off = some x) (hc : All2 (RepC w M hdr) cs us) : ∃ v, (part t us.toArray off).run P w = .ok v w ∧ RepV1 w M hdr x v := by
  obtain ⟨hl, h⟩ := v1At_rep h hc
  rcases h with ⟨ha, hx⟩ | ⟨ha, u, hu, hx⟩
  · refine ⟨_, ?_, hx⟩
    simp [part, hi.agg, ha, hi.size]
  · refine ⟨u, ?_, hx⟩
    have : us[off]? = some u := by
      have h0 : ((us.drop off).take i.size)[0]? = some u := by rw [hu]; rfl
      rw [List.getElem?_take_of_lt hi.pos, List.getElem?_drop] at h0
      simpa using h0
    simp [part, hi.agg, ha, this]

theorem sound_field {t : TypeId} {x : Operand} {f : Nat} (h : Good W M0 S hdr inn M a w) (htab : ∀ t i, E.tab.lookup t = some i → TIOK P t i) (ho : o.op = .field t x f) (hk : opK E o.op id S some = some e) : Sound P W M0 S a w o e := by
  rw [ho] at hk
  simp only [opK] at hk
  split at hk
  · rename_i i cs hi hc
    split at hk
    · rename_i fs hd
      split at hk
      · rename_i p hp
        split at hk
        · rename_i fi hfi
          split at hk
          · rename_i x1 hx1
            cases hk
            obtain ⟨us, hv, hA⟩ := h.v1 hc
            obtain ⟨v, h1, h2⟩ := run_part (htab _ _ hfi) hx1 hA
            obtain ⟨fields, hu, rfl⟩ := (htab _ _ hi).struct hd
            rw [List.getElem?_map] at hp
            obtain ⟨fd, h3, rfl⟩ := Option.map_eq_some_iff.1 hp
            have h3' : fields[f]? = some fd := by simpa using h3
            exact sound_val h (v := v) (by simp only [execOp, ho, hv]; simp [Instr.field, run_underlying hu, h3', asAgg, h1]) h2
          · cases hk
        · cases hk
      · cases hk
    · cases hk
  · cases hk

theorem intOf_rep {x : Operand} {k : IntKind} {n : Int} (h : Good W M0 S hdr inn M a w) (hx : intOfAV (S.ev x) = some (k, n)) : a.eval x = .int k n := by
  unfold intOfAV at hx
  split at hx
  · rename_i k' n' he
    cases hx
    exact h.int he
  · cases hx

theorem idx_some {α : Type} {xs : List α} {i : Int} {x : α} (h : idx xs i = some x) : 0 ≤ i ∧ xs[i.toNat]? = some x ∧ i < xs.length := by
  unfold idx at h
  split at h
  · rename_i h0
    have := (List.getElem?_eq_some_iff.1 h).1
    exact ⟨h0, h, by omega⟩
  · cases h

theorem RepD.sliceInv {e : Ty} {xs : List e.den} {vs : List Value} (h : RepD w M (.slice e) xs vs) : ∃ A c us, vs = [.slice A xs.length c] ∧ xs.length ≤ c ∧ c ≤ maxLen ∧ RepL (RepD w M e) xs us ∧ (xs = [] ∨ ∃ ad, A = some ad ∧ Lies w M ad us) := h

theorem sound_indexAddr {t : TypeId} {x y : Operand} (h : Good W M0 S hdr inn M a w) (htab : ∀ t i, E.tab.lookup t = some i → TIOK P t i) (ho : o.op = .indexAddr t x y) (hk : opK E o.op id S some = some e) : Sound P W M0 S a w o e := by
  rw [ho] at hk
  simp only [opK] at hk
  split at hk
  · rename_i ti c k0 n hti hc hn
    have hn' := intOf_rep h hn
    have hr := h.one hc
    split at hk
    · rename_i et hd
      split at hk
      · rename_i ei hei
        have hu := (htab _ _ hti).slice hd
        have hel : P.elem t = et := by simp [Program.elem, hu]
        have run : ∀ ad (len cap : Nat), a.eval x = .slice (some ad) len cap → 0 ≤ n → n < len → (execOp a.eval o).run P w = .ok (.value (.pointer (some (ad.add (n.toNat * ei.size))))) w := by
          intro ad len cap hx h0 h1
          have := run_indexAt_slice (P := P) w t ad len cap k0 n (by rw [hel]; exact hu)
          rw [if_pos ⟨h0, h1⟩, hel, (htab _ _ hei).size] at this
          simp [execOp, ho, hx, hn', this]
        split at hk
        · rename_i e1 xs
          split at hk
          · rename_i hsz
            obtain ⟨z, hz, hk⟩ := ob_some hk
            obtain ⟨h0, hz, hlt⟩ := idx_some hz
            cases hk
            obtain ⟨A, c, us, e2, h1, h2, h3, h4⟩ := RepD.sliceInv hr
            simp at e2
            rcases h4 with h4 | ⟨ad, rfl, hl⟩
            · subst h4; simp at hz
            · have hD := RepL.get (fun x vs h => RepD.len h) h3 hz
              refine sound_val h (run ad _ _ e2 h0 hlt) ⟨ad.add (n.toNat * ei.size), _, by rw [add_add']; rfl, hD, fun j u hu => ?_⟩
              have hj : j < e1.size := by have := (List.getElem?_eq_some_iff.1 hu).1; simp at this; omega
              rw [List.getElem?_take_of_lt hj, List.getElem?_drop] at hu
              rw [add_add', ← hsz]
              exact hl _ _ hu
          · cases hk
        · rename_i bn e1 xs
          split at hk
          · rename_i hsz
            obtain ⟨z, hz, hk⟩ := ob_some hk
            obtain ⟨h0, hz, hlt⟩ := idx_some hz
            cases hk
            obtain ⟨A, c, us, e2, h1, h2, h3, h4⟩ := RepD.sliceInv hr.1
            simp at e2
            rcases h4 with h4 | ⟨ad, rfl, hl⟩
            · subst h4; simp at hz
            · have hD := RepL.get (fun x vs h => RepD.len h) h3 hz
              refine sound_val h (run ad _ _ e2 h0 hlt) ⟨ad.add (n.toNat * ei.size), _, by rw [add_add']; rfl, hD, fun j u hu => ?_⟩
              have hj : j < e1.size := by have := (List.getElem?_eq_some_iff.1 hu).1; simp at this; omega
              rw [List.getElem?_take_of_lt hj, List.getElem?_drop] at hu
              rw [add_add', ← hsz]
              exact hl _ _ hu
          · cases hk
        · rename_i b
          split at hk
          · rename_i ty e1 xs fz hb
            split at hk
            · rename_i hsz
              obtain ⟨z, hz, hk⟩ := ob_some hk
              obtain ⟨h0, hz, hlt⟩ := idx_some hz
              cases hk
              obtain ⟨v0, hv0, hB⟩ := h.hp b _ (blkAt_some hb)
              obtain ⟨hh, _⟩ := hr
              obtain ⟨g, cap, vs, rfl, h2, h3, h4, h5, h6⟩ := row_elem hB hz
              rw [hh] at hv0
              simp at hv0
              have := run _ _ _ hv0 h0 hlt
              rw [add_zero_block] at this
              exact sound_val h this ⟨g, _, _, by rw [hh, hv0], by rw [hsz]; rfl⟩
            · cases hk
          · rename_i ty T xs op fz hb
            split at hk
            · rename_i hsz
              obtain ⟨z, hz, hk⟩ := ob_some hk
              obtain ⟨h0, hz, hlt⟩ := idx_some hz
              cases hk
              obtain ⟨v0, hv0, hB⟩ := h.hp b _ (blkAt_some hb)
              obtain ⟨hh, _⟩ := hr
              rcases hB with ⟨rfl, _⟩ | ⟨g, cap, vs, gi, rfl, _⟩
              · simp at hz
              · rw [hh] at hv0
                simp at hv0
                have := run _ _ _ hv0 h0 hlt
                rw [add_zero_block] at this
                exact sound_val h this ⟨g, _, _, by rw [hh, hv0], by rw [hsz]; rfl⟩
            · cases hk
          · rename_i ty e1 xs fz hb
            split at hk
            · rename_i hsz
              obtain ⟨z, hz, hk⟩ := ob_some hk
              obtain ⟨h0, hz, hlt⟩ := idx_some hz
              cases hk
              obtain ⟨v0, hv0, hB⟩ := h.hp b _ (blkAt_some hb)
              obtain ⟨hh, _⟩ := hr
              obtain ⟨g, o', cap, vs, rfl, h2, h3, h4⟩ := que_elem hB.1 hz
              rw [hh] at hv0
              simp at hv0
              have := run _ _ _ hv0 h0 hlt
              rw [add_off] at this
              exact sound_val h this ⟨g, o', _, _, by rw [hh, hv0], by rw [hsz]⟩
            · cases hk
          · cases hk
        · cases hk
      · cases hk
    · rename_i m et hd
      split at hk
      · rename_i ei b off hei
        split at hk
        · rename_i hb
          cases hk
          obtain ⟨h0, h1, h2⟩ := hb
          have hu := (htab _ _ hti).array hd
          obtain ⟨g, hh, hv⟩ := hr
          have hs := (htab _ _ hei).size (w := w)
          refine sound_val h (v := .pointer (some ⟨g, off + n.toNat * ei.size, none⟩)) ?_ ⟨g, hh, rfl⟩
          have e1 : (Instr.indexAt t (.pointer (some ⟨g, off, none⟩)) (.int k0 n)).run P w = .ok (.pointer (some ⟨g, off + n.toNat * ei.size, none⟩)) w := by
            have hm : ¬ m ≤ 1 := by omega
            simp [Instr.indexAt, asIntOf, run_underlying hu, Instr.sureAddr, h0, h1, hs, add_off]
          simp [execOp, ho, hv, hn', e1]
        · cases hk
      · cases hk
    · cases hk
  · cases hk

theorem sound_index {t : TypeId} {x y : Operand} (h : Good W M0 S hdr inn M a w) (htab : ∀ t i, E.tab.lookup t = some i → TIOK P t i) (ho : o.op = .index t x y) (hk : opK E o.op id S some = some e) : Sound P W M0 S a w o e := by
  rw [ho] at hk
  simp only [opK] at hk
  split at hk
  · rename_i ti s k0 n hti hc hn
    have hn' := intOf_rep h hn
    have hs := h.str hc
    split at hk
    · rename_i hd
      obtain ⟨b, hb, hk⟩ := ob_some hk
      cases hk
      unfold sidx at hb
      split at hb
      · rename_i h0
        have hu := (htab _ _ hti).str hd
        refine sound_val h (v := .int .u8 b.toNat) ?_ rfl
        simp [execOp, ho, hs, hn', Instr.index, asIntOf, run_underlying hu, h0, hb]
      · cases hb
    · cases hk
  · cases hk

theorem boundOf_rep {x : Option Operand} {d l : Int} (h : Good W M0 S hdr inn M a w) (hb : boundOf S x d = some l) : (x = none ∧ l = d) ∨ ∃ o k, x = some o ∧ a.eval o = .int k l := by
  unfold boundOf at hb
  split at hb
  · cases hb; exact .inl ⟨rfl, rfl⟩
  · rename_i o
    obtain ⟨p, hp, rfl⟩ := Option.map_eq_some_iff.1 hb
    exact .inr ⟨o, p.1, rfl, intOf_rep h hp⟩

theorem run_sliceBound {k : IntKind} {i : Int} {y : Nat} {c : BoundsCode} (h0 : 0 ≤ i) (h1 : i ≤ y) : (Instr.sliceBound (.int k i) y c).run P w = .ok i.toNat w := by
  simp [Instr.sliceBound, asIntOf, h0, h1]
theorem run_bounds {isS : Bool} {len cap : Nat} {lo hi : Option Operand} {l hh : Int} (hl : (lo = none ∧ l = 0) ∨ ∃ o k, lo = some o ∧ a.eval o = .int k l) (hhi : (hi = none ∧ hh = len) ∨ ∃ o k, hi = some o ∧ a.eval o = .int k hh)
    (h0 : 0 ≤ l) (h1 : l ≤ hh) (h2 : hh ≤ len) (hc : len ≤ cap) : (Instr.sliceBounds isS len cap (lo.map a.eval) (hi.map a.eval) none).run P w = .ok (l.toNat, hh.toNat, cap) w := by
  have e1 : hh.toNat = hh := by omega
  have hb : ∀ k c, (Instr.sliceBound (.int k hh) cap c).run P w = .ok hh.toNat w := fun k c => run_sliceBound (by omega) (by omega)
  have hb2 : ∀ k c, (Instr.sliceBound (.int k l) hh.toNat c).run P w = .ok l.toNat w := fun k c => run_sliceBound h0 (by omega)
  rcases hl with ⟨rfl, rfl⟩ | ⟨o1, k1, rfl, e3⟩ <;> rcases hhi with ⟨rfl, rfl⟩ | ⟨o2, k2, rfl, e4⟩
  · simp [Instr.sliceBounds]
  · simp [Instr.sliceBounds, e4, hb]
  · have hb3 : ∀ k c, (Instr.sliceBound (.int k l) len c).run P w = .ok l.toNat w := fun k c => run_sliceBound h0 (by omega)
    simp [Instr.sliceBounds, e3, hb3]
  · simp [Instr.sliceBounds, e3, e4, hb, hb2]

/-- A part of a slice of data. -/
theorem slice_run {t et : TypeId} {ti ei : TI} {x : Operand} {lo hi : Option Operand} {e1 : Ty} {xs : List e1.den} {l hh : Int} {M' : Mem} (h : Good W M0 S hdr inn M a w) (htab : ∀ t i, E.tab.lookup t = some i → TIOK P t i) (ho : o.op = .slice t x lo hi none) (hti : E.tab.lookup t = some ti) (hd : ti.desc = .slice et)
    (hei : E.tab.lookup et = some ei) (hsz : e1.size = ei.size) (hl : boundOf S lo 0 = some l) (hhi : boundOf S hi xs.length = some hh) (hb : 0 ≤ l ∧ l ≤ hh ∧ hh ≤ xs.length) (hr : RepD w M' (.slice e1) xs [a.eval x]) :
    ∃ v, (execOp a.eval o).run P w = .ok (.value v) w ∧ RepD w M' (.slice e1) ((xs.take hh.toNat).drop l.toNat) [v] := by
  obtain ⟨h0, h1, h2⟩ := hb
  have hu := (htab _ _ hti).slice hd
  obtain ⟨A, c, us, e2, g1, g2, g3, g4⟩ := RepD.sliceInv hr
  simp at e2
  have hbd := run_bounds (P := P) (w := w) (isS := true) (boundOf_rep h hl) (boundOf_rep h hhi) h0 h1 h2 g1
  have hlen : ((xs.take hh.toNat).drop l.toNat).length = hh.toNat - l.toNat := by simp; omega
  refine ⟨.slice (if c = l.toNat then A else A.map (·.add (l.toNat * ei.size))) (hh.toNat - l.toNat) (c - l.toNat), ?_, ?_⟩
  · simp [execOp, ho, e2, Instr.sliceAt, Instr.slice, run_underlying hu, hbd, (htab _ _ hei).size]
  · refine ⟨_, c - l.toNat, (us.take (hh.toNat * e1.size)).drop (l.toNat * e1.size), by rw [hlen], by rw [hlen]; omega, by omega, ?_, ?_⟩
    · exact RepL.drop (fun x vs h => RepD.len h) (RepL.take (fun x vs h => RepD.len h) g3)
    · by_cases hE : (xs.take hh.toNat).drop l.toNat = []
      · exact .inl hE
      · have hne : ¬ c = l.toNat := by
          intro hc
          apply hE
          apply List.eq_nil_of_length_eq_zero
          rw [hlen]; omega
        rcases g4 with g4 | ⟨ad, rfl, hl⟩
        · subst g4; simp at hE
        · refine .inr ⟨ad.add (l.toNat * ei.size), by simp [hne], fun j u hu => ?_⟩
          rw [List.getElem?_drop] at hu
          have hj : l.toNat * e1.size + j < hh.toNat * e1.size := by
            have := (List.getElem?_eq_some_iff.1 hu).1; simp at this; omega
          rw [List.getElem?_take_of_lt hj] at hu
          rw [add_add', ← hsz]
          exact hl _ _ hu

theorem sound_slice {t : TypeId} {x : Operand} {lo hi mx : Option Operand} (h : Good W M0 S hdr inn M a w) (htab : ∀ t i, E.tab.lookup t = some i → TIOK P t i) (ho : o.op = .slice t x lo hi mx) (hk : opK E o.op id S some = some e)
    (hrow : ∀ b, S.ev x = .v (.one (.row b)) → Sound P W M0 S a w o e) : Sound P W M0 S a w o e := by
  rw [ho] at hk
  simp only [opK] at hk
  split at hk
  · rename_i ti s hti hx
    have hs := h.str hx
    split at hk
    · rename_i hd
      split at hk
      · rename_i l hh hl hhi
        rcases br_some hk with ⟨hb, hk⟩ | ⟨hb, hk⟩
        · cases hk
          obtain ⟨h0, h1, h2⟩ : 0 ≤ l ∧ l ≤ hh ∧ hh ≤ s.size := by simpa using hb
          have hu := (htab _ _ hti).str hd
          have := run_bounds (P := P) (w := w) (isS := false) (boundOf_rep h hl) (boundOf_rep h hhi) h0 h1 h2 (Nat.le_refl _)
          refine sound_val h (v := .string (s.extract l.toNat hh.toNat)) ?_ rfl
          simp [execOp, ho, hs, Instr.sliceAt, Instr.slice, run_underlying hu, this]
        · cases hk
      · cases hk
    · cases hk
  · rename_i ti e1 xs hti hx
    have hr := h.one hx
    split at hk
    · rename_i et hd
      split at hk
      · rename_i ei hei
        split at hk
        · rename_i hsz
          split at hk
          · rename_i l hh hl hhi
            rcases br_some hk with ⟨hb, hk⟩ | ⟨hb, hk⟩
            · cases hk
              obtain ⟨v, h1, h2⟩ := slice_run h htab ho hti hd hei hsz hl hhi (by simpa using hb) hr
              exact sound_val h h1 h2
            · cases hk
          · cases hk
        · cases hk
      · cases hk
    · cases hk
  · rename_i ti b hti hx
    exact hrow b hx
  · cases hk
end
end Rx
end Go.Proofs.YthfgpnpoocepeaaGreat
