/- The evaluator's slices of the call's own and calls are true of the program's. No conditions. -/
import Derived.Test.YtfapjkcmoefilaaGreatDoorRxG
namespace Go.Proofs.YtfapjkcmoefilaaGreatDoor
open Go.RowKit
namespace Rx

section
variable {P : Program} {W : WX} {M0 : Mem} {S : St} {hdr : Nat → Option Value} {M : Mem} {a : Act} {w : World} {o : Oper} {e : Eff} {id : Nat} {E : Env}

/-- A new row. -/
theorem sound_row {t : TypeId} {et : Ty} {xs : List et.den} {vs : Array Value} {cap : Nat} {rd : List Nat} (h : Good W M0 S hdr M a w)
    (hr : (execOp a.eval o).run P w = .ok (.value (.slice (some ⟨w.heap.size, 0, none⟩) xs.length cap)) (w.alloc (.cells vs t)))
    (hc1 : xs.length ≤ cap) (hc2 : cap ≤ maxLen) (hc3 : vs.size = cap * et.size) (hL : RepL (RepD w M et) xs (vs.toList.take (xs.length * et.size))) (hid : isNew S.heap id = true) :
    Sound P W M0 S a w o ⟨.v (.one (.row id)), [(id, some (.row t et xs 0))], rd⟩ := by
  intro K Q hK
  have hE : Ext w (w.alloc (.cells vs t)) := Ext.alloc (Ext.refl w) _
  obtain ⟨hdr', hg⟩ := h.fresh (dst := o.dst) (x := .v (.one (.row id))) (u := .slice (some ⟨w.heap.size, 0, none⟩) xs.length cap) (v0 := .slice (some ⟨w.heap.size, 0, none⟩) xs.length cap) (rd := rd) (B := .row t et xs 0) hid
    (by show 0 < 2; decide) hE rfl (Nat.le_refl _) (fun hdr' hh _ => .inr ⟨w.heap.size, cap, vs, rfl, .new h.ext.size (by decide), heap_alloc_new w _, hc1, hc2, hc3, hL.mono fun _ _ h' => h'.keep (fun p hp => hE.cell (h.ml p hp)) (fun _ h => h), fun p hp e => by have := h.ml p hp; omega⟩)
    (fun hdr' _ h0 => ⟨h0, _, _, _, rfl⟩)
  exact wp_val hr (hK _ _ ⟨_, _, hg⟩)

theorem made_list (z : Array Value) : ∀ (n : Nat), (madeCells z (n * z.size)).toList = (List.replicate n z.toList).flatten := by
  intro n
  apply List.ext_getElem
  · simp [madeCells]
  · intro i h1 h2
    have hi : i < n * z.size := by simpa [madeCells] using h1
    have hz : 0 < z.size := by
      rcases Nat.eq_zero_or_pos z.size with h | h
      · rw [h] at hi; simp at hi
      · exact h
    have e1 : (madeCells z (n * z.size)).toList[i] = z[i % z.size]'(Nat.mod_lt _ hz) := by
      simp [madeCells, Nat.mod_lt _ hz]
    rw [e1]
    have key : ∀ (n i : Nat) (h : i < (List.replicate n z.toList).flatten.length), (List.replicate n z.toList).flatten[i] = z[i % z.size]'(Nat.mod_lt _ hz) := by
      intro n
      induction n with
      | zero => intro i h; simp at h
      | succ n ih =>
        intro i h
        simp only [List.replicate_succ, List.flatten_cons]
        by_cases hlt : i < z.size
        · rw [List.getElem_append_left (by simpa using hlt)]
          simp [Nat.mod_eq_of_lt hlt]
        · rw [List.getElem_append_right (by simpa using hlt)]
          have := ih (i - z.size) (by simp [List.replicate_succ] at h ⊢; omega)
          simp only [Array.length_toList]
          rw [this]
          congr 1
          rw [← Nat.mod_eq_sub_mod (by omega)]
    exact (key n i h2).symm

theorem sound_make {t : TypeId} {x y : Operand} (h : Good W M0 S hdr M a w) (htab : ∀ t i, E.tab.lookup t = some i → TIOK P t i) (ho : o.op = .makeSlice t x y) (hk : opK E o.op id S some = some e) : Sound P W M0 S a w o e := by
  rw [ho] at hk
  simp only [opK] at hk
  split at hk
  · rename_i i n m hi hn hm
    have hn' := intOf_rep h hn
    have hm' := intOf_rep h hm
    split at hk
    · rename_i et hd
      split at hk
      · rename_i ei hei
        split at hk
        · rename_i z hz
          obtain ⟨hid, hk⟩ := chk_some hk
          rcases br_some hk with ⟨hb, hk⟩ | ⟨hb, hk⟩
          · cases hk
            obtain ⟨h0, h1, h2⟩ : 0 ≤ n ∧ n = m ∧ n ≤ 1048576 := by simpa using hb
            subst h1
            have hu := (htab _ _ hi).slice hd
            have hT := htab _ _ hei
            obtain ⟨info, zv, g1, g2, g3, g4, g5, g6, g7⟩ := hT.info
            have hby := hT.byt
            have hbb : (info.bytes : Int) * n ≤ 281474976710656 := by
              have : (info.bytes : Int) ≤ 32768 := by omega
              have := Int.mul_le_mul this h2 h0 (by omega)
              omega
            have hr := run_make (P := P) w t et info zv hu g1 g4 .i64 .i64 n n h0 (Int.le_refl _) hbb (by omega)
            have hzd := takeAll_nil (w := w) (M := M) (hdr := hdr) hz (constC g6)
            have hsz : zv.cells.size = ei.ty.size := by rw [hT.tsz]; exact g5
            refine sound_row h (vs := madeCells zv.cells (n.toNat * info.size)) (cap := n.toNat) ?_ (by simp) ?_ ?_ ?_ hid
            · simp [execOp, ho, hn', hm', hr]
            · simp only [maxLen]; omega
            · rw [size_madeCells, g2, ← hT.tsz]
            · rw [List.length_replicate, List.take_of_length_le (by rw [Array.length_toList, size_madeCells, g2, hT.tsz]; exact Nat.le_refl _), g2, ← g5, made_list]
              exact RepL.replicate hzd _
          · cases hk
        · cases hk
      · cases hk
    · cases hk
  · cases hk

theorem fill_seq {et : Ty} {size : Nat} (hsz : et.size = size) : ∀ {n : Nat} {ps : List (Nat × AV)} {us : List (Nat × Value)} {xs : List et.den} {pre rest : List Value}, partsD et n ps = some xs →
    All2 (fun p u => p.1 = u.1 ∧ RepAV w M hdr p.2 u.2) ps us → pre.length = n * size → rest.length = xs.length * size →
    ∃ cs, Instr.fill (fun i => some (i * size, size)) (pre ++ rest).toArray us = some (pre ++ cs).toArray ∧ RepL (RepD w M et) xs cs
  | n, [], us, xs, pre, rest, hp, hA, h1, h2 => by
    simp only [partsD] at hp
    cases hp
    cases hA.nil'
    have : rest = [] := List.eq_nil_of_length_eq_zero (by simpa using h2)
    subst this
    exact ⟨[], by simp [Instr.fill], rfl⟩
  | n, (i, x) :: ps, us, xs, pre, rest, hp, hA, h1, h2 => by
    obtain ⟨u, r, rfl, ⟨hi, hx⟩, hr⟩ := hA.cons'
    obtain ⟨j, u⟩ := u
    simp only at hi; subst hi
    cases x with
    | undef => simp [partsD] at hp
    | tup _ => simp [partsD] at hp
    | v x =>
      simp only [partsD] at hp
      split at hp
      · rename_i hin
        subst hin
        obtain ⟨d, hd, hp⟩ := Option.bind_eq_some_iff.1 hp
        obtain ⟨ds, hds, hp⟩ := Option.bind_eq_some_iff.1 hp
        cases hp
        have hD := takeAll_nil hd (RepV1.cells hx)
        have hl := RepD.len hD
        have hul : u.cells.size = size := by rw [← hsz, ← hl]; simp
        simp only [List.length_cons, Nat.add_mul, Nat.one_mul] at h2
        obtain ⟨cs, k1, k2⟩ := fill_seq hsz (pre := pre ++ u.cells.toList) (rest := rest.drop size) hds hr (by simp [h1, hul, Nat.add_mul]) (by simp; omega)
        refine ⟨u.cells.toList ++ cs, ?_, u.cells.toList, cs, rfl, hD, k2⟩
        have ef := foldl_set (pre.length) u.cells.toList 0 (pre ++ rest).toArray (by simp [hul]; omega)
        have ea : u.cells.zipIdx.foldl (fun cs (c, j) => cs.setIfInBounds (i * size + j) c) (pre ++ rest).toArray = (pre ++ u.cells.toList ++ rest.drop size).toArray := by
          rw [← Array.foldl_toList, Array.toList_zipIdx, ← h1]
          have := ef
          simp only [Nat.add_zero] at this
          rw [this]
          congr 1
          simp [List.drop_append, hul]
        have hb : (u.cells.size ≠ size || decide (i * size + u.cells.size > (pre ++ rest).toArray.size)) = false := by
          simp [hul]; omega
        simp only [Instr.fill, hb, ea]
        simpa using k1
      · cases hp

theorem sound_buildSlice {t : TypeId} {n : Nat} {ps : Array (Nat × Operand)} (h : Good W M0 S hdr M a w) (htab : ∀ t i, E.tab.lookup t = some i → TIOK P t i) (ho : o.op = .buildSlice t n ps) (hk : opK E o.op id S some = some e) : Sound P W M0 S a w o e := by
  rw [ho] at hk
  simp only [opK] at hk
  split at hk
  · rename_i i hi
    split at hk
    · rename_i et hd
      split at hk
      · rename_i ei hei
        split at hk
        · rename_i xs hxs
          split at hk
          · rename_i hn
            obtain ⟨hid, hk⟩ := chk_some hk
            cases hk
            obtain ⟨hlen, hn⟩ := hn
            have hu := (htab _ _ hi).slice hd
            have hT := htab _ _ hei
            obtain ⟨info, zv, g1, g2, g3, g4, g5, g6, g7⟩ := hT.info
            have hpos := hT.pos
            have hbl : n * info.size = xs.length * ei.size := by rw [g2, hlen]
            obtain ⟨cs, k1, k2⟩ := fill_seq (et := ei.ty) (size := ei.size) (n := 0) (pre := []) (rest := ((Array.range (n * info.size)).map (zv.cells[· % zv.cells.size]!)).toList) hT.tsz hxs (parts_rep h ps.toList) (by simp) (by simp [hbl])
            have hcl := RepL.len (fun x vs h => RepD.len h) k2
            rw [hT.tsz] at hcl
            by_cases hz : n * info.size = 0
            · have hxe : xs = [] := by
                apply List.eq_nil_of_length_eq_zero
                rw [hbl] at hz
                rcases Nat.mul_eq_zero.1 hz with h | h <;> omega
              subst hxe
              simp at hlen; subst hlen
              have hce : cs = [] := k2
              subst hce
              refine sound_row h (vs := #[]) (cap := 0) ?_ (by simp) (by simp) (by simp) (by simp [RepL]) hid
              have hps : Instr.fill (fun i => some (i * ei.size, ei.size)) #[] (ps.map fun p => (p.1, a.eval p.2)).toList = some #[] := by
                simpa [Array.range_zero'] using k1
              simp at hps
              simp [execOp, ho, Instr.buildSlice, run_underlying hu, hT.size, Array.range_zero', hps, newRow]
            · have hsm : ¬ n * info.size > 2 ^ 24 := by
                have h1 := hT.siz
                rw [← g2] at h1
                have := Nat.mul_le_mul hn h1
                omega
              have hrun := run_buildSlice (P := P) w t et n (ps.map fun p => (p.1, a.eval p.2)) cs.toArray info zv hu g1 g4 hsm hz (by
                rw [g2]; rw [g2, List.nil_append, List.nil_append, Array.toArray_toList] at k1; rw [Array.toList_map]; exact k1)
              refine sound_row h (vs := cs.toArray) (cap := n) ?_ (by omega) (by simp only [maxLen]; omega) ?_ ?_ hid
              · rw [hlen]
                simp [execOp, ho, hrun]
              · rw [← hlen, hT.tsz]; simpa using hcl
              · rw [hT.tsz, ← hcl, List.take_of_length_le (by simp)]
                exact k2
          · cases hk
        · cases hk
      · cases hk
    · cases hk
  · cases hk

theorem sound_len {c : Call} (h : Good W M0 S hdr M a w) (htab : ∀ t i, E.tab.lookup t = some i → TIOK P t i) (ho : o.op = .call c) (hc : c.callee = .builtin .len) (hk : opK E o.op id S some = some e) : Sound P W M0 S a w o e := by
  rw [ho] at hk
  simp only [opK, hc] at hk
  split at hk
  · rename_i t x ht hx
    have ht' : c.argTypes = #[t] := by rw [← ht]
    have hx' : c.args = #[x] := by rw [← hx]
    split at hk
    · rename_i i hi
      split at hk
      · rename_i s hd hs
        cases hk
        have hu := (htab _ _ hi).str hd
        exact sound_val h (v := .int .i64 s.size) (by simp [execOp, ho, resolve, hc, ht', hx', invoke, builtin, Builtin.len_, h.str hs, run_underlying hu, goInt]) rfl
      · rename_i et hd
        have hu := (htab _ _ hi).slice hd
        have run : ∀ A n cc, a.eval x = .slice A n cc → (execOp a.eval o).run P w = .ok (.value (.int .i64 n)) w := by
          intro A n cc hv
          simp [execOp, ho, resolve, hc, ht', hx', invoke, builtin, Builtin.len_, hv, run_underlying hu, goInt]
        unfold lenK at hk
        split at hk
        · rename_i e1 xs hxs
          cases hk
          obtain ⟨A, cc, us, e2, _⟩ := RepD.sliceInv (h.one hxs)
          simp at e2
          exact sound_val h (run _ _ _ e2) rfl
        · rename_i bn e1 xs hxs
          cases hk
          obtain ⟨A, cc, us, e2, _⟩ := RepD.sliceInv (h.one hxs).1
          simp at e2
          exact sound_val h (run _ _ _ e2) rfl
        · rename_i hxs
          cases hk
          have := h.one hxs
          exact sound_val h (run _ _ _ this) rfl
        · rename_i b hxs
          split at hk
          · rename_i ty e1 xs fz hb
            cases hk
            obtain ⟨hh, _⟩ := h.one hxs
            obtain ⟨v0, hv0, hB⟩ := h.hp b _ (blkAt_some hb)
            rw [hh] at hv0
            simp at hv0
            rcases hB with ⟨rfl, h2⟩ | ⟨g, cap, vs, h2, _⟩
            · exact sound_val h (run _ _ _ (hv0.trans h2)) rfl
            · exact sound_val h (run _ _ _ (hv0.trans h2)) rfl
          · cases hk
        · cases hk
      · cases hk
    · cases hk
  · cases hk
end
end Rx
end Go.Proofs.YtfapjkcmoefilaaGreatDoor
