/- The library's functions for reading texts, and ReadDecimal, as contracts of the evaluator. No conditions. -/
import Derived.Test.YtfapjkcmoefilaaDoorRxLib
import Derived.Test.YtfapjkcmoefilaaDoorRxText
import Derived.Test.YtfapjkcmoefilaaDoorRxByte
import Derived.WalkKit
import Derived.WalkSpells
import Derived.WalkLawsBesides
import Derived.Handy
import Derived.Lib.AtoiErrMem
import Derived.Lib.SplitLaws
import Derived.Lib.Slices
namespace Go.Proofs.YtfapjkcmoefilaaDoor
open Go.RowKit BigFrame
namespace Rx
open Go Go.Sort

/-! ### strings.Split -/
open Classical in
noncomputable def splitX : ByteArray × ByteArray → Option (List ByteArray) := fun x =>
  if x.1.size < 4294967281 ∧ 1 ≤ x.2.size then some (Lib.splitB x.2 0 (Lib.countB x.1 x.2) x.1) else none
noncomputable def splitX_con : Con := ⟨[.str, .str], [.row 9 .str], splitX⟩
theorem strs_repL (w : World) (M : Mem) : ∀ l : List ByteArray, RepL (RepD w M .str) l (l.map Value.string)
  | [] => rfl
  | x :: l => ⟨[.string x], l.map Value.string, rfl, rfl, strs_repL w M l⟩
theorem splitX_ok : splitX_con.ok Tryd.prog 91 := by
  refine ⟨⟨_, _, Tryd.func91, by kernel_rfl, rfl⟩, fun w M vs x y hld hM hr hF => ?_⟩
  obtain ⟨s, sep⟩ := x
  obtain ⟨v, r, rfl, hv, u, rfl, hu⟩ := hr
  have hv : v = .string s := hv
  have hu : u = .string sep := hu
  subst hv hu
  change splitX (s, sep) = some y at hF
  unfold splitX at hF
  split at hF
  · rename_i hn
    obtain ⟨h0, h1⟩ := hn
    have h0 : s.size < 4294967281 := h0
    have h1 : 1 ≤ sep.size := h1
    cases hF
    obtain ⟨m, hm⟩ := hld.2.maxL
    have hlen := Lib.splitB_all sep h1 0 (Lib.countB s sep) s rfl
    have hcnt := Lib.countB_le sep h1 s.size s (Nat.le_refl _)
    generalize hL : Lib.splitB sep 0 (Lib.countB s sep) s = L at hlen
    refine (Tryd.strings_Split s sep m w (by omega) (by exact hm) h1).mono ?_
    rintro e w' ⟨rfl, rfl⟩
    rw [hL]
    have hg : (w.alloc (.cells (L.map Value.string).toArray 9)).heap[w.heap.size]? = some (.cells (L.map Value.string).toArray 9 (0, 0)) := by
      show (w.heap.push _)[w.heap.size]? = _
      simp
    have hle : L.length ≤ Lib.countB s sep + 1 := by omega
    refine ⟨[.slice (some ⟨w.heap.size, 0, none⟩) L.length (Lib.countB s sep + 1)], [.slice (some ⟨w.heap.size, 0, none⟩) L.length (Lib.countB s sep + 1)], M, ?_, ?_, ⟨_, rfl, rfl, _, rfl, rfl, .inr ⟨w.heap.size, _, _, rfl, Nat.le_refl _, hg, ?_, ?_, ?_, ?_, fun p hp e => ?_⟩⟩, ?_, fun p hp => ?_⟩
    · rw [hlen]; rfl
    · exact Ext.alloc (Ext.refl w) _
    · exact hle
    · show Lib.countB s sep + 1 ≤ maxLen
      unfold maxLen; omega
    · show (L.map Value.string).toArray.size = (Lib.countB s sep + 1) * 1
      simp [hlen]
    · have e1 : ((L.map Value.string).toArray.toList).take (L.length * Ty.str.size) = L.map Value.string := by
        show (L.map Value.string).take (L.length * 1) = _
        rw [Nat.mul_one]
        exact List.take_of_length_le (by simp)
      exact (congrArg (RepL (RepD (w.alloc (.cells (L.map Value.string).toArray 9)) M .str) L) e1).mpr (strs_repL _ _ L)
    · have := hM p hp; omega
    · simp [own]
    · have := hM p hp
      refine ⟨.inl hp, Nat.lt_of_lt_of_le this (Ext.alloc (Ext.refl w) _).size, ?_⟩
      simp [own]
      omega
  · cases hF

/-! ### slices.Max -/
set_option maxHeartbeats 2000000 in
set_option maxRecDepth 100000 in
theorem max_walk (b off n c : Nat) (zs : List Int) (w : World) (hn : 0 < n) (hz : n ≤ zs.length) (hbig : n ≤ 9223372036854775807) (hc : ∀ j, j < zs.length → w.cell? ⟨b, off + j, none⟩ = some (.int .i64 (zs.getD j 0))) :
    Calls Tryd.prog 48 #[.slice (some ⟨b, off, none⟩) n c] w fun e w' => e = .returned (.int .i64 (Lib.maxOf (zs.take n))) ∧ w' = w := by
  have h0 : w.cell? ⟨b, off, none⟩ = some (.int .i64 (zs.getD 0 0)) := hc 0 (by omega)
  go_enter Tryd.func48, Tryd.ntmps48
  go_wp2
  go_loop [3, 4] (fun m i => ∃ k : Nat, 0 < k ∧ k ≤ n ∧ i = .int .i64 k ∧ m = .int .i64 (Lib.maxOf (zs.take k))) (fun _ i => match i with | .int _ q => n - q.toNat | _ => 0)
  case atStart => exact ⟨1, Nat.one_pos, hn, rfl, by rw [Lib.maxOf_one]; simp [List.getD]⟩
  case round =>
    obtain ⟨k, hk0, hk, rfl, rfl⟩ := hrel
    have hcell : k < n → w.cell? ⟨b, off + k, none⟩ = some (.int .i64 (zs.getD k 0)) := fun _ => hc k (by omega)
    go_wp2
    · have hlt : k < n := by assumption
      refine ⟨⟨k + 1, Nat.succ_pos k, by omega, congrArg (Value.int .i64) (show (k : Int) + 1 = ((k + 1 : Nat) : Int) by omega), ?_⟩, (show n - ((k : Int) + 1).toNat < n - (k : Int).toNat by omega)⟩
      rw [Lib.maxOf_step zs k hk0 (by omega)]
      simp [List.getD]
    · have hge : ¬ k < n := by assumption
      have : k = n := by omega
      subst this
      go_ret
      exact ⟨rfl, rfl⟩
open Classical in
noncomputable def maxX : List Int → Option Int := fun l => if l ≠ [] ∧ l.length ≤ 9223372036854775807 then some (Lib.maxOf l) else none
noncomputable def maxX_con : Con := ⟨[.slice i64], [.d i64], maxX⟩
theorem ints_cells {w : World} {M : Mem} : ∀ {xs : List Int} {us : List Value}, RepL (RepD w M i64) xs us → us = xs.map (Value.int .i64)
  | [], _, h => h
  | x :: xs, _, ⟨v1, v2, e, h1, h2⟩ => by
    have h1 : v1 = [.int .i64 x] := h1
    rw [e, h1, ints_cells h2]; rfl
theorem ret_int1 {w w' : World} {M : Mem} {t : Int} (hM : ∀ p, M p → p.block < w.heap.size) (hE : Ext w w') : ∃ rs hs M', (Ending.returned (.int .i64 t)) = .returned (retOf rs) ∧ Ext w w' ∧ RepRs (fun g => w.heap.size ≤ g) w' M' [.d i64] t rs hs ∧ (hs.filterMap own).Nodup ∧ ∀ p, M' p → (M p ∨ w.heap.size ≤ p.block) ∧ p.block < w'.heap.size ∧ p.block ∉ hs.filterMap own :=
  ⟨[.int .i64 t], [], M, rfl, hE, ⟨_, rfl, rfl, rfl, rfl⟩, by simp, fun p hp => ⟨.inl hp, Nat.lt_of_lt_of_le (hM p hp) hE.size, by simp⟩⟩
theorem maxX_ok : maxX_con.ok Tryd.prog 48 := by
  refine ⟨⟨_, _, Tryd.func48, by kernel_rfl, rfl⟩, fun w M vs l y hld hM hr hF => ?_⟩
  obtain ⟨v, rfl, hv⟩ := hr
  have hv : RepD w M (.slice i64) l [v] := hv
  change maxX l = some y at hF
  unfold maxX at hF
  split at hF
  · rename_i hn
    obtain ⟨h0, h1⟩ := hn
    have h0 : (l : List Int) ≠ [] := h0
    have h1 : List.length (l : List Int) ≤ 9223372036854775807 := h1
    cases hF
    obtain ⟨A, c, us, e1, g1, g2, g3, g4⟩ := hv
    simp only [List.cons.injEq, and_true] at e1
    subst e1
    have hus := ints_cells g3
    subst hus
    obtain ⟨ad, rfl, hL⟩ := g4.resolve_left h0
    obtain ⟨x0, l', rfl⟩ := List.exists_cons_of_ne_nil h0
    have hsp : ad.spot = none := by
      have := (hL 0 (.int .i64 x0) rfl).1
      cases hs : ad.spot with
      | none => rfl
      | some k =>
        have e0 : ad.add 0 = ad := rfl
        rw [e0] at this
        unfold World.cell? at this
        rw [hs] at this
        split at this <;> simp at this
    obtain ⟨bk, o, sp⟩ := ad
    simp only at hsp
    subst hsp
    have hw := max_walk bk o (x0 :: l').length c (x0 :: l') w (by simp) (Nat.le_refl _) h1 (fun j hj => by
      have e : (x0 :: l' : List Int)[j]? = some ((x0 :: l' : List Int).getD j 0) := by rw [List.getD_eq_getElem?_getD, List.getElem?_eq_getElem hj]; rfl
      have := (hL j (.int .i64 ((x0 :: l' : List Int).getD j 0)) (map_get (l := x0 :: l') (f := Value.int .i64) e)).1
      rw [add_off] at this
      exact this)
    refine hw.mono ?_
    rintro e w' ⟨he, rfl⟩
    have he : e = .returned (.int .i64 (Lib.maxOf (x0 :: l' : List Int))) := he.trans (congrArg (fun z : List Int => Ending.returned (Value.int .i64 (Lib.maxOf z))) (List.take_of_length_le (Nat.le_refl _)))
    subst he
    exact ret_int1 hM (Ext.refl w')
  · cases hF
end Rx
end Go.Proofs.YtfapjkcmoefilaaDoor
