/- The library's functions on texts as contracts of the evaluator. No conditions. -/
import Derived.Test.YtfapjkcmoefilaaGreatDoorRxEnv
import Derived.Test.YtfapjkcmoefilaaGreatDoorShelf
namespace Go.Proofs.YtfapjkcmoefilaaGreatDoor
open Go.RowKit
namespace Rx
open Go Go.Sort

theorem ext_grow (w : World) (k : Nat) (os : Array Obj) : Ext w (grow (w.drewN k) os) :=
  ⟨rfl, rfl, rfl, by simp [grow, World.drewN], fun j hj => by
    show (w.heap ++ os)[j]? = _
    rw [Array.getElem?_append_left hj]⟩
/-- One text is handed back. -/
theorem ret_str {w w' : World} {M : Mem} {t : ByteArray} (hM : ∀ p, M p → p.block < w.heap.size) (hE : Ext w w') : ∃ rs hs M', (Ending.returned (.string t)) = .returned (retOf rs) ∧ Ext w w' ∧ RepRs (fun g => w.heap.size ≤ g) w' M' [.d .str] t rs hs ∧ (hs.filterMap own).Nodup ∧ ∀ p, M' p → (M p ∨ w.heap.size ≤ p.block) ∧ p.block < w'.heap.size ∧ p.block ∉ hs.filterMap own :=
  ⟨[.string t], [], M, rfl, hE, ⟨_, rfl, rfl, rfl, rfl⟩, by simp, fun p hp => ⟨.inl hp, Nat.lt_of_lt_of_le (hM p hp) hE.size, by simp⟩⟩

/-! ### Decimals -/
open Classical in
/-- strconv.FormatInt at base ten. -/
noncomputable def fmtX : Int × Int → Option ByteArray := fun x => if x.2 = 10 ∧ -9223372036854775808 ≤ x.1 ∧ x.1 ≤ 9223372036854775807 then some ⟨(Lib.itoa x.1).toArray⟩ else none
theorem fmtX_eq {n : Int} (h0 : -9223372036854775808 ≤ n) (h1 : n ≤ 9223372036854775807) : fmtX (n, 10) = some ⟨(Lib.itoa n).toArray⟩ := by
  unfold fmtX
  rw [if_pos ⟨rfl, h0, h1⟩]
noncomputable def fmtX_con : Con := ⟨[i64, i64], [.d .str], fmtX⟩
theorem tab_laid {w : World} (h : Laid w) : Lib.TabIs Tryz.prog w "internal/strconv.uint64pow10" .u64 Lib.pow10Tab :=
  h.2.pow
theorem fmtX_ok : fmtX_con.ok Tryz.prog 97 := by
  refine ⟨⟨_, _, Tryz.func97, by kernel_rfl, rfl⟩, fun w M vs x y hld hM hr hF => ?_⟩
  obtain ⟨n, b⟩ := x
  obtain ⟨v, r, rfl, hv, u, rfl, hu⟩ := hr
  have hv : v = .int .i64 n := hv
  have hu : u = .int .i64 b := hu
  subst hv hu
  change fmtX (n, b) = some y at hF
  unfold fmtX at hF
  split at hF
  · rename_i hn
    obtain ⟨e1, h0, h1⟩ := hn
    cases hF
    have e1 : (b : Int) = (10 : Int) := e1
    have e2 : (Value.int .i64 b) = .int .i64 10 := congrArg (Value.int .i64) e1
    rw [e2]
    refine (Tryz.strconv_FormatInt_10 n h0 h1 w (tab_laid hld)).mono ?_
    rintro e w' ⟨rfl, k, os, rfl⟩
    exact ret_str hM (ext_grow w k os)
  · cases hF

/-! ### Joined texts -/
open Classical in
noncomputable def joinX : List ByteArray × ByteArray → Option ByteArray := fun x =>
  if x.1.length ≤ 140737488355328 ∧ (Lib.join (x.1.map (·.data.toList)) x.2.data.toList).length ≤ 140737488355328 then some ⟨(Lib.join (x.1.map (·.data.toList)) x.2.data.toList).toArray⟩ else none
theorem joinX_eq {l : List ByteArray} {s : ByteArray} (h0 : l.length ≤ 140737488355328) (h1 : (Lib.join (l.map (·.data.toList)) s.data.toList).length ≤ 140737488355328) : joinX (l, s) = some ⟨(Lib.join (l.map (·.data.toList)) s.data.toList).toArray⟩ := by
  unfold joinX
  rw [if_pos ⟨h0, h1⟩]
noncomputable def joinX_con : Con := ⟨[.slice .str, .str], [.d .str], joinX⟩
theorem strs_cells {w : World} {M : Mem} : ∀ {xs : List ByteArray} {us : List Value}, RepL (RepD w M .str) xs us → us = xs.map Value.string
  | [], _, h => h
  | x :: xs, _, ⟨v1, v2, e, h1, h2⟩ => by
    have h1 : v1 = [.string x] := h1
    rw [e, h1, strs_cells h2]; rfl
theorem map_get {α β : Type} {l : List α} {f : α → β} {j : Nat} {x : α} (h : l[j]? = some x) : (l.map f)[j]? = some (f x) := by rw [List.getElem?_map, h]; rfl
theorem joinX_ok : joinX_con.ok Tryz.prog 55 := by
  refine ⟨⟨_, _, Tryz.func55, by kernel_rfl, rfl⟩, fun w M vs x y hld hM hr hF => ?_⟩
  obtain ⟨l, s⟩ := x
  obtain ⟨v, r, rfl, hv, u, rfl, hu⟩ := hr
  have hv : RepD w M (.slice .str) l [v] := hv
  have hu : u = .string s := hu
  subst hu
  change joinX (l, s) = some y at hF
  unfold joinX at hF
  split at hF
  · rename_i hn
    obtain ⟨h0, h1⟩ := hn
    cases hF
    obtain ⟨A, c, us, e1, g1, g2, g3, g4⟩ := hv
    simp only [List.cons.injEq, and_true] at e1
    subst e1
    have hus := strs_cells g3
    subst hus
    by_cases hl : l = []
    · subst hl
      refine (Tryz.strings_Join_none A c s w).mono ?_
      rintro e w' ⟨rfl, rfl⟩
      exact ret_str hM (Ext.refl w')
    · obtain ⟨ad, rfl, hL⟩ := g4.resolve_left hl
      obtain ⟨x0, l', rfl⟩ := List.exists_cons_of_ne_nil hl
      have hsp : ad.spot = none := by
        have := (hL 0 (.string x0) rfl).1
        cases hs : ad.spot with
        | none => rfl
        | some k =>
          have e0 : ad.add 0 = ad := rfl
          rw [e0] at this
          unfold World.cell? at this
          rw [hs] at this
          split at this <;> simp at this
      obtain ⟨bk, o, sp⟩ := ad
      simp only at hsp
      subst hsp
      refine (Tryz.strings_Join bk o c (x0 :: l') s w (fun j x hx => ?_) ?_ h0 g1 h1).mono ?_
      · have := (hL j (.string x) (map_get (l := x0 :: l') (f := Value.string) hx)).1
        rw [add_off] at this
        exact this
      · have := hM _ (hL 0 (.string x0) rfl).2
        exact this
      · rintro e w' ⟨rfl, hB⟩
        exact ret_str hM hB
  · cases hF
end Rx
end Go.Proofs.YtfapjkcmoefilaaGreatDoor
