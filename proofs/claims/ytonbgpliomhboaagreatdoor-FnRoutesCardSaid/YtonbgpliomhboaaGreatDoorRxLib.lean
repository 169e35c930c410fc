/- The library's functions on texts as contracts of the evaluator. No conditions. -/
import Derived.Test.YtonbgpliomhboaaGreatDoorRxEnv
import Derived.Test.YtonbgpliomhboaaGreatDoorShelf
namespace Go.Proofs.YtonbgpliomhboaaGreatDoor
open Go.RowKit
namespace Rx
open Go Go.Sort

theorem ext_grow (w : World) (k : Nat) (os : Array Obj) : Ext w (grow (w.drewN k) os) :=
  ⟨rfl, rfl, rfl, by simp [grow, World.drewN], fun j hj => by
    show (w.heap ++ os)[j]? = _
    rw [Array.getElem?_append_left hj]⟩
/-- One text is handed back. -/
theorem ret_str {w w' : World} {M : Mem} {t : ByteArray} (hM : ∀ p, M p → p.block < w.heap.size) (hE : Ext w w') : ∃ rs hs M', (Ending.returned (.string t)) = .returned (retOf rs) ∧ Ext w w' ∧ RepRs (fun g => w.heap.size ≤ g) w' M' [.d .str] t rs hs ∧ (gsOf hs).Nodup ∧ ∀ p, M' p → (M p ∨ w.heap.size ≤ p.block) ∧ p.block < w'.heap.size ∧ p.block ∉ gsOf hs :=
  ⟨[.string t], [], M, rfl, hE, ⟨_, rfl, rfl, rfl, rfl⟩, by simp [gsOf], fun p hp => ⟨.inl hp, Nat.lt_of_lt_of_le (hM p hp) hE.size, by simp [gsOf]⟩⟩

/-! ### Decimals -/
open Classical in
/-- strconv.FormatInt at base ten. -/
noncomputable def fmtX : Int × Int → Option ByteArray := fun x => if x.2 = 10 ∧ -9223372036854775808 ≤ x.1 ∧ x.1 ≤ 9223372036854775807 then some ⟨(Lib.itoa x.1).toArray⟩ else none
theorem fmtX_eq {n : Int} (h0 : -9223372036854775808 ≤ n) (h1 : n ≤ 9223372036854775807) : fmtX (n, 10) = some ⟨(Lib.itoa n).toArray⟩ := by
  unfold fmtX
  rw [if_pos ⟨rfl, h0, h1⟩]
noncomputable def fmtX_con : Con := ⟨[i64, i64], [.d .str], fmtX⟩
theorem tab_laid {w : World} (h : Laid w) : Lib.TabIs Tryz.prog w "internal/strconv.uint64pow10" .u64 Lib.pow10Tab :=
  h.2.pow
theorem fmtX_ok : fmtX_con.ok Tryz.prog 80 := by
  refine ⟨⟨_, _, Tryz.func80, by kernel_rfl, rfl⟩, fun w M vs x y hld hM hr hF => ?_⟩
  obtain ⟨n, b⟩ := x
  obtain ⟨v, r, rfl, hv, u, rfl, hu⟩ := hr
  have hv : v = .int .i64 n := hv
  have hu : u = .int .i64 b := hu
  subst hv hu
  change fmtX (n, b) = some y at hF
  unfold fmtX at hF
  split at hF
  · rename_i hn
    obtain ⟨e1, h0, h1⟩ := hn
    cases hF
    have e1 : (b : Int) = (10 : Int) := e1
    have e2 : (Value.int .i64 b) = .int .i64 10 := congrArg (Value.int .i64) e1
    rw [e2]
    refine (Tryz.strconv_FormatInt_10 n h0 h1 w (tab_laid hld)).mono ?_
    rintro e w' ⟨rfl, k, os, rfl⟩
    exact ret_str hM (ext_grow w k os)
  · cases hF

end Rx
end Go.Proofs.YtonbgpliomhboaaGreatDoor
