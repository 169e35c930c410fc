/- strings.Cut as a contract of the evaluator. No conditions. -/
import Derived.Test.YtfapjkcmoefilaaGreatDoorRxLibR
import Derived.Test.YtfapjkcmoefilaaGreatDoorRxEnv
import Derived.Test.YtfapjkcmoefilaaGreatDoorRxRead
import Derived.Test.YtfapjkcmoefilaaGreatDoorRxTrain
import Derived.Test.YtfapjkcmoefilaaGreatDoorRxPairs
import Derived.Test.YtfapjkcmoefilaaGreatDoorRxText
namespace Go.Proofs.YtfapjkcmoefilaaGreatDoor
open Go.RowKit BigFrame
namespace Rx
open Go Go.Sort

open Classical in
noncomputable def cutX : ByteArray × ByteArray → Option (ByteArray × ByteArray × Bool) := fun x =>
  if x.1.size < 4294967281 then some (ba (Lib.cut x.1.data.toList x.2.data.toList).1, ba (Lib.cut x.1.data.toList x.2.data.toList).2.1, (Lib.cut x.1.data.toList x.2.data.toList).2.2) else none
noncomputable def cutX_con : Con := ⟨[.str, .str], [.d .str, .d .str, .d .bool], cutX⟩
theorem ext_drewN (w : World) : ∀ n, Ext w (w.drewN n) := fun n => Ext.drewN (Ext.refl w) n
theorem cutX_ok : cutX_con.ok Tryz.prog 53 := by
  refine ⟨⟨_, _, Tryz.func53, by kernel_rfl, rfl⟩, fun w M vs x y hld hM hr hF => ?_⟩
  obtain ⟨s, sep⟩ := x
  obtain ⟨v, r, rfl, hv, u, rfl, hu⟩ := hr
  have hv : v = .string s := hv
  have hu : u = .string sep := hu
  subst hv hu
  change cutX (s, sep) = some y at hF
  unfold cutX at hF
  split at hF
  · rename_i h0
    have h0 : s.size < 4294967281 := h0
    cases hF
    obtain ⟨m, hm⟩ := hld.2.maxL
    refine (Tryz.strings_Cut s sep m w (by omega) (by exact hm)).mono ?_
    rintro e w' ⟨rfl, n, rfl⟩
    exact ⟨[.string (ba (Lib.cut s.data.toList sep.data.toList).1), .string (ba (Lib.cut s.data.toList sep.data.toList).2.1), .bool (Lib.cut s.data.toList sep.data.toList).2.2], [], M, rfl, ext_drewN w n,
      ⟨_, _, [], [], rfl, rfl, rfl, ⟨rfl, rfl⟩, _, _, [], [], rfl, rfl, rfl, ⟨rfl, rfl⟩, _, rfl, rfl, rfl, rfl⟩, by simp, fun p hp => ⟨.inl hp, Nat.lt_of_lt_of_le (hM p hp) (ext_drewN w n).size, by simp⟩⟩
  · cases hF
end Rx
end Go.Proofs.YtfapjkcmoefilaaGreatDoor

namespace Go.Proofs.YtfapjkcmoefilaaGreatDoor
namespace Rx
open Go

noncomputable section
def readTrainIL_vars : Vars := [(0, .val (.str)), (4, .row 0 88 (.pair (i64) (i64))), (17, .row 0 9 (.str)), (18, .val (i64)), (19, .val (i64))]
def readTrainIL_step : ByteArray × List ((Int × Int)) × List (ByteArray) × Int × Int → Option (LRes × (ByteArray × List ((Int × Int)) × List (ByteArray) × Int × Int)) :=
fun x =>
  br (decide (x.snd.snd.snd.2 < x.snd.snd.snd.1))
    (ob (idx x.snd.snd.1 x.snd.snd.snd.2) fun x_1 =>
      ob (List.get?Internal x.snd.snd.1 (Int.toNat x.snd.snd.snd.2)) fun x_2 =>
        ob (cutX (x_2, (⟨⟨[(58 : UInt8)]⟩⟩ : ByteArray))) fun y =>
          ob (readX y.1) fun y_1 =>
            ob (readX y.snd.1) fun y =>
              br (decide (List.length x.snd.1 + [(y_1.1, y.1)].length ≤ (4294967296 : Nat)))
                (some
                  (LRes.next, x.1, x.snd.1 ++ [(y_1.1, y.1)], x.snd.snd.1, x.snd.snd.snd.1,
                    IntKind.i64.wrap (x.snd.snd.snd.2 + (1 : Int))))
                none)
    (some (LRes.out, x.1, x.snd.1, x.snd.snd.1, x.snd.snd.snd.1, x.snd.snd.snd.2))
def readTrainIL_fuel : ByteArray × List ((Int × Int)) × List (ByteArray) × Int × Int → Nat := fun s => (s.2.2.2.1 - s.2.2.2.2).toNat + 1
def readTrainIL : ByteArray × List ((Int × Int)) × List (ByteArray) × Int × Int → Option (ByteArray × List ((Int × Int)) × List (ByteArray) × Int × Int) := fun s => iterP readTrainIL_step (readTrainIL_fuel s) s
def readTrainIL_L : LoopC := ⟨readTrainIL_vars, 0, .plain readTrainIL⟩
noncomputable def readTrainIL_key : Nat := key (loopAt Tryz.f17 0)
theorem readTrainIL_stepok (x : readTrainIL_vars.den) : stepOf (mkEnv [(53, cutX_con), (34, readX_con)] []) Tryz.f17.ntmps readTrainIL_vars 0 (loopAt Tryz.f17 0) x = readTrainIL_step x := by kernel_rfl
theorem readTrainIL_ok : LoopOK Tryz.prog Tryz.f17.ntmps readTrainIL_L (loopAt Tryz.f17 0)   := iterP_loop (n := Tryz.f17.ntmps) (vs := readTrainIL_vars) (out := 0) (body := loopAt Tryz.f17 0) (mkEnv_ok (cons := [(53, cutX_con), (34, readX_con)]) ⟨cutX_ok, readX_ok, trivial⟩ []) readTrainIL_step readTrainIL_fuel (by exact trivial) readTrainIL_stepok

def readTrainI : ByteArray → Option (List ((Int × Int)) × Bool) :=
fun x =>
  br (!x.toList == (⟨⟨[(45 : UInt8)]⟩⟩ : ByteArray).toList)
    (ob (wordsI x) fun y =>
      ob (readTrainIL (x, [], y, (↑(List.length y) : Int), (0 : Int))) fun r =>
        ob (validTrainI r.snd.1) fun y =>
          br (!y) (some ([], false))
            (ob (trainTextI r.snd.1) fun y =>
              br (!ByteArray.toList y == ByteArray.toList r.1) (some ([], false)) (some (r.snd.1, true))))
    (ob (validTrainI []) fun y =>
      br (!y) (some ([], false))
        (ob (trainTextI []) fun y => br (!ByteArray.toList y == x.toList) (some ([], false)) (some ([], true))))
def readTrainI_con : Con := ⟨[.str], [.row 88 (.pair (i64) (i64)), .d (.bool)], readTrainI⟩
theorem readTrainI_run (x : Dens [.str]) : runFn (mkEnv [(33, wordsI_con), (45, validTrainI_con), (18, trainTextI_con)] [(readTrainIL_key, readTrainIL_L)]) Tryz.f17 [.str] [.row 88 (.pair (i64) (i64)), .d (.bool)] x = readTrainI x := by kernel_rfl
theorem readTrainI_ok : readTrainI_con.ok Tryz.prog 17 := fn_ok (con := readTrainI_con) (mkEnv_ok (cons := [(33, wordsI_con), (45, validTrainI_con), (18, trainTextI_con)]) ⟨wordsI_ok, validTrainI_ok, trainTextI_ok, trivial⟩ [(readTrainIL_key, readTrainIL_L)]) Tryz.func17 rfl (by kernel_rfl) (by exact ⟨readTrainIL_ok, trivial⟩) (fun x y h => (readTrainI_run x).trans h)









end
end Rx
end Go.Proofs.YtfapjkcmoefilaaGreatDoor
