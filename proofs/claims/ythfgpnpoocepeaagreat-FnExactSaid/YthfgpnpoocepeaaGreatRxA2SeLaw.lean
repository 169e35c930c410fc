/- What the functions of RxSrc come to, and their contracts. No conditions. -/
import Derived.Test.YthfgpnpoocepeaaGreatRxEnv
import Derived.Test.YthfgpnpoocepeaaGreatRxPlain
import Derived.Test.YthfgpnpoocepeaaGreatRxTrain
import Derived.Test.YthfgpnpoocepeaaGreatRxSearchS
import Derived.Test.YthfgpnpoocepeaaGreatRxTrVal
namespace Go.Proofs.YthfgpnpoocepeaaGreat
namespace Rx
open Go

def nextS : (List (Int) × Int × Int) → Option ((Int) × ((List (Int) × Int × Int))) :=
fun x =>
  br (decide (x.snd.1 < (↑x.1.length : Int)))
    (ob (idx x.1 x.snd.1) fun y =>
      br (decide (IntKind.i64.wrap (x.snd.1 + (1 : Int)) ≤ (↑x.1.length : Int)))
        (some
          (IntKind.i64.wrap y, x.1, IntKind.i64.wrap (x.snd.1 + (1 : Int)),
            IntKind.u64.wrap
              (IntKind.u64.wrap
                  (IntKind.u64.wrap (x.snd.2 * (6364136223846793005 : Int)) + IntKind.u64.wrap (IntKind.i64.wrap y)) +
                (1442695040888963407 : Int))))
        (some
          (IntKind.i64.wrap
              (andI IntKind.u64
                (shrI IntKind.u64
                  (IntKind.u64.wrap
                    (IntKind.u64.wrap
                        (IntKind.u64.wrap (x.snd.2 * (6364136223846793005 : Int)) +
                          IntKind.u64.wrap (IntKind.i64.wrap y)) +
                      (1442695040888963407 : Int)))
                  (40 : Int))
                (255 : Int)),
            x.1, IntKind.i64.wrap (x.snd.1 + (1 : Int)),
            IntKind.u64.wrap
              (IntKind.u64.wrap
                  (IntKind.u64.wrap (x.snd.2 * (6364136223846793005 : Int)) + IntKind.u64.wrap (IntKind.i64.wrap y)) +
                (1442695040888963407 : Int)))))
    (br (decide (IntKind.i64.wrap (x.snd.1 + (1 : Int)) ≤ (↑x.1.length : Int)))
      (some
        ((0 : Int), x.1, IntKind.i64.wrap (x.snd.1 + (1 : Int)),
          IntKind.u64.wrap
            (IntKind.u64.wrap (IntKind.u64.wrap (x.snd.2 * (6364136223846793005 : Int)) + IntKind.u64.wrap (0 : Int)) +
              (1442695040888963407 : Int))))
      (some
        (IntKind.i64.wrap
            (andI IntKind.u64
              (shrI IntKind.u64
                (IntKind.u64.wrap
                  (IntKind.u64.wrap
                      (IntKind.u64.wrap (x.snd.2 * (6364136223846793005 : Int)) + IntKind.u64.wrap (0 : Int)) +
                    (1442695040888963407 : Int)))
                (40 : Int))
              (255 : Int)),
          x.1, IntKind.i64.wrap (x.snd.1 + (1 : Int)),
          IntKind.u64.wrap
            (IntKind.u64.wrap (IntKind.u64.wrap (x.snd.2 * (6364136223846793005 : Int)) + IntKind.u64.wrap (0 : Int)) +
              (1442695040888963407 : Int)))))
def nextS_con : MCon := ⟨[.box 86 (.pair (.slice (.int .u8)) (.pair (i64) (u64)))], [.d (i64)], nextS⟩
theorem nextS_run (x : ADens [.box 86 (.pair (.slice (.int .u8)) (.pair (i64) (u64)))]) : runFnM (mkEnv [] []) Tryz.f52 [.box 86 (.pair (.slice (.int .u8)) (.pair (i64) (u64)))] [.d (i64)] x = nextS x := by kernel_rfl
theorem nextS_ok : nextS_con.ok Tryz.prog 52 := fnM_ok (con := nextS_con) (mkEnv_ok (cons := []) trivial []) Tryz.func52 rfl (by kernel_rfl) (by exact trivial) (fun x y h => (nextS_run x).trans h)

def pickS : (List (Int) × Int × Int) × Int → Option ((Int) × ((List (Int) × Int × Int) × Int)) :=
fun x =>
  br (decide (x.2 ≤ (1 : Int))) (some ((0 : Int), (x.fst.1, x.fst.snd.1, x.fst.snd.2), x.2))
    (ob (nextS (x.fst.1, x.fst.snd.1, x.fst.snd.2)) fun y =>
      br (decide ((200 : Int) < x.2))
        (ob (nextS (y.snd.1, y.snd.snd.1, y.snd.snd.2)) fun y_1 =>
          br (x.2 == (0 : Int)) none
            (some
              ((IntKind.i64.wrap (IntKind.i64.wrap (y.1 * (256 : Int)) + y_1.1)).tmod x.2,
                (y_1.snd.1, y_1.snd.snd.1, y_1.snd.snd.2), x.2)))
        (br (x.2 == (0 : Int)) none (some (Int.tmod y.1 x.2, (y.snd.1, y.snd.snd.1, y.snd.snd.2), x.2))))
def pickS_con : MCon := ⟨[.box 86 (.pair (.slice (.int .u8)) (.pair (i64) (u64))), .v (.d (i64))], [.d (i64)], pickS⟩
theorem pickS_run (x : ADens [.box 86 (.pair (.slice (.int .u8)) (.pair (i64) (u64))), .v (.d (i64))]) : runFnM (mkEnvM [] [(52, nextS_con)] []) Tryz.f26 [.box 86 (.pair (.slice (.int .u8)) (.pair (i64) (u64))), .v (.d (i64))] [.d (i64)] x = pickS x := by kernel_rfl
theorem pickS_ok : pickS_con.ok Tryz.prog 26 := fnM_ok (con := pickS_con) (mkEnvM_ok (cons := []) (mcons := [(52, nextS_con)]) trivial ⟨nextS_ok, trivial⟩ []) Tryz.func26 rfl (by kernel_rfl) (by exact trivial) (fun x y h => (pickS_run x).trans h)

def amongS : (List (Int) × Int × Int) × List (Int) → Option ((Int) × ((List (Int) × Int × Int) × List (Int))) :=
fun x =>
  ob (pickS ((x.fst.1, x.fst.snd.1, x.fst.snd.2), (↑x.2.length : Int))) fun y =>
    ob (idx x.2 y.1) fun y_1 => some (y_1, (y.snd.fst.1, y.snd.fst.snd.1, y.snd.fst.snd.2), x.2)
def amongS_con : MCon := ⟨[.box 86 (.pair (.slice (.int .u8)) (.pair (i64) (u64))), .v (.d (.slice (i64)))], [.d (i64)], amongS⟩
theorem amongS_run (x : ADens [.box 86 (.pair (.slice (.int .u8)) (.pair (i64) (u64))), .v (.d (.slice (i64)))]) : runFnM (mkEnvM [] [(26, pickS_con)] []) Tryz.f46 [.box 86 (.pair (.slice (.int .u8)) (.pair (i64) (u64))), .v (.d (.slice (i64)))] [.d (i64)] x = amongS x := by kernel_rfl
theorem amongS_ok : amongS_con.ok Tryz.prog 46 := fnM_ok (con := amongS_con) (mkEnvM_ok (cons := []) (mcons := [(26, pickS_con)]) trivial ⟨pickS_ok, trivial⟩ []) Tryz.func46 rfl (by kernel_rfl) (by exact trivial) (fun x y h => (amongS_run x).trans h)

def fromS : List (Int) → Option ((List (Int) × Int × Int)) :=
fun x => some (x, (0 : Int), (0 : Int))
def fromS_con : Con := ⟨[.slice (.int .u8)], [.box 86 (.pair (.slice (.int .u8)) (.pair (i64) (u64)))], fromS⟩
theorem fromS_run (x : Dens [.slice (.int .u8)]) : runFn (mkEnv [] []) Tryz.f21 [.slice (.int .u8)] [.box 86 (.pair (.slice (.int .u8)) (.pair (i64) (u64)))] x = fromS x := by kernel_rfl
theorem fromS_ok : fromS_con.ok Tryz.prog 21 := fn_ok (con := fromS_con) (mkEnv_ok (cons := []) trivial []) Tryz.func21 rfl (by kernel_rfl) (by exact trivial) (fun x y h => (fromS_run x).trans h)

end Rx
end Go.Proofs.YthfgpnpoocepeaaGreat

namespace Go.Proofs.YthfgpnpoocepeaaGreat
namespace Rx
open Go

/-- The bytes. -/
def bytesOk (c : List Int) : Prop := ∀ b ∈ c, 0 ≤ b ∧ b ≤ 255
theorem bytes_wf {c : List Int} (h : WfAll [.slice (.int .u8)] c) : bytesOk c := by
  intro b hb
  have h1 : Wf (.slice (.int .u8)) c := h
  have h2 : (Lit.int .u8 b).wf = true := h1.2 b hb
  simpa [Lit.wf, IntKind.min, IntKind.max, IntKind.signed, IntKind.bits] using h2
theorem andI_255 (a : Int) : 0 ≤ andI .u64 a 255 ∧ andI .u64 a 255 ≤ 255 := by
  unfold andI
  have h : (BitVec.ofInt IntKind.u64.bits a &&& BitVec.ofInt IntKind.u64.bits 255).toNat ≤ 255 := by
    rw [BitVec.toNat_and]
    exact Nat.le_trans Nat.and_le_right (by decide)
  rw [wu64 (by omega) (by omega)]
  omega
theorem next_tot {c : List Int} (hc : bytesOk c) {a g K : Int} (ha : 0 ≤ a ∧ a ≤ K) (hK : K ≤ 1000000000) : ∃ y a' g', nextS (c, a, g) = some (y, c, a', g') ∧ (0 ≤ y ∧ y ≤ 255) ∧ 0 ≤ a' ∧ a' ≤ K + 1 := by
  unfold nextS
  dsimp only
  have e1 : IntKind.i64.wrap (a + 1) = a + 1 := w64 (by omega) (by omega)
  rw [e1]
  by_cases h : a < c.length
  · obtain ⟨y, hy, hy2⟩ := idx_get (l := c) ha.1 h
    have hb := hc y (List.mem_of_getElem? hy2)
    rw [br_t (by simpa using h), hy, ob_s]
    cases decide (a + 1 ≤ (c.length : Int)) with
    | true => exact ⟨_, _, _, rfl, by rw [w64 (by omega) (by omega)]; exact hb, by omega, by omega⟩
    | false =>
      refine ⟨_, _, _, rfl, ?_, by omega, by omega⟩
      have := andI_255 (shrI .u64 (IntKind.u64.wrap (IntKind.u64.wrap (IntKind.u64.wrap (g * 6364136223846793005) + IntKind.u64.wrap (IntKind.i64.wrap y)) + 1442695040888963407)) 40)
      rw [w64 (by omega) (by omega)]; exact this
  · rw [br_f (by simpa using h)]
    cases decide (a + 1 ≤ (c.length : Int)) with
    | true => exact ⟨_, _, _, rfl, by omega, by omega, by omega⟩
    | false =>
      refine ⟨_, _, _, rfl, ?_, by omega, by omega⟩
      have := andI_255 (shrI .u64 (IntKind.u64.wrap (IntKind.u64.wrap (IntKind.u64.wrap (g * 6364136223846793005) + IntKind.u64.wrap 0) + 1442695040888963407)) 40)
      rw [w64 (by omega) (by omega)]; exact this
theorem tmod_bd {x n : Int} (hx : 0 ≤ x) (hn : 0 < n) : 0 ≤ x.tmod n ∧ x.tmod n < n := ⟨Int.tmod_nonneg _ hx, Int.tmod_lt_of_pos _ hn⟩
theorem pick_tot {c : List Int} (hc : bytesOk c) {a g K : Int} (n : Int) (ha : 0 ≤ a ∧ a ≤ K) (hK : K ≤ 1000000) : ∃ y a' g', pickS ((c, a, g), n) = some (y, (c, a', g'), n) ∧ (0 ≤ y ∧ (y < n ∨ y = 0)) ∧ 0 ≤ a' ∧ a' ≤ K + 2 := by
  unfold pickS
  dsimp only
  by_cases h : n ≤ 1
  · rw [br_t (by simpa using h)]
    exact ⟨_, _, _, rfl, ⟨by omega, .inr rfl⟩, by omega, by omega⟩
  · obtain ⟨y1, a1, g1, e1, b1, c1⟩ := next_tot hc (g := g) ha (by omega)
    obtain ⟨y2, a2, g2, e2, b2, c2⟩ := next_tot hc (g := g1) (K := K + 1) c1 (by omega)
    rw [br_f (by simpa using h), e1, ob_s]
    dsimp only
    by_cases h2 : 200 < n
    · rw [br_t (by simpa using h2), e2, ob_s, br_f (by simp; omega)]
      rw [w64 (x := y1 * 256) (by omega) (by omega), w64 (by omega) (by omega)]
      have := tmod_bd (x := y1 * 256 + y2) (n := n) (by omega) (by omega)
      exact ⟨(y1 * 256 + y2).tmod n, a2, g2, rfl, ⟨this.1, .inl this.2⟩, by omega, by omega⟩
    · rw [br_f (by simpa using h2), br_f (by simp; omega)]
      have := tmod_bd (x := y1) (n := n) (by omega) (by omega)
      exact ⟨y1.tmod n, a1, g1, rfl, ⟨this.1, .inl this.2⟩, by omega, by omega⟩
theorem among_tot {c : List Int} (hc : bytesOk c) {a g K : Int} (l : List Int) (hl : l ≠ []) (hl2 : l.length ≤ 1000000) (ha : 0 ≤ a ∧ a ≤ K) (hK : K ≤ 1000000) : ∃ y a' g', amongS ((c, a, g), l) = some (y, (c, a', g'), l) ∧ y ∈ l ∧ 0 ≤ a' ∧ a' ≤ K + 2 := by
  obtain ⟨y, a', g', e, b, ca⟩ := pick_tot hc (g := g) (l.length : Int) ha hK
  have hp : 0 < l.length := by cases l with | nil => exact absurd rfl hl | cons _ _ => simp
  obtain ⟨z, hz, hz2⟩ := idx_get (l := l) (i := y) b.1 (by omega)
  refine ⟨z, a', g', ?_, List.mem_of_getElem? hz2, ca⟩
  unfold amongS
  dsimp only
  rw [e, ob_s]
  dsimp only
  rw [hz]; rfl
end Rx
end Go.Proofs.YthfgpnpoocepeaaGreat

namespace Go.Proofs.YthfgpnpoocepeaaGreat
namespace Rx
open Go

noncomputable section
def oneQ : (List (Int) × Int × Int) × Int → Option ((Bool) × ((List (Int) × Int × Int) × Int)) :=
fun x =>
  ob (pickS ((x.fst.1, x.fst.snd.1, x.fst.snd.2), x.2)) fun y =>
    some (y.1 == (0 : Int), (y.snd.fst.1, y.snd.fst.snd.1, y.snd.fst.snd.2), x.2)
def oneQ_con : MCon := ⟨[.box 86 (.pair (.slice (.int .u8)) (.pair (i64) (u64))), .v (.d (i64))], [.d (.bool)], oneQ⟩
theorem oneQ_run (x : ADens [.box 86 (.pair (.slice (.int .u8)) (.pair (i64) (u64))), .v (.d (i64))]) : runFnM (mkEnvM [] [(26, pickS_con)] []) Tryz.f47 [.box 86 (.pair (.slice (.int .u8)) (.pair (i64) (u64))), .v (.d (i64))] [.d (.bool)] x = oneQ x := by kernel_rfl
theorem oneQ_ok : oneQ_con.ok Tryz.prog 47 := fnM_ok (con := oneQ_con) (mkEnvM_ok (cons := []) (mcons := [(26, pickS_con)]) trivial ⟨pickS_ok, trivial⟩ []) Tryz.func47 rfl (by kernel_rfl) (by exact trivial) (fun x y h => (oneQ_run x).trans h)

def drawRatQ : (List (Int) × Int × Int) → Option (((Int × Int)) × ((List (Int) × Int × Int))) :=
fun x =>
  ob (pickS ((x.1, x.snd.1, x.snd.2), (100 : Int))) fun y =>
    ob (pickS ((y.snd.fst.1, y.snd.fst.snd.1, y.snd.fst.snd.2), (30 : Int))) fun y_1 =>
      ob (pickS ((y_1.snd.fst.1, y_1.snd.fst.snd.1, y_1.snd.fst.snd.2), (8 : Int))) fun y_2 =>
        br (y_2.1 == (0 : Int))
          (ob
            (amongS
              ((y_2.snd.fst.1, y_2.snd.fst.snd.1, y_2.snd.fst.snd.2),
                [(1000000000 : Int), (-1000000000 : Int), (999999937 : Int), (0 : Int), (1461 : Int),
                  (29530589 : Int)]))
            fun y =>
            ob (mkS (y.1, IntKind.i64.wrap ((1 : Int) + y_1.1))) fun y_3 =>
              some ((y_3.fst.1, y_3.fst.2), y.snd.fst.1, y.snd.fst.snd.1, y.snd.fst.snd.2))
          (br (y_2.1 == (1 : Int))
            (ob
              (amongS
                ((y_2.snd.fst.1, y_2.snd.fst.snd.1, y_2.snd.fst.snd.2),
                  [(1000000000 : Int), (999999937 : Int), (4 : Int), (1000000 : Int)]))
              fun y_3 =>
              ob (mkS (IntKind.i64.wrap (y.1 - (40 : Int)), y_3.1)) fun y =>
                some ((y.fst.1, y.fst.2), y_3.snd.fst.1, y_3.snd.fst.snd.1, y_3.snd.fst.snd.2))
            (ob (mkS (IntKind.i64.wrap (y.1 - (40 : Int)), IntKind.i64.wrap ((1 : Int) + y_1.1))) fun y =>
              some ((y.fst.1, y.fst.2), y_2.snd.fst.1, y_2.snd.fst.snd.1, y_2.snd.fst.snd.2)))
def drawRatQ_con : MCon := ⟨[.box 86 (.pair (.slice (.int .u8)) (.pair (i64) (u64)))], [.d (.pair (i64) (i64))], drawRatQ⟩
theorem drawRatQ_run (x : ADens [.box 86 (.pair (.slice (.int .u8)) (.pair (i64) (u64)))]) : runFnM (mkEnvM [(49, mkS_con)] [(26, pickS_con), (46, amongS_con)] []) Tryz.f82 [.box 86 (.pair (.slice (.int .u8)) (.pair (i64) (u64)))] [.d (.pair (i64) (i64))] x = drawRatQ x := by kernel_rfl
theorem drawRatQ_ok : drawRatQ_con.ok Tryz.prog 82 := fnM_ok (con := drawRatQ_con) (mkEnvM_ok (cons := [(49, mkS_con)]) (mcons := [(26, pickS_con), (46, amongS_con)]) ⟨mkS_ok, trivial⟩ ⟨pickS_ok, amongS_ok, trivial⟩ []) Tryz.func82 rfl (by kernel_rfl) (by exact trivial) (fun x y h => (drawRatQ_run x).trans h)

def bentRatQ : (List (Int) × Int × Int) → Option (((Int × Int)) × ((List (Int) × Int × Int))) :=
fun x =>
  ob (drawRatQ (x.1, x.snd.1, x.snd.2)) fun y =>
    ob (pickS ((y.snd.1, y.snd.snd.1, y.snd.snd.2), (24 : Int))) fun y_1 =>
      br (y_1.1 == (0 : Int))
        (ob
          (amongS ((y_1.snd.fst.1, y_1.snd.fst.snd.1, y_1.snd.fst.snd.2), [(0 : Int), (-1 : Int), (1000000001 : Int)]))
          fun y_2 => some ((y.fst.1, y_2.1), y_2.snd.fst.1, y_2.snd.fst.snd.1, y_2.snd.fst.snd.2))
        (br (y_1.1 == (1 : Int))
          (ob
            (amongS
              ((y_1.snd.fst.1, y_1.snd.fst.snd.1, y_1.snd.fst.snd.2),
                [(1000000001 : Int), (-1000000001 : Int), (-9223372036854775808 : Int)]))
            fun y_2 => some ((y_2.1, y.fst.2), y_2.snd.fst.1, y_2.snd.fst.snd.1, y_2.snd.fst.snd.2))
          (br (y_1.1 == (2 : Int)) (some (((2 : Int), (4 : Int)), y_1.snd.fst.1, y_1.snd.fst.snd.1, y_1.snd.fst.snd.2))
            (br (y_1.1 == (3 : Int))
              (ob (amongS ((y_1.snd.fst.1, y_1.snd.fst.snd.1, y_1.snd.fst.snd.2), [(1 : Int), (2 : Int)])) fun y =>
                some (((0 : Int), y.1), y.snd.fst.1, y.snd.fst.snd.1, y.snd.fst.snd.2))
              (some ((y.fst.1, y.fst.2), y_1.snd.fst.1, y_1.snd.fst.snd.1, y_1.snd.fst.snd.2)))))
def bentRatQ_con : MCon := ⟨[.box 86 (.pair (.slice (.int .u8)) (.pair (i64) (u64)))], [.d (.pair (i64) (i64))], bentRatQ⟩
theorem bentRatQ_run (x : ADens [.box 86 (.pair (.slice (.int .u8)) (.pair (i64) (u64)))]) : runFnM (mkEnvM [] [(82, drawRatQ_con), (26, pickS_con), (46, amongS_con)] []) Tryz.f48 [.box 86 (.pair (.slice (.int .u8)) (.pair (i64) (u64)))] [.d (.pair (i64) (i64))] x = bentRatQ x := by kernel_rfl
theorem bentRatQ_ok : bentRatQ_con.ok Tryz.prog 48 := fnM_ok (con := bentRatQ_con) (mkEnvM_ok (cons := []) (mcons := [(82, drawRatQ_con), (26, pickS_con), (46, amongS_con)]) trivial ⟨drawRatQ_ok, pickS_ok, amongS_ok, trivial⟩ []) Tryz.func48 rfl (by kernel_rfl) (by exact trivial) (fun x y h => (bentRatQ_run x).trans h)

def drawLimQ : (List (Int) × Int × Int) → Option (((Int × Int × Int × Int × Int)) × ((List (Int) × Int × Int))) :=
fun x =>
  ob (amongS ((x.1, x.snd.1, x.snd.2), [(30 : Int), (6 : Int), (48 : Int), (60 : Int), (90 : Int)])) fun y =>
    ob
      (amongS
        ((y.snd.fst.1, y.snd.fst.snd.1, y.snd.fst.snd.2), [(6 : Int), (8 : Int), (10 : Int), (12 : Int), (90 : Int)]))
      fun y_1 =>
      ob (pickS ((y_1.snd.fst.1, y_1.snd.fst.snd.1, y_1.snd.fst.snd.2), (8 : Int))) fun y_2 =>
        ob (pickS ((y_2.snd.fst.1, y_2.snd.fst.snd.1, y_2.snd.fst.snd.2), (6 : Int))) fun y_3 =>
          ob (pickS ((y_3.snd.fst.1, y_3.snd.fst.snd.1, y_3.snd.fst.snd.2), (3 : Int))) fun y_4 =>
            ob (oneQ ((y_4.snd.fst.1, y_4.snd.fst.snd.1, y_4.snd.fst.snd.2), (12 : Int))) fun y_5 =>
              br y_5.1
                (ob (pickS ((y_5.snd.fst.1, y_5.snd.fst.snd.1, y_5.snd.fst.snd.2), (2 : Int))) fun y_6 =>
                  some
                    ((y.1, IntKind.i64.wrap (y.1 + (30 : Int)), y_1.1, IntKind.i64.wrap (y_1.1 + y_3.1),
                        IntKind.i64.wrap ((1 : Int) + y_6.1)),
                      y_6.snd.fst.1, y_6.snd.fst.snd.1, y_6.snd.fst.snd.2))
                (some
                  ((y.1, IntKind.i64.wrap (y.1 + y_2.1), y_1.1, IntKind.i64.wrap (y_1.1 + y_3.1),
                      IntKind.i64.wrap ((1 : Int) + y_4.1)),
                    y_5.snd.fst.1, y_5.snd.fst.snd.1, y_5.snd.fst.snd.2))
def drawLimQ_con : MCon := ⟨[.box 86 (.pair (.slice (.int .u8)) (.pair (i64) (u64)))], [.d (.pair (i64) (.pair (i64) (.pair (i64) (.pair (i64) (i64)))))], drawLimQ⟩
theorem drawLimQ_run (x : ADens [.box 86 (.pair (.slice (.int .u8)) (.pair (i64) (u64)))]) : runFnM (mkEnvM [] [(46, amongS_con), (26, pickS_con), (47, oneQ_con)] []) Tryz.f22 [.box 86 (.pair (.slice (.int .u8)) (.pair (i64) (u64)))] [.d (.pair (i64) (.pair (i64) (.pair (i64) (.pair (i64) (i64)))))] x = drawLimQ x := by kernel_rfl
theorem drawLimQ_ok : drawLimQ_con.ok Tryz.prog 22 := fnM_ok (con := drawLimQ_con) (mkEnvM_ok (cons := []) (mcons := [(46, amongS_con), (26, pickS_con), (47, oneQ_con)]) trivial ⟨amongS_ok, pickS_ok, oneQ_ok, trivial⟩ []) Tryz.func22 rfl (by kernel_rfl) (by exact trivial) (fun x y h => (drawLimQ_run x).trans h)

def askedQL_vars : Vars := [(0, .box 2 86 (.pair (.slice (.int .u8)) (.pair (i64) (u64)))), (1, .box 4 25 (.pair (i64) (.pair (i64) (.pair (i64) (.pair (i64) (i64)))))), (4, .box 0 27 (.pair (i64) (i64))), (8, .val (i64)), (9, .val (i64)), (10, .val (i64))]
def askedQL_step : (List (Int) × Int × Int) × (Int × Int × Int × Int × Int) × (Int × Int) × Int × Int × Int → Option (LRes × ((List (Int) × Int × Int) × (Int × Int × Int × Int × Int) × (Int × Int) × Int × Int × Int)) :=
fun x =>
  br (decide (x.snd.snd.snd.snd.2 < x.snd.fst.snd.snd.snd.2))
    (br (decide (x.snd.snd.snd.snd.2 < (3 : Int)))
      (ob (pickS ((x.fst.1, x.fst.snd.1, x.fst.snd.2), (4 : Int))) fun y =>
        ob (pickS ((y.snd.fst.1, y.snd.fst.snd.1, y.snd.fst.snd.2), (4 : Int))) fun y_1 =>
          some
            (LRes.next, (y_1.snd.fst.1, y_1.snd.fst.snd.1, y_1.snd.fst.snd.2),
              (x.snd.fst.1, x.snd.fst.snd.1, x.snd.fst.snd.snd.1, x.snd.fst.snd.snd.snd.1, x.snd.fst.snd.snd.snd.2),
              (x.snd.snd.fst.1, x.snd.snd.fst.2),
              IntKind.i64.wrap (x.snd.snd.snd.1 * IntKind.i64.wrap (x.snd.fst.1 + y.1)),
              IntKind.i64.wrap (x.snd.snd.snd.snd.1 * IntKind.i64.wrap (x.snd.fst.snd.snd.1 + y_1.1)),
              IntKind.i64.wrap (x.snd.snd.snd.snd.2 + (1 : Int))))
      (some
        (LRes.out, (x.fst.1, x.fst.snd.1, x.fst.snd.2),
          (x.snd.fst.1, x.snd.fst.snd.1, x.snd.fst.snd.snd.1, x.snd.fst.snd.snd.snd.1, x.snd.fst.snd.snd.snd.2),
          (x.snd.snd.fst.1, x.snd.snd.fst.2), x.snd.snd.snd.1, x.snd.snd.snd.snd.1, x.snd.snd.snd.snd.2)))
    (some
      (LRes.out, (x.fst.1, x.fst.snd.1, x.fst.snd.2),
        (x.snd.fst.1, x.snd.fst.snd.1, x.snd.fst.snd.snd.1, x.snd.fst.snd.snd.snd.1, x.snd.fst.snd.snd.snd.2),
        (x.snd.snd.fst.1, x.snd.snd.fst.2), x.snd.snd.snd.1, x.snd.snd.snd.snd.1, x.snd.snd.snd.snd.2))
def askedQL_fuel : (List (Int) × Int × Int) × (Int × Int × Int × Int × Int) × (Int × Int) × Int × Int × Int → Nat := fun s => (s.2.1.2.2.2.2 - s.2.2.2.2.2).toNat + 1
def askedQL : (List (Int) × Int × Int) × (Int × Int × Int × Int × Int) × (Int × Int) × Int × Int × Int → Option ((List (Int) × Int × Int) × (Int × Int × Int × Int × Int) × (Int × Int) × Int × Int × Int) := fun s => iterP askedQL_step (askedQL_fuel s) s
def askedQL_L : LoopC := ⟨askedQL_vars, 0, .plain askedQL⟩
noncomputable def askedQL_key : Nat := key (loopAt Tryz.f23 0)
theorem askedQL_stepok (x : askedQL_vars.den) : stepOf (mkEnvM [] [(26, pickS_con)] []) Tryz.f23.ntmps askedQL_vars 0 (loopAt Tryz.f23 0) x = askedQL_step x := by kernel_rfl
theorem askedQL_ok : LoopOK Tryz.prog Tryz.f23.ntmps askedQL_L (loopAt Tryz.f23 0)   := iterP_loop (n := Tryz.f23.ntmps) (vs := askedQL_vars) (out := 0) (body := loopAt Tryz.f23 0) (mkEnvM_ok (cons := []) (mcons := [(26, pickS_con)]) trivial ⟨pickS_ok, trivial⟩ []) askedQL_step askedQL_fuel (by exact trivial) askedQL_stepok

def askedQ : (List (Int) × Int × Int) × (Int × Int × Int × Int × Int) → Option (((Int × Int)) × ((List (Int) × Int × Int) × (Int × Int × Int × Int × Int))) :=
fun x =>
  ob (oneQ ((x.fst.1, x.fst.snd.1, x.fst.snd.2), (10 : Int))) fun y =>
    br y.1
      (ob (bentRatQ (y.snd.fst.1, y.snd.fst.snd.1, y.snd.fst.snd.2)) fun y =>
        some
          ((y.fst.1, y.fst.2), (y.snd.1, y.snd.snd.1, y.snd.snd.2), x.snd.1, x.snd.snd.1, x.snd.snd.snd.1,
            x.snd.snd.snd.snd.1, x.snd.snd.snd.snd.2))
      (ob (oneQ ((y.snd.fst.1, y.snd.fst.snd.1, y.snd.fst.snd.2), (8 : Int))) fun y =>
        br y.1
          (ob
            (amongS
              ((y.snd.fst.1, y.snd.fst.snd.1, y.snd.fst.snd.2),
                [(1000000 : Int), (1000001 : Int), (29530589 : Int), (365 : Int)]))
            fun y =>
            ob (amongS ((y.snd.fst.1, y.snd.fst.snd.1, y.snd.fst.snd.2), [(1000000 : Int), (7 : Int), (1000001 : Int)]))
              fun y_1 =>
              ob (mkS (y.1, y_1.1)) fun y =>
                some
                  ((y.fst.1, y.fst.2), (y_1.snd.fst.1, y_1.snd.fst.snd.1, y_1.snd.fst.snd.2), x.snd.1, x.snd.snd.1,
                    x.snd.snd.snd.1, x.snd.snd.snd.snd.1, x.snd.snd.snd.snd.2))
          (ob
            (askedQL
              ((y.snd.fst.1, y.snd.fst.snd.1, y.snd.fst.snd.2),
                (x.snd.1, x.snd.snd.1, x.snd.snd.snd.1, x.snd.snd.snd.snd.1, x.snd.snd.snd.snd.2),
                ((0 : Int), (0 : Int)), (1 : Int), (1 : Int), (0 : Int)))
            fun r =>
            br (decide (r.snd.snd.snd.snd.1 ≤ (0 : Int)))
              (ob (wholeS (6 : Int)) fun y =>
                some
                  ((y.1, y.2), (r.fst.1, r.fst.snd.1, r.fst.snd.2), r.snd.fst.1, r.snd.fst.snd.1, r.snd.fst.snd.snd.1,
                    r.snd.fst.snd.snd.snd.1, r.snd.fst.snd.snd.snd.2))
              (br (decide (r.snd.snd.snd.1 ≤ (0 : Int)))
                (ob (wholeS (6 : Int)) fun y =>
                  some
                    ((y.1, y.2), (r.fst.1, r.fst.snd.1, r.fst.snd.2), r.snd.fst.1, r.snd.fst.snd.1, r.snd.fst.snd.snd.1,
                      r.snd.fst.snd.snd.snd.1, r.snd.fst.snd.snd.snd.2))
                (ob (mkS (r.snd.snd.snd.1, r.snd.snd.snd.snd.1)) fun y =>
                  ob (oneQ ((r.fst.1, r.fst.snd.1, r.fst.snd.2), (4 : Int))) fun y_1 =>
                    br y_1.1
                      (ob (mkS (IntKind.i64.wrap (y.fst.1 + (1 : Int)), y.fst.2)) fun y =>
                        some
                          ((y.fst.1, y.fst.2), (y_1.snd.fst.1, y_1.snd.fst.snd.1, y_1.snd.fst.snd.2), r.snd.fst.1,
                            r.snd.fst.snd.1, r.snd.fst.snd.snd.1, r.snd.fst.snd.snd.snd.1, r.snd.fst.snd.snd.snd.2))
                      (some
                        ((y.fst.1, y.fst.2), (y_1.snd.fst.1, y_1.snd.fst.snd.1, y_1.snd.fst.snd.2), r.snd.fst.1,
                          r.snd.fst.snd.1, r.snd.fst.snd.snd.1, r.snd.fst.snd.snd.snd.1, r.snd.fst.snd.snd.snd.2))))))
def askedQ_con : MCon := ⟨[.box 86 (.pair (.slice (.int .u8)) (.pair (i64) (u64))), .box 25 (.pair (i64) (.pair (i64) (.pair (i64) (.pair (i64) (i64)))))], [.d (.pair (i64) (i64))], askedQ⟩
theorem askedQ_run (x : ADens [.box 86 (.pair (.slice (.int .u8)) (.pair (i64) (u64))), .box 25 (.pair (i64) (.pair (i64) (.pair (i64) (.pair (i64) (i64)))))]) : runFnM (mkEnvM [(49, mkS_con), (50, wholeS_con)] [(47, oneQ_con), (48, bentRatQ_con), (46, amongS_con), (26, pickS_con)] [(askedQL_key, askedQL_L)]) Tryz.f23 [.box 86 (.pair (.slice (.int .u8)) (.pair (i64) (u64))), .box 25 (.pair (i64) (.pair (i64) (.pair (i64) (.pair (i64) (i64)))))] [.d (.pair (i64) (i64))] x = askedQ x := by kernel_rfl
theorem askedQ_ok : askedQ_con.ok Tryz.prog 23 := fnM_ok (con := askedQ_con) (mkEnvM_ok (cons := [(49, mkS_con), (50, wholeS_con)]) (mcons := [(47, oneQ_con), (48, bentRatQ_con), (46, amongS_con), (26, pickS_con)]) ⟨mkS_ok, wholeS_ok, trivial⟩ ⟨oneQ_ok, bentRatQ_ok, amongS_ok, pickS_ok, trivial⟩ [(askedQL_key, askedQL_L)]) Tryz.func23 rfl (by kernel_rfl) (by exact ⟨askedQL_ok, trivial⟩) (fun x y h => (askedQ_run x).trans h)

def a2SeL_vars : Vars := [(2, .box 0 25 (.pair (i64) (.pair (i64) (.pair (i64) (.pair (i64) (i64)))))), (3, .box 0 27 (.pair (i64) (i64))), (5, .box 0 86 (.pair (.slice (.int .u8)) (.pair (i64) (u64)))), (6, .box 0 25 (.pair (i64) (.pair (i64) (.pair (i64) (.pair (i64) (i64)))))), (7, .box 0 27 (.pair (i64) (i64))), (8, .row 0 64 (.pair (i64) (i64))), (9, .val (i64))]
def a2SeL_step : (Int × Int × Int × Int × Int) × (Int × Int) × (List (Int) × Int × Int) × (Int × Int × Int × Int × Int) × (Int × Int) × List ((Int × Int)) × Int → Option (LRes × ((Int × Int × Int × Int × Int) × (Int × Int) × (List (Int) × Int × Int) × (Int × Int × Int × Int × Int) × (Int × Int) × List ((Int × Int)) × Int)) :=
fun x =>
  br (decide (x.snd.snd.snd.snd.snd.2 < x.snd.snd.snd.fst.snd.snd.snd.2))
    (ob
      (pickS
        ((x.snd.snd.fst.1, x.snd.snd.fst.snd.1, x.snd.snd.fst.snd.2),
          IntKind.i64.wrap (IntKind.i64.wrap (x.snd.snd.snd.fst.snd.1 - x.snd.snd.snd.fst.1) + (1 : Int))))
      fun y =>
      ob
        (pickS
          ((y.snd.fst.1, y.snd.fst.snd.1, y.snd.fst.snd.2),
            IntKind.i64.wrap
              (IntKind.i64.wrap (x.snd.snd.snd.fst.snd.snd.snd.1 - x.snd.snd.snd.fst.snd.snd.1) + (1 : Int))))
        fun y_1 =>
        br
          (decide
            (List.length x.snd.snd.snd.snd.snd.1 +
                [(IntKind.i64.wrap (x.snd.snd.snd.fst.1 + y.1),
                      IntKind.i64.wrap (x.snd.snd.snd.fst.snd.snd.1 + y_1.1))].length ≤
              (4294967296 : Nat)))
          (some
            (LRes.next, (x.fst.1, x.fst.snd.1, x.fst.snd.snd.1, x.fst.snd.snd.snd.1, x.fst.snd.snd.snd.2),
              (x.snd.fst.1, x.snd.fst.2), (y_1.snd.fst.1, y_1.snd.fst.snd.1, y_1.snd.fst.snd.2),
              (x.snd.snd.snd.fst.1, x.snd.snd.snd.fst.snd.1, x.snd.snd.snd.fst.snd.snd.1,
                x.snd.snd.snd.fst.snd.snd.snd.1, x.snd.snd.snd.fst.snd.snd.snd.2),
              (x.snd.snd.snd.snd.fst.1, x.snd.snd.snd.snd.fst.2),
              x.snd.snd.snd.snd.snd.1 ++
                [(IntKind.i64.wrap (x.snd.snd.snd.fst.1 + y.1),
                    IntKind.i64.wrap (x.snd.snd.snd.fst.snd.snd.1 + y_1.1))],
              IntKind.i64.wrap (x.snd.snd.snd.snd.snd.2 + (1 : Int))))
          none)
    (some
      (LRes.out, (x.fst.1, x.fst.snd.1, x.fst.snd.snd.1, x.fst.snd.snd.snd.1, x.fst.snd.snd.snd.2),
        (x.snd.fst.1, x.snd.fst.2), (x.snd.snd.fst.1, x.snd.snd.fst.snd.1, x.snd.snd.fst.snd.2),
        (x.snd.snd.snd.fst.1, x.snd.snd.snd.fst.snd.1, x.snd.snd.snd.fst.snd.snd.1, x.snd.snd.snd.fst.snd.snd.snd.1,
          x.snd.snd.snd.fst.snd.snd.snd.2),
        (x.snd.snd.snd.snd.fst.1, x.snd.snd.snd.snd.fst.2), x.snd.snd.snd.snd.snd.1, x.snd.snd.snd.snd.snd.2))
def a2SeL_fuel : (Int × Int × Int × Int × Int) × (Int × Int) × (List (Int) × Int × Int) × (Int × Int × Int × Int × Int) × (Int × Int) × List ((Int × Int)) × Int → Nat := fun s => (s.2.2.2.1.2.2.2.2 - s.2.2.2.2.2.2).toNat + 1
def a2SeL : (Int × Int × Int × Int × Int) × (Int × Int) × (List (Int) × Int × Int) × (Int × Int × Int × Int × Int) × (Int × Int) × List ((Int × Int)) × Int → Option ((Int × Int × Int × Int × Int) × (Int × Int) × (List (Int) × Int × Int) × (Int × Int × Int × Int × Int) × (Int × Int) × List ((Int × Int)) × Int) := fun s => iterP a2SeL_step (a2SeL_fuel s) s
def a2SeL_L : LoopC := ⟨a2SeL_vars, 0, .plain a2SeL⟩
noncomputable def a2SeL_key : Nat := key (loopAt Tryz.f6 0)
theorem a2SeL_stepok (x : a2SeL_vars.den) : stepOf (mkEnvM [] [(26, pickS_con)] []) Tryz.f6.ntmps a2SeL_vars 0 (loopAt Tryz.f6 0) x = a2SeL_step x := by kernel_rfl
theorem a2SeL_ok : LoopOK Tryz.prog Tryz.f6.ntmps a2SeL_L (loopAt Tryz.f6 0)   := iterP_loop (n := Tryz.f6.ntmps) (vs := a2SeL_vars) (out := 0) (body := loopAt Tryz.f6 0) (mkEnvM_ok (cons := []) (mcons := [(26, pickS_con)]) trivial ⟨pickS_ok, trivial⟩ []) a2SeL_step a2SeL_fuel (by exact trivial) a2SeL_stepok

def a2SeQ : List (Int) → Option ((Int × Int × Int × Int × Int) × (Int × Int) × List ((Int × Int))) :=
fun x =>
  ob (fromS x) fun y =>
    ob (drawLimQ (y.1, y.snd.1, y.snd.2)) fun y =>
      ob
        (askedQ
          ((y.snd.1, y.snd.snd.1, y.snd.snd.2), y.fst.1, y.fst.snd.1, y.fst.snd.snd.1, y.fst.snd.snd.snd.1,
            y.fst.snd.snd.snd.2))
        fun y =>
        ob (okRatS (y.fst.1, y.fst.2)) fun y_1 =>
          br (!y_1)
            (ob
              (a2SeL
                (((0 : Int), (0 : Int), (0 : Int), (0 : Int), (0 : Int)), ((0 : Int), (0 : Int)),
                  (y.snd.fst.1, y.snd.fst.snd.1, y.snd.fst.snd.2),
                  (y.snd.snd.1, y.snd.snd.snd.1, y.snd.snd.snd.snd.1, y.snd.snd.snd.snd.snd.1, y.snd.snd.snd.snd.snd.2),
                  ((15 : Int), (2 : Int)), [], (0 : Int)))
              fun r =>
              some
                ((r.snd.snd.snd.fst.1, r.snd.snd.snd.fst.snd.1, r.snd.snd.snd.fst.snd.snd.1,
                    r.snd.snd.snd.fst.snd.snd.snd.1, r.snd.snd.snd.fst.snd.snd.snd.2),
                  (r.snd.snd.snd.snd.fst.1, r.snd.snd.snd.snd.fst.2), r.snd.snd.snd.snd.snd.1))
            (ob (askS (y.fst.1, y.fst.2)) fun y_2 =>
              br (!y_2)
                (ob
                  (a2SeL
                    (((0 : Int), (0 : Int), (0 : Int), (0 : Int), (0 : Int)), ((0 : Int), (0 : Int)),
                      (y.snd.fst.1, y.snd.fst.snd.1, y.snd.fst.snd.2),
                      (y.snd.snd.1, y.snd.snd.snd.1, y.snd.snd.snd.snd.1, y.snd.snd.snd.snd.snd.1,
                        y.snd.snd.snd.snd.snd.2),
                      ((15 : Int), (2 : Int)), [], (0 : Int)))
                  fun r =>
                  some
                    ((r.snd.snd.snd.fst.1, r.snd.snd.snd.fst.snd.1, r.snd.snd.snd.fst.snd.snd.1,
                        r.snd.snd.snd.fst.snd.snd.snd.1, r.snd.snd.snd.fst.snd.snd.snd.2),
                      (r.snd.snd.snd.snd.fst.1, r.snd.snd.snd.snd.fst.2), r.snd.snd.snd.snd.snd.1))
                (ob
                  (a2SeL
                    (((0 : Int), (0 : Int), (0 : Int), (0 : Int), (0 : Int)), ((0 : Int), (0 : Int)),
                      (y.snd.fst.1, y.snd.fst.snd.1, y.snd.fst.snd.2),
                      (y.snd.snd.1, y.snd.snd.snd.1, y.snd.snd.snd.snd.1, y.snd.snd.snd.snd.snd.1,
                        y.snd.snd.snd.snd.snd.2),
                      (y.fst.1, y.fst.2), [], (0 : Int)))
                  fun r =>
                  some
                    ((r.snd.snd.snd.fst.1, r.snd.snd.snd.fst.snd.1, r.snd.snd.snd.fst.snd.snd.1,
                        r.snd.snd.snd.fst.snd.snd.snd.1, r.snd.snd.snd.fst.snd.snd.snd.2),
                      (r.snd.snd.snd.snd.fst.1, r.snd.snd.snd.snd.fst.2), r.snd.snd.snd.snd.snd.1)))
def a2SeQ_con : Con := ⟨[.slice (.int .u8)], [.d (.pair (i64) (.pair (i64) (.pair (i64) (.pair (i64) (i64))))), .d (.pair (i64) (i64)), .row 64 (.pair (i64) (i64))], a2SeQ⟩
theorem a2SeQ_run (x : Dens [.slice (.int .u8)]) : runFn (mkEnvM [(21, fromS_con), (24, okRatS_con), (25, askS_con)] [(22, drawLimQ_con), (23, askedQ_con), (26, pickS_con)] [(a2SeL_key, a2SeL_L)]) Tryz.f6 [.slice (.int .u8)] [.d (.pair (i64) (.pair (i64) (.pair (i64) (.pair (i64) (i64))))), .d (.pair (i64) (i64)), .row 64 (.pair (i64) (i64))] x = a2SeQ x := by kernel_rfl
theorem a2SeQ_ok : a2SeQ_con.ok Tryz.prog 6 := fn_ok (con := a2SeQ_con) (mkEnvM_ok (cons := [(21, fromS_con), (24, okRatS_con), (25, askS_con)]) (mcons := [(22, drawLimQ_con), (23, askedQ_con), (26, pickS_con)]) ⟨fromS_ok, okRatS_ok, askS_ok, trivial⟩ ⟨drawLimQ_ok, askedQ_ok, pickS_ok, trivial⟩ [(a2SeL_key, a2SeL_L)]) Tryz.func6 rfl (by kernel_rfl) (by exact ⟨a2SeL_ok, trivial⟩) (fun x y h => (a2SeQ_run x).trans h)

def a2LongQ : List (Int) × List (Int) → Option (Bool) :=
fun x =>
  br (decide ((3000 : Int) < (↑x.1.length : Int))) (some true) (some (decide ((3000 : Int) < (↑x.2.length : Int))))
def a2LongQ_con : Con := ⟨[.slice (.int .u8), .slice (.int .u8)], [.d (.bool)], a2LongQ⟩
theorem a2LongQ_run (x : Dens [.slice (.int .u8), .slice (.int .u8)]) : runFn (mkEnv [] []) Tryz.f5 [.slice (.int .u8), .slice (.int .u8)] [.d (.bool)] x = a2LongQ x := by kernel_rfl
theorem a2LongQ_ok : a2LongQ_con.ok Tryz.prog 5 := fn_ok (con := a2LongQ_con) (mkEnv_ok (cons := []) trivial []) Tryz.func5 rfl (by kernel_rfl) (by exact trivial) (fun x y h => (a2LongQ_run x).trans h)

def canonTL_vars : Vars := [(0, .val (.slice (.pair (i64) (i64)))), (4, .row 0 2 (i64)), (5, .row 0 2 (i64)), (6, .val (i64))]
def canonTL_step : List ((Int × Int)) × List (Int) × List (Int) × Int → Option (LRes × (List ((Int × Int)) × List (Int) × List (Int) × Int)) :=
fun x =>
  br (decide (x.snd.snd.2 < (↑x.1.length : Int)))
    (ob (idx x.1 x.snd.snd.2) fun y =>
      br (decide (List.length x.snd.1 + [y.1].length ≤ (4294967296 : Nat)))
        (ob (idx x.1 x.snd.snd.2) fun y_1 =>
          br (decide (List.length x.snd.snd.1 + [y_1.2].length ≤ (4294967296 : Nat)))
            (some
              (LRes.next, x.1, x.snd.1 ++ [y.1], x.snd.snd.1 ++ [y_1.2], IntKind.i64.wrap (x.snd.snd.2 + (1 : Int))))
            none)
        none)
    (some (LRes.out, x.1, x.snd.1, x.snd.snd.1, x.snd.snd.2))
def canonTL_fuel : List ((Int × Int)) × List (Int) × List (Int) × Int → Nat := fun s => (s.1.length - s.2.2.2.toNat) + 1
def canonTL : List ((Int × Int)) × List (Int) × List (Int) × Int → Option (List ((Int × Int)) × List (Int) × List (Int) × Int) := fun s => iterP canonTL_step (canonTL_fuel s) s
def canonTL_L : LoopC := ⟨canonTL_vars, 0, .plain canonTL⟩
noncomputable def canonTL_key : Nat := key (loopAt Tryz.f9 0)
theorem canonTL_stepok (x : canonTL_vars.den) : stepOf (mkEnv [] []) Tryz.f9.ntmps canonTL_vars 0 (loopAt Tryz.f9 0) x = canonTL_step x := by kernel_rfl
theorem canonTL_ok : LoopOK Tryz.prog Tryz.f9.ntmps canonTL_L (loopAt Tryz.f9 0)   := iterP_loop (n := Tryz.f9.ntmps) (vs := canonTL_vars) (out := 0) (body := loopAt Tryz.f9 0) (mkEnv_ok (cons := []) trivial []) canonTL_step canonTL_fuel (by exact trivial) canonTL_stepok

def canonTS : List ((Int × Int)) → Option (List ((Int × Int)) × Int) :=
fun x =>
  ob (okTrainS x) fun y =>
    br (!y) (some ([], (1 : Int)))
      (ob (canonTL (x, [], [], (0 : Int))) fun r => ob (canonS6 (r.snd.1, r.snd.snd.1)) fun y => some (y, (0 : Int)))
def canonTS_con : Con := ⟨[.slice (.pair (i64) (i64))], [.row 64 (.pair (i64) (i64)), .d (i64)], canonTS⟩
theorem canonTS_run (x : Dens [.slice (.pair (i64) (i64))]) : runFn (mkEnv [(32, okTrainS_con), (35, canonS6_con)] [(canonTL_key, canonTL_L)]) Tryz.f9 [.slice (.pair (i64) (i64))] [.row 64 (.pair (i64) (i64)), .d (i64)] x = canonTS x := by kernel_rfl
theorem canonTS_ok : canonTS_con.ok Tryz.prog 9 := fn_ok (con := canonTS_con) (mkEnv_ok (cons := [(32, okTrainS_con), (35, canonS6_con)]) ⟨okTrainS_ok, canonS6_ok, trivial⟩ [(canonTL_key, canonTL_L)]) Tryz.func9 rfl (by kernel_rfl) (by exact ⟨canonTL_ok, trivial⟩) (fun x y h => (canonTS_run x).trans h)



end
end Rx
end Go.Proofs.YthfgpnpoocepeaaGreat

namespace Go.Proofs.YthfgpnpoocepeaaGreat
namespace Rx
open Go

noncomputable section
theorem mkS_small {n d : Int} (hn : -1000000000 ≤ n ∧ n ≤ 1000000000) (hd : 1 ≤ d ∧ d ≤ 1000000000) : ∃ p, mkS (n, d) = some (p, true) ∧ vR p = true ∧ (1 ≤ n → p.1 ≤ n) := by
  obtain ⟨p, hp⟩ := mkR_some hn hd
  refine ⟨p, ?_, mkR_valid (by omega) hp, fun h1 => ?_⟩
  · rw [mkS_eq ⟨by omega, by omega⟩ ⟨by omega, by omega⟩ (by omega)]
    unfold redF
    rw [hp]
  · obtain ⟨g, g1, e1, _⟩ := mkR_parts (by omega) hp
    by_cases hneg : p.1 ≤ 0
    · omega
    · have := Int.mul_le_mul_of_nonneg_right g1 (show 0 ≤ p.1 by omega)
      omega
theorem drawRatQ_tot {c : List Int} (hc : bytesOk c) {a g K : Int} (ha : 0 ≤ a ∧ a ≤ K) (hK : K ≤ 100000) : ∃ (r : Int × Int) (a' g' : Int), drawRatQ (c, a, g) = some (r, c, a', g') ∧ (0 ≤ a' ∧ a' ≤ K + 8) := by
  obtain ⟨y1, a1, g1, e1, b1, c1⟩ := pick_tot hc (g := g) 100 ha (by omega)
  obtain ⟨y2, a2, g2, e2, b2, c2⟩ := pick_tot hc (g := g1) 30 c1 (by omega)
  obtain ⟨y3, a3, g3, e3, b3, c3⟩ := pick_tot hc (g := g2) 8 c2 (by omega)
  have w1 : IntKind.i64.wrap (y1 - 40) = y1 - 40 := w64 (by omega) (by omega)
  have w2 : IntKind.i64.wrap (1 + y2) = 1 + y2 := w64 (by omega) (by omega)
  unfold drawRatQ
  simp only [e1, e2, e3, ob_s, w1, w2]
  cases y3 == (0 : Int) with
  | true =>
    obtain ⟨y4, a4, g4, e4, b4, c4⟩ := among_tot hc (g := g3) [(1000000000 : Int), (-1000000000 : Int), (999999937 : Int), (0 : Int), (1461 : Int), (29530589 : Int)] (by simp) (by simp) c3 (by omega)
    have h4 : -1000000000 ≤ y4 ∧ y4 ≤ 1000000000 := by simp at b4; omega
    obtain ⟨p, hp, _, _⟩ := mkS_small (n := y4) (d := 1 + y2) h4 ⟨by omega, by omega⟩
    simp only [br, e4, ob_s, hp]
    exact ⟨_, _, _, rfl, by omega⟩
  | false =>
  cases y3 == (1 : Int) with
  | true =>
    obtain ⟨y4, a4, g4, e4, b4, c4⟩ := among_tot hc (g := g3) [(1000000000 : Int), (999999937 : Int), (4 : Int), (1000000 : Int)] (by simp) (by simp) c3 (by omega)
    have h4 : 1 ≤ y4 ∧ y4 ≤ 1000000000 := by simp at b4; omega
    obtain ⟨p, hp, _, _⟩ := mkS_small (n := y1 - 40) (d := y4) ⟨by omega, by omega⟩ h4
    simp only [br, e4, ob_s, hp]
    exact ⟨_, _, _, rfl, by omega⟩
  | false =>
    obtain ⟨p, hp, _, _⟩ := mkS_small (n := y1 - 40) (d := 1 + y2) ⟨by omega, by omega⟩ ⟨by omega, by omega⟩
    simp only [br, ob_s, hp]
    exact ⟨_, _, _, rfl, by omega⟩
theorem bentRatQ_tot {c : List Int} (hc : bytesOk c) {a g K : Int} (ha : 0 ≤ a ∧ a ≤ K) (hK : K ≤ 100000) : ∃ (r : Int × Int) (a' g' : Int), bentRatQ (c, a, g) = some (r, c, a', g') ∧ (0 ≤ a' ∧ a' ≤ K + 12) := by
  obtain ⟨r, a1, g1, e1, c1⟩ := drawRatQ_tot hc (g := g) ha hK
  obtain ⟨y2, a2, g2, e2, b2, c2⟩ := pick_tot hc (g := g1) 24 c1 (by omega)
  unfold bentRatQ
  simp only [e1, e2, ob_s]
  cases y2 == (0 : Int) with
  | true =>
    obtain ⟨y4, a4, g4, e4, b4, c4⟩ := among_tot hc (g := g2) [(0 : Int), (-1 : Int), (1000000001 : Int)] (by simp) (by simp) c2 (by omega)
    simp only [br, e4, ob_s]
    exact ⟨_, _, _, rfl, by omega⟩
  | false =>
  cases y2 == (1 : Int) with
  | true =>
    obtain ⟨y4, a4, g4, e4, b4, c4⟩ := among_tot hc (g := g2) [(1000000001 : Int), (-1000000001 : Int), (-9223372036854775808 : Int)] (by simp) (by simp) c2 (by omega)
    simp only [br, e4, ob_s]
    exact ⟨_, _, _, rfl, by omega⟩
  | false =>
  cases y2 == (2 : Int) with
  | true =>
    simp only [br]
    exact ⟨_, _, _, rfl, by omega⟩
  | false =>
  cases y2 == (3 : Int) with
  | true =>
    obtain ⟨y4, a4, g4, e4, b4, c4⟩ := among_tot hc (g := g2) [(1 : Int), (2 : Int)] (by simp) (by simp) c2 (by omega)
    simp only [br, e4, ob_s]
    exact ⟨_, _, _, rfl, by omega⟩
  | false =>
    simp only [br]
    exact ⟨_, _, _, rfl, by omega⟩
theorem oneQ_tot {c : List Int} (hc : bytesOk c) {a g K : Int} (n : Int) (ha : 0 ≤ a ∧ a ≤ K) (hK : K ≤ 1000000) : ∃ (b : Bool) (a' g' : Int), oneQ ((c, a, g), n) = some (b, (c, a', g'), n) ∧ (0 ≤ a' ∧ a' ≤ K + 2) := by
  obtain ⟨y, a', g', e, b, c'⟩ := pick_tot hc (g := g) n ha hK
  refine ⟨y == 0, a', g', ?_, c'⟩
  unfold oneQ
  simp only [e, ob_s]
theorem drawLimQ_tot {c : List Int} (hc : bytesOk c) : ∃ (x : Int × Int × Int × Int × Int) (a' g' : Int), drawLimQ (c, 0, 0) = some (x, c, a', g') ∧ (0 ≤ a' ∧ a' ≤ 14) ∧ LimOk x := by
  obtain ⟨y0, a0, g0, e0, b0, c0⟩ := among_tot hc (a := 0) (g := 0) (K := 0) [(30 : Int), (6 : Int), (48 : Int), (60 : Int), (90 : Int)] (by simp) (by simp) (by omega) (by omega)
  obtain ⟨y1, a1, g1, e1, b1, c1⟩ := among_tot hc (g := g0) [(6 : Int), (8 : Int), (10 : Int), (12 : Int), (90 : Int)] (by simp) (by simp) c0 (by omega)
  obtain ⟨y2, a2, g2, e2, b2, c2⟩ := pick_tot hc (g := g1) 8 c1 (by omega)
  obtain ⟨y3, a3, g3, e3, b3, c3⟩ := pick_tot hc (g := g2) 6 c2 (by omega)
  obtain ⟨y4, a4, g4, e4, b4, c4⟩ := pick_tot hc (g := g3) 3 c3 (by omega)
  obtain ⟨y5, a5, g5, e5, c5⟩ := oneQ_tot hc (g := g4) 12 c4 (by omega)
  have h0 : y0 = 30 ∨ y0 = 6 ∨ y0 = 48 ∨ y0 = 60 ∨ y0 = 90 := by simpa using b0
  have h1 : y1 = 6 ∨ y1 = 8 ∨ y1 = 10 ∨ y1 = 12 ∨ y1 = 90 := by simpa using b1
  unfold drawLimQ
  simp only [e0, e1, e2, e3, e4, e5, ob_s]
  cases y5 with
  | true =>
    obtain ⟨y6, a6, g6, e6, b6, c6⟩ := pick_tot hc (g := g5) 2 c5 (by omega)
    simp only [br, e6, ob_s]
    rw [w64 (x := y0 + 30) (by omega) (by omega), w64 (x := y1 + y3) (by omega) (by omega), w64 (x := 1 + y6) (by omega) (by omega)]
    exact ⟨_, _, _, rfl, by omega, by constructor <;> (dsimp only; omega)⟩
  | false =>
    simp only [br]
    rw [w64 (x := y0 + y2) (by omega) (by omega), w64 (x := y1 + y3) (by omega) (by omega), w64 (x := 1 + y4) (by omega) (by omega)]
    exact ⟨_, _, _, rfl, by omega, by constructor <;> (dsimp only; omega)⟩
theorem pow3 {k : Nat} (h : k ≤ 3) : (124 : Int) ^ k ≤ 1906624 := by
  rcases (by omega : k = 0 ∨ k = 1 ∨ k = 2 ∨ k = 3) with rfl | rfl | rfl | rfl <;> decide
theorem askedQL_tot {c : List Int} (hc : bytesOk c) {x : Int × Int × Int × Int × Int} (hx : LimOk x) {a g : Int} (ha : 0 ≤ a ∧ a ≤ 1000) :
    ∃ a' g' n d k, askedQL ((c, a, g), x, (0, 0), 1, 1, 0) = some ((c, a', g'), x, (0, 0), n, d, k) ∧ (0 ≤ a' ∧ a' ≤ 1012) ∧ (1 ≤ n ∧ n ≤ 1906624) ∧ 1 ≤ d ∧ d ≤ 1906624 := by
  have := iterP_end (step := askedQL_step) (fun s => ∃ (a' g' n d : Int) (k : Nat), s = ((c, a', g'), x, (0, 0), n, d, (k : Int)) ∧ k ≤ 3 ∧ (0 ≤ a' ∧ a' ≤ 1000 + 4 * k) ∧ (1 ≤ n ∧ n ≤ 124 ^ k) ∧ 1 ≤ d ∧ d ≤ 124 ^ k)
    (fun s => ∃ (a' g' n d k : Int), s = ((c, a', g'), x, (0, 0), n, d, k) ∧ (0 ≤ a' ∧ a' ≤ 1012) ∧ (1 ≤ n ∧ n ≤ 1906624) ∧ 1 ≤ d ∧ d ≤ 1906624) (fun s => (s.2.1.2.2.2.2 - s.2.2.2.2.2).toNat) ?_
    (askedQL_fuel ((c, a, g), x, (0, 0), 1, 1, 0)) ((c, a, g), x, (0, 0), 1, 1, 0) ⟨a, g, 1, 1, 0, rfl, by omega, by omega, by simp, by simp⟩ (by show _ < _ + 1; omega)
  · obtain ⟨_, h, a', g', n, d, k, rfl, h1, h2, h3⟩ := this
    exact ⟨a', g', n, d, k, h, h1, h2, h3⟩
  · rintro _ ⟨a', g', n, d, k, rfl, hk, ha', hn, hd⟩
    have q1 := hx.a1; have q2 := hx.a2; have q3 := hx.a3; have q4 := hx.b1; have q5 := hx.b2; have q6 := hx.b3; have q7 := hx.s2
    have p := pow3 hk
    have hout : (br (decide (((k : Nat) : Int) < x.2.2.2.2)) (br (decide (((k : Nat) : Int) < 3)) true false) false : Bool) = false → askedQL_step ((c, a', g'), x, (0, 0), n, d, (k : Int)) = some (.out, ((c, a', g'), x, (0, 0), n, d, (k : Int))) := fun h => by
      unfold askedQL_step
      dsimp only
      by_cases h1 : (k : Int) < x.2.2.2.2
      · rw [br_t (by simpa using h1)] at h ⊢
        by_cases h2 : (k : Int) < 3
        · rw [br_t (by simpa using h2)] at h; cases h
        · rw [br_f (by simpa using h2)]
      · rw [br_f (by simpa using h1)]
    by_cases h1 : (k : Int) < x.2.2.2.2
    · by_cases h2 : (k : Int) < 3
      · obtain ⟨y1, a1, g1, e1, b1, c1⟩ := pick_tot hc (a := a') (g := g') (K := 1000 + 4 * k) 4 (by omega) (by omega)
        obtain ⟨y2, a2, g2, e2, b2, c2⟩ := pick_tot hc (g := g1) 4 c1 (by omega)
        have m1 := Int.mul_le_mul hn.2 (show x.1 + y1 ≤ 124 by omega) (by omega) (by omega)
        have m2 := Int.mul_le_mul hd.2 (show x.2.2.1 + y2 ≤ 124 by omega) (by omega) (by omega)
        have m3 : 1 * 1 ≤ n * (x.1 + y1) := Int.mul_le_mul hn.1 (by omega) (by omega) (by omega)
        have m4 : 1 * 1 ≤ d * (x.2.2.1 + y2) := Int.mul_le_mul hd.1 (by omega) (by omega) (by omega)
        rw [← Int.pow_succ] at m1 m2
        have p' := pow3 (k := k + 1) (by omega)
        refine ⟨.next, ((c, a2, g2), x, (0, 0), n * (x.1 + y1), d * (x.2.2.1 + y2), ((k + 1 : Nat) : Int)), ?_, fun _ => ⟨⟨a2, g2, _, _, k + 1, rfl, by omega, by omega, ⟨by omega, m1⟩, by omega, m2⟩, ?_⟩, fun h => (by cases h), by intro h; cases h⟩
        · unfold askedQL_step
          dsimp only
          rw [br_t (by simpa using h1), br_t (by simpa using h2), e1, ob_s]
          dsimp only
          rw [e2, ob_s]
          dsimp only
          rw [w64 (x := x.1 + y1) (by omega) (by omega), w64 (x := x.2.2.1 + y2) (by omega) (by omega), w64 (x := n * (x.1 + y1)) (by omega) (by omega), w64 (x := d * (x.2.2.1 + y2)) (by omega) (by omega), w64 (by omega) (by omega)]
          rfl
        · show (x.2.2.2.2 - ((k + 1 : Nat) : Int)).toNat < (x.2.2.2.2 - (k : Int)).toNat
          omega
      · refine ⟨.out, _, hout (by rw [br_t (by simpa using h1), br_f (by simpa using h2)]), fun h => (by cases h), fun _ => ⟨a', g', n, d, _, rfl, by omega, ⟨hn.1, by omega⟩, hd.1, by omega⟩, by intro h; cases h⟩
    · refine ⟨.out, _, hout (by rw [br_f (by simpa using h1)]), fun h => (by cases h), fun _ => ⟨a', g', n, d, _, rfl, by omega, ⟨hn.1, by omega⟩, hd.1, by omega⟩, by intro h; cases h⟩
theorem askedQ_tot {c : List Int} (hc : bytesOk c) {x : Int × Int × Int × Int × Int} (hx : LimOk x) {a g : Int} (ha : 0 ≤ a ∧ a ≤ 14) : ∃ (r : Int × Int) (a' g' : Int), askedQ ((c, a, g), x) = some (r, (c, a', g'), x) ∧ (0 ≤ a' ∧ a' ≤ 2000) := by
  obtain ⟨b1, a1, g1, e1, c1⟩ := oneQ_tot hc (g := g) 10 ha (by omega)
  unfold askedQ
  simp only [e1, ob_s]
  cases b1 with
  | true =>
    obtain ⟨r, a2, g2, e2, c2⟩ := bentRatQ_tot hc (g := g1) c1 (by omega)
    simp only [br, e2, ob_s]
    exact ⟨_, _, _, rfl, by omega⟩
  | false =>
    obtain ⟨b2, a2, g2, e2, c2⟩ := oneQ_tot hc (g := g1) 8 c1 (by omega)
    simp only [br, e2, ob_s]
    cases b2 with
    | true =>
      obtain ⟨y3, a3, g3, e3, b3, c3⟩ := among_tot hc (g := g2) [(1000000 : Int), (1000001 : Int), (29530589 : Int), (365 : Int)] (by simp) (by simp) c2 (by omega)
      obtain ⟨y4, a4, g4, e4, b4, c4⟩ := among_tot hc (g := g3) [(1000000 : Int), (7 : Int), (1000001 : Int)] (by simp) (by simp) c3 (by omega)
      have h3 : y3 = 1000000 ∨ y3 = 1000001 ∨ y3 = 29530589 ∨ y3 = 365 := by simpa using b3
      have h4 : y4 = 1000000 ∨ y4 = 7 ∨ y4 = 1000001 := by simpa using b4
      obtain ⟨p, hp, _, _⟩ := mkS_small (n := y3) (d := y4) ⟨by omega, by omega⟩ ⟨by omega, by omega⟩
      simp only [e3, e4, ob_s, hp]
      exact ⟨_, _, _, rfl, by omega⟩
    | false =>
      obtain ⟨a3, g3, n, d, k, e3, c3, hn, hd⟩ := askedQL_tot hc hx (a := a2) (g := g2) (by omega)
      have e3' : askedQL ((c, a2, g2), (x.1, x.2.1, x.2.2.1, x.2.2.2.1, x.2.2.2.2), (0, 0), 1, 1, 0) = some ((c, a3, g3), x, (0, 0), n, d, k) := e3
      obtain ⟨p, hp, vp, lp⟩ := mkS_small (n := n) (d := d) ⟨by omega, by omega⟩ ⟨by omega, by omega⟩
      obtain ⟨b4, a4, g4, e4, c4⟩ := oneQ_tot hc (g := g3) 4 c3 (by omega)
      simp only [e3', ob_s, show decide (d ≤ 0) = false by simp; omega, show decide (n ≤ 0) = false by simp; omega, hp, e4]
      cases b4 with
      | true =>
        have := vR_bd vp
        have := lp (by omega)
        obtain ⟨p', hp', _, _⟩ := mkS_small (n := p.1 + 1) (d := p.2) ⟨by omega, by omega⟩ ⟨by omega, by omega⟩
        rw [w64 (x := p.1 + 1) (by omega) (by omega)]
        simp only [hp', ob_s]
        exact ⟨_, _, _, rfl, by omega⟩
      | false => exact ⟨_, _, _, rfl, by omega⟩
theorem a2SeL_tot {c : List Int} (hc : bytesOk c) {x : Int × Int × Int × Int × Int} (hx : LimOk x) (z : Int × Int × Int × Int × Int) (z2 r : Int × Int) {a g : Int} (ha : 0 ≤ a ∧ a ≤ 2000) :
    ∃ a' g' l k, a2SeL (z, z2, (c, a, g), x, r, [], 0) = some (z, z2, (c, a', g'), x, r, l, k) ∧ l.length = stg x ∧ ∀ y ∈ l, inLim x y = true := by
  obtain ⟨hs, hs3, hs1⟩ := hx.stg
  have := iterP_end (step := a2SeL_step) (fun s => ∃ (a' g' : Int) (l : List (Int × Int)) (k : Nat), s = (z, z2, (c, a', g'), x, r, l, (k : Int)) ∧ k ≤ stg x ∧ (0 ≤ a' ∧ a' ≤ 2000 + 4 * k) ∧ l.length = k ∧ ∀ y ∈ l, inLim x y = true)
    (fun s => ∃ (a' g' : Int) (l : List (Int × Int)) (k : Int), s = (z, z2, (c, a', g'), x, r, l, k) ∧ l.length = stg x ∧ ∀ y ∈ l, inLim x y = true) (fun s => (s.2.2.2.1.2.2.2.2 - s.2.2.2.2.2.2).toNat) ?_
    (a2SeL_fuel (z, z2, (c, a, g), x, r, [], 0)) (z, z2, (c, a, g), x, r, [], 0) ⟨a, g, [], 0, rfl, by omega, by omega, rfl, by simp⟩ (by show _ < _ + 1; omega)
  · obtain ⟨_, h, a', g', l, k, rfl, h1, h2⟩ := this
    exact ⟨a', g', l, k, h, h1, h2⟩
  · rintro _ ⟨a', g', l, k, rfl, hk, ha', hl, hok⟩
    have q1 := hx.a1; have q2 := hx.a2; have q3 := hx.a3; have q4 := hx.b1; have q5 := hx.b2; have q6 := hx.b3; have q7 := hx.s2
    by_cases h1 : k < stg x
    · obtain ⟨y1, a1, g1, e1, b1, c1⟩ := pick_tot hc (a := a') (g := g') (K := 2000 + 4 * k) (x.2.1 - x.1 + 1) (by omega) (by omega)
      obtain ⟨y2, a2, g2, e2, b2, c2⟩ := pick_tot hc (g := g1) (x.2.2.2.1 - x.2.2.1 + 1) c1 (by omega)
      refine ⟨.next, (z, z2, (c, a2, g2), x, r, l ++ [(x.1 + y1, x.2.2.1 + y2)], ((k + 1 : Nat) : Int)), ?_, fun _ => ⟨⟨a2, g2, _, k + 1, rfl, by omega, by omega, by simp [hl], fun y hy => ?_⟩, ?_⟩, fun h => (by cases h), by intro h; cases h⟩
      · unfold a2SeL_step
        dsimp only
        rw [br_t (by simp; omega), w64 (x := x.2.1 - x.1) (by omega) (by omega), w64 (x := x.2.1 - x.1 + 1) (by omega) (by omega), w64 (x := x.2.2.2.1 - x.2.2.1) (by omega) (by omega), w64 (x := x.2.2.2.1 - x.2.2.1 + 1) (by omega) (by omega), e1, ob_s]
        dsimp only
        rw [e2, ob_s]
        dsimp only
        rw [br_t (by simp; omega), w64 (x := x.1 + y1) (by omega) (by omega), w64 (x := x.2.2.1 + y2) (by omega) (by omega), w64 (by omega) (by omega)]
        rfl
      · rcases List.mem_append.1 hy with hy | hy
        · exact hok y hy
        · rw [List.mem_singleton.1 hy]
          unfold inLim
          simp
          omega
      · show (x.2.2.2.2 - ((k + 1 : Nat) : Int)).toNat < (x.2.2.2.2 - (k : Int)).toNat
        omega
    · refine ⟨.out, (z, z2, (c, a', g'), x, r, l, (k : Int)), ?_, fun h => (by cases h), fun _ => ⟨a', g', l, _, rfl, by omega, hok⟩, by intro h; cases h⟩
      unfold a2SeL_step
      dsimp only
      rw [br_f (by simp; omega)]
theorem v152 : vR (15, 2) = true := by decide
theorem asked_of {r : Int × Int} {x : Int × Int × Int × Int × Int} (hx : LimOk x) (hv : vR r = true) (ha : askB r = true) : Asked r x := by
  have := vR_bd hv
  unfold askB at ha
  simp at ha
  exact ⟨hx, by omega, by omega, by omega, by omega⟩
/-- What is drawn may be asked. -/
theorem a2SeQ_tot {c : List Int} (hc : bytesOk c) : ∃ (x : Int × Int × Int × Int × Int) (r : Int × Int) (l : List (Int × Int)), a2SeQ c = some (x, r, l) ∧ Asked r x ∧ vR r = true ∧ l.length = stg x ∧ ∀ y ∈ l, inLim x y = true := by
  obtain ⟨x, a1, g1, e1, c1, hx⟩ := drawLimQ_tot hc
  obtain ⟨r, a2, g2, e2, c2⟩ := askedQ_tot hc hx (a := a1) (g := g1) c1
  have e2' : askedQ ((c, a1, g1), x.1, x.2.1, x.2.2.1, x.2.2.2.1, x.2.2.2.2) = some (r, (c, a2, g2), x) := e2
  have e3 : okRatS (r.1, r.2) = some (vR r) := okRatS_eq r
  have e4 : askS (r.1, r.2) = some (askB r) := askS_eq r
  have go : ∀ r', ∃ l a' g' k, a2SeL ((0, 0, 0, 0, 0), (0, 0), (c, a2, g2), (x.1, x.2.1, x.2.2.1, x.2.2.2.1, x.2.2.2.2), r', [], 0) = some ((0, 0, 0, 0, 0), (0, 0), (c, a', g'), x, r', l, k) ∧ l.length = stg x ∧ ∀ y ∈ l, inLim x y = true := fun r' => by
    obtain ⟨a', g', l, k, e, h1, h2⟩ := a2SeL_tot hc hx (0, 0, 0, 0, 0) (0, 0) r' (g := g2) c2
    exact ⟨l, a', g', k, e, h1, h2⟩
  unfold a2SeQ fromS
  simp only [ob_s, e1, e2', e3, e4]
  have h152 : Asked (15, 2) x := asked_of hx v152 (by decide)
  cases hv : vR r with
  | false =>
    obtain ⟨l, a', g', k, e5, h1, h2⟩ := go (15, 2)
    simp only [Bool.not_false, br, e5, ob_s]
    exact ⟨_, _, _, rfl, h152, v152, h1, h2⟩
  | true =>
    cases hb : askB r with
    | false =>
      obtain ⟨l, a', g', k, e5, h1, h2⟩ := go (15, 2)
      simp only [Bool.not_false, Bool.not_true, br, e5, ob_s]
      exact ⟨_, _, _, rfl, h152, v152, h1, h2⟩
    | true =>
      obtain ⟨l, a', g', k, e5, h1, h2⟩ := go (r.1, r.2)
      simp only [Bool.not_true, br, e5, ob_s]
      exact ⟨_, _, _, rfl, asked_of hx hv hb, hv, h1, h2⟩
end
end Rx
end Go.Proofs.YthfgpnpoocepeaaGreat
