/- What the functions of RxSrc come to, and their contracts. No conditions. -/
import Derived.Test.YtonbgpliomhboaaGreatDoorRxEnv
import Derived.Test.YtonbgpliomhboaaGreatDoorRxPlain
namespace Go.Proofs.YtonbgpliomhboaaGreatDoor
namespace Rx
open Go

def nextS : (List (Int) × Int × Int) → Option ((Int) × ((List (Int) × Int × Int))) :=
fun x =>
  br (decide (x.snd.1 < (↑x.1.length : Int)))
    (ob (idx x.1 x.snd.1) fun y =>
      br (decide (IntKind.i64.wrap (x.snd.1 + (1 : Int)) ≤ (↑x.1.length : Int)))
        (some
          (IntKind.i64.wrap y, x.1, IntKind.i64.wrap (x.snd.1 + (1 : Int)),
            IntKind.u64.wrap
              (IntKind.u64.wrap
                  (IntKind.u64.wrap (x.snd.2 * (6364136223846793005 : Int)) + IntKind.u64.wrap (IntKind.i64.wrap y)) +
                (1442695040888963407 : Int))))
        (some
          (IntKind.i64.wrap
              (andI IntKind.u64
                (shrI IntKind.u64
                  (IntKind.u64.wrap
                    (IntKind.u64.wrap
                        (IntKind.u64.wrap (x.snd.2 * (6364136223846793005 : Int)) +
                          IntKind.u64.wrap (IntKind.i64.wrap y)) +
                      (1442695040888963407 : Int)))
                  (40 : Int))
                (255 : Int)),
            x.1, IntKind.i64.wrap (x.snd.1 + (1 : Int)),
            IntKind.u64.wrap
              (IntKind.u64.wrap
                  (IntKind.u64.wrap (x.snd.2 * (6364136223846793005 : Int)) + IntKind.u64.wrap (IntKind.i64.wrap y)) +
                (1442695040888963407 : Int)))))
    (br (decide (IntKind.i64.wrap (x.snd.1 + (1 : Int)) ≤ (↑x.1.length : Int)))
      (some
        ((0 : Int), x.1, IntKind.i64.wrap (x.snd.1 + (1 : Int)),
          IntKind.u64.wrap
            (IntKind.u64.wrap (IntKind.u64.wrap (x.snd.2 * (6364136223846793005 : Int)) + IntKind.u64.wrap (0 : Int)) +
              (1442695040888963407 : Int))))
      (some
        (IntKind.i64.wrap
            (andI IntKind.u64
              (shrI IntKind.u64
                (IntKind.u64.wrap
                  (IntKind.u64.wrap
                      (IntKind.u64.wrap (x.snd.2 * (6364136223846793005 : Int)) + IntKind.u64.wrap (0 : Int)) +
                    (1442695040888963407 : Int)))
                (40 : Int))
              (255 : Int)),
          x.1, IntKind.i64.wrap (x.snd.1 + (1 : Int)),
          IntKind.u64.wrap
            (IntKind.u64.wrap (IntKind.u64.wrap (x.snd.2 * (6364136223846793005 : Int)) + IntKind.u64.wrap (0 : Int)) +
              (1442695040888963407 : Int)))))
def nextS_con : MCon := ⟨[.box 114 (.pair (.slice (.int .u8)) (.pair (i64) (u64)))], [.d (i64)], nextS⟩
theorem nextS_run (x : ADens [.box 114 (.pair (.slice (.int .u8)) (.pair (i64) (u64)))]) : runFnM (mkEnv [] []) Tryz.f93 [.box 114 (.pair (.slice (.int .u8)) (.pair (i64) (u64)))] [.d (i64)] x = nextS x := by kernel_rfl
theorem nextS_ok : nextS_con.ok Tryz.prog 93 := fnM_ok (con := nextS_con) (mkEnv_ok (cons := []) trivial []) Tryz.func93 rfl (by kernel_rfl) (by exact trivial) (fun x y h => (nextS_run x).trans h)

def pickS : (List (Int) × Int × Int) × Int → Option ((Int) × ((List (Int) × Int × Int) × Int)) :=
fun x =>
  br (decide (x.2 ≤ (1 : Int))) (some ((0 : Int), (x.fst.1, x.fst.snd.1, x.fst.snd.2), x.2))
    (ob (nextS (x.fst.1, x.fst.snd.1, x.fst.snd.2)) fun y =>
      br (decide ((200 : Int) < x.2))
        (ob (nextS (y.snd.1, y.snd.snd.1, y.snd.snd.2)) fun y_1 =>
          br (x.2 == (0 : Int)) none
            (some
              ((IntKind.i64.wrap (IntKind.i64.wrap (y.1 * (256 : Int)) + y_1.1)).tmod x.2,
                (y_1.snd.1, y_1.snd.snd.1, y_1.snd.snd.2), x.2)))
        (br (x.2 == (0 : Int)) none (some (Int.tmod y.1 x.2, (y.snd.1, y.snd.snd.1, y.snd.snd.2), x.2))))
def pickS_con : MCon := ⟨[.box 114 (.pair (.slice (.int .u8)) (.pair (i64) (u64))), .v (.d (i64))], [.d (i64)], pickS⟩
theorem pickS_run (x : ADens [.box 114 (.pair (.slice (.int .u8)) (.pair (i64) (u64))), .v (.d (i64))]) : runFnM (mkEnvM [] [(93, nextS_con)] []) Tryz.f65 [.box 114 (.pair (.slice (.int .u8)) (.pair (i64) (u64))), .v (.d (i64))] [.d (i64)] x = pickS x := by kernel_rfl
theorem pickS_ok : pickS_con.ok Tryz.prog 65 := fnM_ok (con := pickS_con) (mkEnvM_ok (cons := []) (mcons := [(93, nextS_con)]) trivial ⟨nextS_ok, trivial⟩ []) Tryz.func65 rfl (by kernel_rfl) (by exact trivial) (fun x y h => (pickS_run x).trans h)

def amongS : (List (Int) × Int × Int) × List (Int) → Option ((Int) × ((List (Int) × Int × Int) × List (Int))) :=
fun x =>
  ob (pickS ((x.fst.1, x.fst.snd.1, x.fst.snd.2), (↑x.2.length : Int))) fun y =>
    ob (idx x.2 y.1) fun y_1 => some (y_1, (y.snd.fst.1, y.snd.fst.snd.1, y.snd.fst.snd.2), x.2)
def amongS_con : MCon := ⟨[.box 114 (.pair (.slice (.int .u8)) (.pair (i64) (u64))), .v (.d (.slice (i64)))], [.d (i64)], amongS⟩
theorem amongS_run (x : ADens [.box 114 (.pair (.slice (.int .u8)) (.pair (i64) (u64))), .v (.d (.slice (i64)))]) : runFnM (mkEnvM [] [(65, pickS_con)] []) Tryz.f66 [.box 114 (.pair (.slice (.int .u8)) (.pair (i64) (u64))), .v (.d (.slice (i64)))] [.d (i64)] x = amongS x := by kernel_rfl
theorem amongS_ok : amongS_con.ok Tryz.prog 66 := fnM_ok (con := amongS_con) (mkEnvM_ok (cons := []) (mcons := [(65, pickS_con)]) trivial ⟨pickS_ok, trivial⟩ []) Tryz.func66 rfl (by kernel_rfl) (by exact trivial) (fun x y h => (amongS_run x).trans h)

def fromS : List (Int) → Option ((List (Int) × Int × Int)) :=
fun x => some (x, (0 : Int), (0 : Int))
def fromS_con : Con := ⟨[.slice (.int .u8)], [.box 114 (.pair (.slice (.int .u8)) (.pair (i64) (u64)))], fromS⟩
theorem fromS_run (x : Dens [.slice (.int .u8)]) : runFn (mkEnv [] []) Tryz.f33 [.slice (.int .u8)] [.box 114 (.pair (.slice (.int .u8)) (.pair (i64) (u64)))] x = fromS x := by kernel_rfl
theorem fromS_ok : fromS_con.ok Tryz.prog 33 := fn_ok (con := fromS_con) (mkEnv_ok (cons := []) trivial []) Tryz.func33 rfl (by kernel_rfl) (by exact trivial) (fun x y h => (fromS_run x).trans h)

end Rx
end Go.Proofs.YtonbgpliomhboaaGreatDoor

namespace Go.Proofs.YtonbgpliomhboaaGreatDoor
namespace Rx
open Go

/-- The bytes. -/
def bytesOk (c : List Int) : Prop := ∀ b ∈ c, 0 ≤ b ∧ b ≤ 255
theorem bytes_wf {c : List Int} (h : WfAll [.slice (.int .u8)] c) : bytesOk c := by
  intro b hb
  have h1 : Wf (.slice (.int .u8)) c := h
  have h2 : (Lit.int .u8 b).wf = true := h1.2 b hb
  simpa [Lit.wf, IntKind.min, IntKind.max, IntKind.signed, IntKind.bits] using h2
theorem andI_255 (a : Int) : 0 ≤ andI .u64 a 255 ∧ andI .u64 a 255 ≤ 255 := by
  unfold andI
  have h : (BitVec.ofInt IntKind.u64.bits a &&& BitVec.ofInt IntKind.u64.bits 255).toNat ≤ 255 := by
    rw [BitVec.toNat_and]
    exact Nat.le_trans Nat.and_le_right (by decide)
  rw [wu64 (by omega) (by omega)]
  omega
theorem next_tot {c : List Int} (hc : bytesOk c) {a g K : Int} (ha : 0 ≤ a ∧ a ≤ K) (hK : K ≤ 1000000000) : ∃ y a' g', nextS (c, a, g) = some (y, c, a', g') ∧ (0 ≤ y ∧ y ≤ 255) ∧ 0 ≤ a' ∧ a' ≤ K + 1 := by
  unfold nextS
  dsimp only
  have e1 : IntKind.i64.wrap (a + 1) = a + 1 := w64 (by omega) (by omega)
  rw [e1]
  by_cases h : a < c.length
  · obtain ⟨y, hy, hy2⟩ := idx_get (l := c) ha.1 h
    have hb := hc y (List.mem_of_getElem? hy2)
    rw [br_t (by simpa using h), hy, ob_s]
    cases decide (a + 1 ≤ (c.length : Int)) with
    | true => exact ⟨_, _, _, rfl, by rw [w64 (by omega) (by omega)]; exact hb, by omega, by omega⟩
    | false =>
      refine ⟨_, _, _, rfl, ?_, by omega, by omega⟩
      have := andI_255 (shrI .u64 (IntKind.u64.wrap (IntKind.u64.wrap (IntKind.u64.wrap (g * 6364136223846793005) + IntKind.u64.wrap (IntKind.i64.wrap y)) + 1442695040888963407)) 40)
      rw [w64 (by omega) (by omega)]; exact this
  · rw [br_f (by simpa using h)]
    cases decide (a + 1 ≤ (c.length : Int)) with
    | true => exact ⟨_, _, _, rfl, by omega, by omega, by omega⟩
    | false =>
      refine ⟨_, _, _, rfl, ?_, by omega, by omega⟩
      have := andI_255 (shrI .u64 (IntKind.u64.wrap (IntKind.u64.wrap (IntKind.u64.wrap (g * 6364136223846793005) + IntKind.u64.wrap 0) + 1442695040888963407)) 40)
      rw [w64 (by omega) (by omega)]; exact this
theorem tmod_bd {x n : Int} (hx : 0 ≤ x) (hn : 0 < n) : 0 ≤ x.tmod n ∧ x.tmod n < n := ⟨Int.tmod_nonneg _ hx, Int.tmod_lt_of_pos _ hn⟩
theorem pick_tot {c : List Int} (hc : bytesOk c) {a g K : Int} (n : Int) (ha : 0 ≤ a ∧ a ≤ K) (hK : K ≤ 1000000) : ∃ y a' g', pickS ((c, a, g), n) = some (y, (c, a', g'), n) ∧ (0 ≤ y ∧ (y < n ∨ y = 0)) ∧ 0 ≤ a' ∧ a' ≤ K + 2 := by
  unfold pickS
  dsimp only
  by_cases h : n ≤ 1
  · rw [br_t (by simpa using h)]
    exact ⟨_, _, _, rfl, ⟨by omega, .inr rfl⟩, by omega, by omega⟩
  · obtain ⟨y1, a1, g1, e1, b1, c1⟩ := next_tot hc (g := g) ha (by omega)
    obtain ⟨y2, a2, g2, e2, b2, c2⟩ := next_tot hc (g := g1) (K := K + 1) c1 (by omega)
    rw [br_f (by simpa using h), e1, ob_s]
    dsimp only
    by_cases h2 : 200 < n
    · rw [br_t (by simpa using h2), e2, ob_s, br_f (by simp; omega)]
      rw [w64 (x := y1 * 256) (by omega) (by omega), w64 (by omega) (by omega)]
      have := tmod_bd (x := y1 * 256 + y2) (n := n) (by omega) (by omega)
      exact ⟨(y1 * 256 + y2).tmod n, a2, g2, rfl, ⟨this.1, .inl this.2⟩, by omega, by omega⟩
    · rw [br_f (by simpa using h2), br_f (by simp; omega)]
      have := tmod_bd (x := y1) (n := n) (by omega) (by omega)
      exact ⟨y1.tmod n, a1, g1, rfl, ⟨this.1, .inl this.2⟩, by omega, by omega⟩
theorem among_tot {c : List Int} (hc : bytesOk c) {a g K : Int} (l : List Int) (hl : l ≠ []) (hl2 : l.length ≤ 1000000) (ha : 0 ≤ a ∧ a ≤ K) (hK : K ≤ 1000000) : ∃ y a' g', amongS ((c, a, g), l) = some (y, (c, a', g'), l) ∧ y ∈ l ∧ 0 ≤ a' ∧ a' ≤ K + 2 := by
  obtain ⟨y, a', g', e, b, ca⟩ := pick_tot hc (g := g) (l.length : Int) ha hK
  have hp : 0 < l.length := by cases l with | nil => exact absurd rfl hl | cons _ _ => simp
  obtain ⟨z, hz, hz2⟩ := idx_get (l := l) (i := y) b.1 (by omega)
  refine ⟨z, a', g', ?_, List.mem_of_getElem? hz2, ca⟩
  unfold amongS
  dsimp only
  rw [e, ob_s]
  dsimp only
  rw [hz]; rfl
end Rx
end Go.Proofs.YtonbgpliomhboaaGreatDoor
