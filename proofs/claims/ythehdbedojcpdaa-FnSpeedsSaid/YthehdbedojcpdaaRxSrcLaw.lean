/- Numbers drawn from bytes: they are there, and within bounds. No program in sight. -/
import Derived.Test.YthehdbedojcpdaaRxPlain
import Derived.Test.YthehdbedojcpdaaRxSrc
namespace Go.Proofs.Ythehdbedojcpdaa
namespace Rx
open Go

/-- The bytes. -/
def bytesOk (c : List Int) : Prop := ∀ b ∈ c, 0 ≤ b ∧ b ≤ 255
theorem bytes_wf {c : List Int} (h : WfAll [.slice (.int .u8)] c) : bytesOk c := by
  intro b hb
  have h1 : Wf (.slice (.int .u8)) c := h
  have h2 : (Lit.int .u8 b).wf = true := h1.2 b hb
  simpa [Lit.wf, IntKind.min, IntKind.max, IntKind.signed, IntKind.bits] using h2
theorem andI_255 (a : Int) : 0 ≤ andI .u64 a 255 ∧ andI .u64 a 255 ≤ 255 := by
  unfold andI
  have h : (BitVec.ofInt IntKind.u64.bits a &&& BitVec.ofInt IntKind.u64.bits 255).toNat ≤ 255 := by
    rw [BitVec.toNat_and]
    exact Nat.le_trans Nat.and_le_right (by decide)
  rw [wu64 (by omega) (by omega)]
  omega
theorem next_tot {c : List Int} (hc : bytesOk c) {a g K : Int} (ha : 0 ≤ a ∧ a ≤ K) (hK : K ≤ 1000000000) : ∃ y a' g', nextS (c, a, g) = some (y, c, a', g') ∧ (0 ≤ y ∧ y ≤ 255) ∧ 0 ≤ a' ∧ a' ≤ K + 1 := by
  unfold nextS
  dsimp only
  have e1 : IntKind.i64.wrap (a + 1) = a + 1 := w64 (by omega) (by omega)
  rw [e1]
  by_cases h : a < c.length
  · obtain ⟨y, hy, hy2⟩ := idx_get (l := c) ha.1 h
    have hb := hc y (List.mem_of_getElem? hy2)
    rw [br_t (by simpa using h), hy, ob_s]
    cases decide (a + 1 ≤ (c.length : Int)) with
    | true => exact ⟨_, _, _, rfl, by rw [w64 (by omega) (by omega)]; exact hb, by omega, by omega⟩
    | false =>
      refine ⟨_, _, _, rfl, ?_, by omega, by omega⟩
      have := andI_255 (shrI .u64 (IntKind.u64.wrap (IntKind.u64.wrap (IntKind.u64.wrap (g * 6364136223846793005) + IntKind.u64.wrap (IntKind.i64.wrap y)) + 1442695040888963407)) 40)
      rw [w64 (by omega) (by omega)]; exact this
  · rw [br_f (by simpa using h)]
    cases decide (a + 1 ≤ (c.length : Int)) with
    | true => exact ⟨_, _, _, rfl, by omega, by omega, by omega⟩
    | false =>
      refine ⟨_, _, _, rfl, ?_, by omega, by omega⟩
      have := andI_255 (shrI .u64 (IntKind.u64.wrap (IntKind.u64.wrap (IntKind.u64.wrap (g * 6364136223846793005) + IntKind.u64.wrap 0) + 1442695040888963407)) 40)
      rw [w64 (by omega) (by omega)]; exact this
theorem tmod_bd {x n : Int} (hx : 0 ≤ x) (hn : 0 < n) : 0 ≤ x.tmod n ∧ x.tmod n < n := ⟨Int.tmod_nonneg _ hx, Int.tmod_lt_of_pos _ hn⟩
theorem pick_tot {c : List Int} (hc : bytesOk c) {a g K : Int} (n : Int) (ha : 0 ≤ a ∧ a ≤ K) (hK : K ≤ 1000000) : ∃ y a' g', pickS ((c, a, g), n) = some (y, (c, a', g'), n) ∧ (0 ≤ y ∧ (y < n ∨ y = 0)) ∧ 0 ≤ a' ∧ a' ≤ K + 2 := by
  unfold pickS
  dsimp only
  by_cases h : n ≤ 1
  · rw [br_t (by simpa using h)]
    exact ⟨_, _, _, rfl, ⟨by omega, .inr rfl⟩, by omega, by omega⟩
  · obtain ⟨y1, a1, g1, e1, b1, c1⟩ := next_tot hc (g := g) ha (by omega)
    obtain ⟨y2, a2, g2, e2, b2, c2⟩ := next_tot hc (g := g1) (K := K + 1) c1 (by omega)
    rw [br_f (by simpa using h), e1, ob_s]
    dsimp only
    by_cases h2 : 200 < n
    · rw [br_t (by simpa using h2), e2, ob_s, br_f (by simp; omega)]
      rw [w64 (x := y1 * 256) (by omega) (by omega), w64 (by omega) (by omega)]
      have := tmod_bd (x := y1 * 256 + y2) (n := n) (by omega) (by omega)
      exact ⟨(y1 * 256 + y2).tmod n, a2, g2, rfl, ⟨this.1, .inl this.2⟩, by omega, by omega⟩
    · rw [br_f (by simpa using h2), br_f (by simp; omega)]
      have := tmod_bd (x := y1) (n := n) (by omega) (by omega)
      exact ⟨y1.tmod n, a1, g1, rfl, ⟨this.1, .inl this.2⟩, by omega, by omega⟩
theorem among_tot {c : List Int} (hc : bytesOk c) {a g K : Int} (l : List Int) (hl : l ≠ []) (hl2 : l.length ≤ 1000000) (ha : 0 ≤ a ∧ a ≤ K) (hK : K ≤ 1000000) : ∃ y a' g', amongS ((c, a, g), l) = some (y, (c, a', g'), l) ∧ y ∈ l ∧ 0 ≤ a' ∧ a' ≤ K + 2 := by
  obtain ⟨y, a', g', e, b, ca⟩ := pick_tot hc (g := g) (l.length : Int) ha hK
  have hp : 0 < l.length := by cases l with | nil => exact absurd rfl hl | cons _ _ => simp
  obtain ⟨z, hz, hz2⟩ := idx_get (l := l) (i := y) b.1 (by omega)
  refine ⟨z, a', g', ?_, List.mem_of_getElem? hz2, ca⟩
  unfold amongS
  dsimp only
  rw [e, ob_s]
  dsimp only
  rw [hz]; rfl
end Rx
end Go.Proofs.Ythehdbedojcpdaa
