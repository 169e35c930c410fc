/- Drawn plates: they are there, with few sites. No program in sight. -/
import Derived.Test.YtckbhfbcblehmaaRxSrcLaw
import Derived.Test.YtckbhfbcblehmaaRxSitesLaw
import Derived.Test.YtckbhfbcblehmaaRxDraw
namespace Go.Proofs.Ytckbhfbcblehmaa
namespace Rx
open Go

theorem one_tot {c : List Int} (hc : bytesOk c) {a g K : Int} (n : Int) (ha : 0 ≤ a ∧ a ≤ K) (hK : K ≤ 1000000) : ∃ y a' g', oneS ((c, a, g), n) = some (y, (c, a', g'), n) ∧ 0 ≤ a' ∧ a' ≤ K + 2 := by
  obtain ⟨y, a', g', e, b, ca⟩ := pick_tot hc (g := g) n ha hK
  refine ⟨y == 0, a', g', ?_, ca⟩
  unfold oneS
  dsimp only
  rw [e]; rfl
theorem text_tot {c : List Int} (hc : bytesOk c) {a g K : Int} (l : List ByteArray) (hl : l ≠ []) (hl2 : l.length ≤ 1000000) (ha : 0 ≤ a ∧ a ≤ K) (hK : K ≤ 1000000) : ∃ y a' g', textS ((c, a, g), l) = some (y, (c, a', g'), l) ∧ 0 ≤ a' ∧ a' ≤ K + 2 := by
  obtain ⟨y, a', g', e, b, ca⟩ := pick_tot hc (g := g) (l.length : Int) ha hK
  have hp : 0 < l.length := by cases l with | nil => exact absurd rfl hl | cons _ _ => simp
  obtain ⟨z, hz, hz2⟩ := idx_get (l := l) (i := y) b.1 (by omega)
  refine ⟨z, a', g', ?_, ca⟩
  unfold textS
  dsimp only
  rw [e, ob_s]
  dsimp only
  rw [hz]; rfl
theorem bytesOf_size (l : List Int) : (bytesOf l).size = l.length := by
  unfold bytesOf
  have : ∀ (l : List Int) (r : ByteArray), (l.foldl (fun r n => r.push (UInt8.ofNat n.toNat)) r).size = r.size + l.length := by
    intro l
    induction l with
    | nil => intro r; rfl
    | cons x l ih =>
      intro r
      rw [List.foldl_cons, ih, ByteArray.size_push, List.length_cons]; omega
  rw [this]
  show 0 + _ = _
  omega
theorem dec_tot {k : Int} (h0 : 0 ≤ k) (h1 : k ≤ 1000000) : ∃ t, decS k = some t ∧ t.size ≤ 1000001 := by
  obtain ⟨s, e, s1, s2⟩ := iterP_end (step := decSL_step) (fun s => s.1 = k ∧ (0 ≤ s.2.2.2 ∧ s.2.2.2 ≤ 1000000) ∧ (s.2.2.1.length : Int) + s.2.2.2 ≤ k) (fun s => s.1 = k ∧ (s.2.2.1.length : Int) ≤ k) (fun s => s.2.2.2.natAbs) (by
    rintro ⟨x, t, l, n⟩ ⟨rfl, ⟨n0, n1⟩, hl⟩
    dsimp only at n0 n1 hl h0 h1
    unfold decSL_step
    dsimp only
    by_cases hn : n = 0
    · rw [br_f (by simp [hn])]
      exact ⟨.out, _, rfl, fun h => (by cases h), fun _ => ⟨rfl, by dsimp only; omega⟩, fun h => by cases h⟩
    · have hq : n.tdiv 10 = n / 10 := Int.tdiv_eq_ediv_of_nonneg n0
      have hm := Int.tmod_nonneg 10 n0
      rw [br_t (by simpa using hn), br_f (by simp; omega), br_t (by simp; omega), hq, w64 (x := n / 10) (by omega) (by omega)]
      refine ⟨.next, _, rfl, fun _ => ⟨⟨rfl, ⟨by dsimp only; omega, by dsimp only; omega⟩, ?_⟩, by dsimp only; omega⟩, fun h => (by cases h), fun h => by cases h⟩
      simp; omega) (k.natAbs + 1) (k, (⟨⟨[]⟩⟩ : ByteArray), [], k) ⟨rfl, ⟨h0, h1⟩, by simp⟩ (by dsimp only; omega)
  have e' : decSL (k, (⟨⟨[]⟩⟩ : ByteArray), [], k) = some s := e
  unfold decS
  rw [e', ob_s]
  cases ((s.2.2.1.length : Int) == 0) with
  | true => exact ⟨_, rfl, by show (1 : Nat) ≤ _; omega⟩
  | false =>
    rw [br_f rfl, br_f (by rw [s1]; simpa using h0)]
    exact ⟨_, rfl, by rw [bytesOf_size]; omega⟩
theorem drawPoint_tot {c : List Int} (hc : bytesOk c) {a g K : Int} (w h : Int) (ha : 0 ≤ a ∧ a ≤ K) (hK : K ≤ 100000) : ∃ y a' g', drawPointS ((c, a, g), w, h) = some (y, (c, a', g'), w, h) ∧ 0 ≤ a' ∧ a' ≤ K + 4 := by
  obtain ⟨y1, a1, g1, e1, _, c1⟩ := pick_tot hc (g := g) (IntKind.i64.wrap (w + 1)) ha (by omega)
  obtain ⟨y2, a2, g2, e2, _, c2⟩ := pick_tot hc (g := g1) (IntKind.i64.wrap (h + 1)) (K := K + 2) c1 (by omega)
  refine ⟨(y1, y2), a2, g2, ?_, by omega⟩
  unfold drawPointS
  simp only [e1, ob_s, e2]
theorem drawSL_tot {c : List Int} (hc : bytesOk c) {a g w h m gap k : Int} {grid : Bool} (ha : 0 ≤ a ∧ a ≤ 1000) (hw : 1 ≤ w ∧ w ≤ 10000) (hh : 1 ≤ h ∧ h ≤ 10000) (hk : 0 ≤ k ∧ k ≤ 8) :
    ∃ a' g' l k', drawSL ((c, a, g), (0, 0, 0, 0, []), w, h, (w, h, m, gap, []), grid, k) = some ((c, a', g'), (0, 0, 0, 0, []), w, h, (w, h, m, gap, l), grid, k') ∧ (0 ≤ a' ∧ a' ≤ 1100) ∧ l.length ≤ 8 := by
  obtain ⟨s, e, a', g', l, k', rfl, h1, h2⟩ := iterP_end (step := drawSL_step)
    (fun s => ∃ (a' g' : Int) (l : List SiteD) (k' : Int), s = ((c, a', g'), (0, 0, 0, 0, []), w, h, (w, h, m, gap, l), grid, k') ∧ (0 ≤ a' ∧ a' ≤ 1000 + 8 * (8 - k')) ∧ (0 ≤ k' ∧ k' ≤ 8) ∧ (l.length : Int) ≤ 8 - k')
    (fun s => ∃ (a' g' : Int) (l : List SiteD) (k' : Int), s = ((c, a', g'), (0, 0, 0, 0, []), w, h, (w, h, m, gap, l), grid, k') ∧ (0 ≤ a' ∧ a' ≤ 1100) ∧ l.length ≤ 8) (fun s => s.2.2.2.2.2.2.toNat) (by
    rintro s ⟨a', g', l, k', rfl, ha, hk, hl⟩
    unfold drawSL_step
    dsimp only
    by_cases hp : 0 < k'
    · obtain ⟨y, a1, g1, e1, c1⟩ := drawPoint_tot hc (g := g') w h ha (by omega)
      obtain ⟨y2, a2, g2, e2, _, c2⟩ := pick_tot hc (g := g1) 20 c1 (by omega)
      obtain ⟨y3, a3, g3, e3, _, c3⟩ := pick_tot hc (g := g2) 200 c2 (by omega)
      obtain ⟨t, e4, ht⟩ := dec_tot (k := (l.length : Int)) (by omega) (by omega)
      have n1 : (IntKind.i64.wrap (w + 1) == 0) = false := by rw [w64 (by omega) (by omega)]; simp; omega
      have n2 : (IntKind.i64.wrap (h + 1) == 0) = false := by rw [w64 (by omega) (by omega)]; simp; omega
      have n3 : decide ((⟨⟨[(97 : UInt8)]⟩⟩ : ByteArray).size + t.size ≤ 9223372036854775807) = true := by
        have : (⟨⟨[(97 : UInt8)]⟩⟩ : ByteArray).size = 1 := rfl
        rw [this]; simp; omega
      have n4 : ∀ x : SiteD, decide (l.length + [x].length ≤ 4294967296) = true := fun x => by simp; omega
      have n5 : IntKind.i64.wrap (k' - 1) = k' - 1 := w64 (by omega) (by omega)
      rw [br_t (by simpa using hp)]
      simp only [e1, e2, e3, e4, ob_s, n1, n2, n3, n4, n5]
      cases grid with
      | true =>
        simp only [br]
        exact ⟨.next, _, rfl, fun _ => ⟨⟨_, _, _, _, rfl, ⟨by omega, by omega⟩, ⟨by omega, by omega⟩, by simp; omega⟩, by dsimp only; omega⟩, fun h => (by cases h), fun h => by cases h⟩
      | false =>
        simp only [br]
        exact ⟨.next, _, rfl, fun _ => ⟨⟨_, _, _, _, rfl, ⟨by omega, by omega⟩, ⟨by omega, by omega⟩, by simp; omega⟩, by dsimp only; omega⟩, fun h => (by cases h), fun h => by cases h⟩
    · rw [br_f (by simpa using hp)]
      exact ⟨.out, _, rfl, fun h => (by cases h), fun _ => ⟨_, _, _, _, rfl, ⟨by omega, by omega⟩, by omega⟩, fun h => by cases h⟩)
    (k.toNat + 1) ((c, a, g), (0, 0, 0, 0, []), w, h, (w, h, m, gap, []), grid, k) ⟨_, _, _, _, rfl, ⟨ha.1, by omega⟩, hk, by simp; omega⟩ (by dsimp only; omega)
  exact ⟨a', g', l, k', e, h1, h2⟩
theorem draw_tot {c : List Int} (hc : bytesOk c) (g : Int) : ∃ (p : PlateD) (a' g' : Int), drawS (c, 0, g) = some (p, c, a', g') ∧ (0 ≤ a' ∧ a' ≤ 1100) ∧ p.2.2.2.2.length ≤ 8 ∧ (1 ≤ p.1 ∧ p.1 ≤ 10000) := by
  obtain ⟨y1, a1, g1, e1, b1, c1⟩ := pick_tot hc (a := 0) (g := g) (K := 0) 800 (by omega) (by omega)
  obtain ⟨y2, a2, g2, e2, b2, c2⟩ := pick_tot hc (g := g1) 800 c1 (by omega)
  obtain ⟨y3, a3, g3, e3, c3⟩ := one_tot hc (g := g2) 8 c2 (by omega)
  have w2 : IntKind.i64.wrap (400 + y2) = 400 + y2 := w64 (by omega) (by omega)
  unfold drawS
  simp only [e1, e2, e3, ob_s, w2]
  cases y3 with
  | true =>
    obtain ⟨y4, a4, g4, e4, b4, c4⟩ := among_tot hc (g := g3) [(1 : Int), (3 : Int), (10000 : Int)] (by simp) (by simp) c3 (by omega)
    obtain ⟨y5, a5, g5, e5, b5, c5⟩ := pick_tot hc (g := g4) 30 c4 (by omega)
    obtain ⟨y6, a6, g6, e6, b6, c6⟩ := pick_tot hc (g := g5) 40 c5 (by omega)
    obtain ⟨y7, a7, g7, e7, c7⟩ := one_tot hc (g := g6) 3 c6 (by omega)
    obtain ⟨y8, a8, g8, e8, b8, c8⟩ := pick_tot hc (g := g7) 8 c7 (by omega)
    have b4' : 1 ≤ y4 ∧ y4 ≤ 10000 := by
      simp at b4
      omega
    obtain ⟨a9, g9, l, k', e9, c9, hl⟩ := drawSL_tot hc (a := a8) (g := g8) (w := y4) (h := 400 + y2) (m := y5) (gap := y6) (k := y8) (grid := y7) ⟨c8.1, by omega⟩ b4' ⟨by omega, by omega⟩ ⟨b8.1, by omega⟩
    simp only [br, e4, e5, e6, e7, e8, e9, ob_s]
    exact ⟨_, _, _, rfl, c9, hl, b4'⟩
  | false =>
    have w1 : IntKind.i64.wrap (400 + y1) = 400 + y1 := w64 (by omega) (by omega)
    obtain ⟨y5, a5, g5, e5, b5, c5⟩ := pick_tot hc (g := g3) 30 c3 (by omega)
    obtain ⟨y6, a6, g6, e6, b6, c6⟩ := pick_tot hc (g := g5) 40 c5 (by omega)
    obtain ⟨y7, a7, g7, e7, c7⟩ := one_tot hc (g := g6) 3 c6 (by omega)
    obtain ⟨y8, a8, g8, e8, b8, c8⟩ := pick_tot hc (g := g7) 8 c7 (by omega)
    obtain ⟨a9, g9, l, k', e9, c9, hl⟩ := drawSL_tot hc (a := a8) (g := g8) (w := 400 + y1) (h := 400 + y2) (m := y5) (gap := y6) (k := y8) (grid := y7) ⟨c8.1, by omega⟩ ⟨by omega, by omega⟩ ⟨by omega, by omega⟩ ⟨b8.1, by omega⟩
    simp only [br, e5, e6, e7, e8, e9, ob_s, w1]
    exact ⟨_, _, _, rfl, c9, hl, by dsimp only; omega, by dsimp only; omega⟩
theorem bentSL_tot {s : List Int × Int × Int} {w h m gap k : Int} (hw : 1 ≤ w ∧ w ≤ 10000) (hk : 0 ≤ k ∧ k ≤ 30) :
    ∃ l k', bentSL (s, (0, 0, 0, 0, []), (w, h, m, gap, []), k) = some (s, (0, 0, 0, 0, []), (w, h, m, gap, l), k') ∧ l.length ≤ 30 := by
  obtain ⟨s', e, l, k', rfl, h2⟩ := iterP_end (step := bentSL_step)
    (fun s' => ∃ (l : List SiteD) (k' : Int), s' = (s, (0, 0, 0, 0, []), (w, h, m, gap, l), k') ∧ (0 ≤ k' ∧ k' ≤ 30) ∧ (l.length : Int) ≤ 30 - k')
    (fun s' => ∃ (l : List SiteD) (k' : Int), s' = (s, (0, 0, 0, 0, []), (w, h, m, gap, l), k') ∧ l.length ≤ 30) (fun s => s.2.2.2.toNat) (by
    rintro s' ⟨l, k', rfl, hk, hl⟩
    unfold bentSL_step
    dsimp only
    by_cases hp : 0 < k'
    · obtain ⟨t, e4, ht⟩ := dec_tot (k := k') (by omega) (by omega)
      have n1 : (IntKind.i64.wrap (w + 1) == 0) = false := by rw [w64 (by omega) (by omega)]; simp; omega
      have n3 : decide ((⟨⟨[(98 : UInt8)]⟩⟩ : ByteArray).size + t.size ≤ 9223372036854775807) = true := by
        have : (⟨⟨[(98 : UInt8)]⟩⟩ : ByteArray).size = 1 := rfl
        rw [this]; simp; omega
      have n4 : ∀ x : SiteD, decide (l.length + [x].length ≤ 4294967296) = true := fun x => by simp; omega
      have n5 : IntKind.i64.wrap (k' - 1) = k' - 1 := w64 (by omega) (by omega)
      rw [br_t (by simpa using hp)]
      simp only [e4, ob_s, n1, n3, n4, n5, br]
      exact ⟨.next, _, rfl, fun _ => ⟨⟨_, _, rfl, ⟨by omega, by omega⟩, by simp; omega⟩, by dsimp only; omega⟩, fun h => (by cases h), fun h => by cases h⟩
    · rw [br_f (by simpa using hp)]
      exact ⟨.out, _, rfl, fun h => (by cases h), fun _ => ⟨_, _, rfl, by omega⟩, fun h => by cases h⟩)
    (k.toNat + 1) (s, (0, 0, 0, 0, []), (w, h, m, gap, []), k) ⟨_, _, rfl, hk, by simp; omega⟩ (by dsimp only; omega)
  exact ⟨l, k', e, h2⟩
theorem bent_tot {c : List Int} (hc : bytesOk c) (g : Int) : ∃ (p : PlateD) (s : List Int × Int × Int), bentS (c, 0, g) = some (p, s) ∧ p.2.2.2.2.length ≤ 30 := by
  obtain ⟨p, a1, g1, e1, c1, hl, hw⟩ := draw_tot hc g
  obtain ⟨w, h, m, gap, l⟩ := p
  dsimp only at hl hw
  obtain ⟨y2, a2, g2, e2, b2, c2⟩ := pick_tot hc (g := g1) (l.length : Int) c1 (by omega)
  obtain ⟨y3, a3, g3, e3, b3, c3⟩ := pick_tot hc (g := g2) 30 c2 (by omega)
  unfold bentS
  simp only [e1, e2, e3, ob_s, gi]
  cases (y3 == (0 : Int)) with
  | true =>
    obtain ⟨y, a4, g4, e4, _⟩ := among_tot hc (g := g3) [(0 : Int), (10001 : Int)] (by simp) (by simp) c3 (by omega)
    simp only [br, e4, ob_s]
    exact ⟨_, _, rfl, by dsimp only; omega⟩
  | false =>
  cases (y3 == (1 : Int)) with
  | true =>
    obtain ⟨y, a4, g4, e4, _⟩ := among_tot hc (g := g3) [(-1 : Int), (1000 : Int), (1001 : Int)] (by simp) (by simp) c3 (by omega)
    simp only [br, e4, ob_s]
    exact ⟨_, _, rfl, by dsimp only; omega⟩
  | false =>
  by_cases hp : 0 < l.length
  · have hd : decide ((0 : Int) < (l.length : Int)) = true := by simp; omega
    obtain ⟨z, hz, hz2⟩ := idx_get (l := l) (i := y2) b2.1 (by omega)
    rw [hd]
    cases (y3 == (2 : Int)) with
    | true =>
      obtain ⟨y, a4, g4, e4, _⟩ := among_tot hc (g := g3) [(-1 : Int), w, IntKind.i64.wrap (w + 1)] (by simp) (by simp) c3 (by omega)
      simp only [br, e4, ob_s, hz, hz2]
      exact ⟨_, _, rfl, by simp; omega⟩
    | false =>
    cases (y3 == (3 : Int)) with
    | true =>
      obtain ⟨y, a4, g4, e4, _⟩ := text_tot hc (g := g3) [(⟨⟨[]⟩⟩ : ByteArray), (⟨⟨[(97 : UInt8), (48 : UInt8)]⟩⟩ : ByteArray), (⟨⟨[(85 : UInt8), (112 : UInt8)]⟩⟩ : ByteArray), (⟨⟨[(120 : UInt8)]⟩⟩ : ByteArray)] (by simp) (by simp) c3 (by omega)
      simp only [br, e4, ob_s, hz, hz2]
      exact ⟨_, _, rfl, by simp; omega⟩
    | false =>
    cases (y3 == (4 : Int)) with
    | true =>
      obtain ⟨y, a4, g4, e4, _⟩ := among_tot hc (g := g3) [(0 : Int), (1001 : Int), z.2.2.1, IntKind.i64.wrap (z.2.2.1 + 1)] (by simp) (by simp) c3 (by omega)
      simp only [br, ob_s, hz, hz2, e4]
      exact ⟨_, _, rfl, by simp; omega⟩
    | false =>
    cases (y3 == (5 : Int)) with
    | true =>
      obtain ⟨y, a4, g4, e4, b4, _⟩ := pick_tot hc (g := g3) 3 c3 (by omega)
      obtain ⟨l', k', e5, h5⟩ := bentSL_tot (s := (c, a4, g4)) (w := w) (h := h) (m := m) (gap := gap) (k := 19 + y) hw ⟨by omega, by omega⟩
      have w5 : IntKind.i64.wrap (19 + y) = 19 + y := w64 (by omega) (by omega)
      simp only [br, ob_s, e4, w5, e5]
      exact ⟨_, _, rfl, h5⟩
    | false =>
    cases (y3 == (6 : Int)) with
    | true =>
      obtain ⟨y, a4, g4, e4, _⟩ := among_tot hc (g := g3) [(-1 : Int), (1000 : Int), (1001 : Int)] (by simp) (by simp) c3 (by omega)
      simp only [br, e4, ob_s]
      exact ⟨_, _, rfl, by dsimp only; omega⟩
    | false => exact ⟨_, _, rfl, by dsimp only; omega⟩
  · have hd : decide ((0 : Int) < (l.length : Int)) = false := decide_eq_false (by omega)
    rw [hd]
    cases (y3 == (2 : Int)) with
    | true => exact ⟨_, _, rfl, by dsimp only; omega⟩
    | false =>
    cases (y3 == (3 : Int)) with
    | true => exact ⟨_, _, rfl, by dsimp only; omega⟩
    | false =>
    cases (y3 == (4 : Int)) with
    | true => exact ⟨_, _, rfl, by dsimp only; omega⟩
    | false =>
    cases (y3 == (5 : Int)) with
    | true =>
      obtain ⟨y, a4, g4, e4, b4, _⟩ := pick_tot hc (g := g3) 3 c3 (by omega)
      obtain ⟨l', k', e5, h5⟩ := bentSL_tot (s := (c, a4, g4)) (w := w) (h := h) (m := m) (gap := gap) (k := 19 + y) hw ⟨by omega, by omega⟩
      have w5 : IntKind.i64.wrap (19 + y) = 19 + y := w64 (by omega) (by omega)
      simp only [br, ob_s, e4, w5, e5]
      exact ⟨_, _, rfl, h5⟩
    | false =>
    cases (y3 == (6 : Int)) with
    | true =>
      obtain ⟨y, a4, g4, e4, _⟩ := among_tot hc (g := g3) [(-1 : Int), (1000 : Int), (1001 : Int)] (by simp) (by simp) c3 (by omega)
      simp only [br, e4, ob_s]
      exact ⟨_, _, rfl, by dsimp only; omega⟩
    | false => exact ⟨_, _, rfl, by dsimp only; omega⟩
theorem drawTurn_tot {c : List Int} (hc : bytesOk c) : ∃ p : PlateD, drawTurnS c = some p ∧ p.2.2.2.2.length ≤ 30 := by
  obtain ⟨p, s, e, hl⟩ := bent_tot hc 0
  refine ⟨p, ?_, hl⟩
  unfold drawTurnS fromS
  simp only [ob_s, e]
theorem drawClash_tot {c : List Int} (hc : bytesOk c) : ∃ p : PlateD, drawClashS c = some p ∧ p.2.2.2.2.length ≤ 30 := drawTurn_tot hc
end Rx
end Go.Proofs.Ytckbhfbcblehmaa
