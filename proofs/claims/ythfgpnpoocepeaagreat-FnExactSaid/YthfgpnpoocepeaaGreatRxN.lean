/- The evaluator is true of a function's code: from its run to the function's contract. No conditions. -/
import Derived.Test.YthfgpnpoocepeaaGreatRxM
namespace Go.Proofs.YthfgpnpoocepeaaGreat
open Go.RowKit
namespace Rx

def exOf : Ex → Exit
  | .normal => .normal
  | .ret => .ret
  | .exit i => .exit i
def loopsOf : Code → List Code
  | .seq a b => loopsOf a ++ loopsOf b
  | .cond _ a b => loopsOf a ++ loopsOf b
  | .block _ b => loopsOf b
  | .loop b => [b]
  | _ => []
def embSt (n : Nat) (vs : Vars) (s : vs.den) : St := emb vs s (St.empty n)
def LoopOK (P : Program) (n : Nat) (L : LoopC) (body : Code) : Prop := ∀ (W : WX) (M0 : Mem) (s : L.vars.den) (a : Act) (w : World) (Q : Exit → Act → World → Prop), G W M0 (embSt n L.vars s) a w →
  match L.F with
  | .plain F => ∀ r, F s = some r → (∀ a' w', G W M0 (embSt n L.vars r) a' w' → Q (.exit L.out) a' w') → (Code.loop body).wp P Q a w
  | .two F => ∀ r, F s = some r → (∀ a' w', G W M0 (embSt n L.vars r.2) a' w' → Q (match r.1 with | true => .exit L.out | false => .ret) a' w') → (Code.loop body).wp P Q a w
  | .alt rv F => ∀ r, F s = some r → (∀ a' w', (match r with | .inl s => G W M0 (embSt n L.vars s) a' w' | .inr s => G W M0 (embSt n rv s) a' w') → Q (match r with | .inl _ => .exit L.out | .inr _ => .ret) a' w') → (Code.loop body).wp P Q a w
def AllLoops (P : Program) (E : Env) (n : Nat) : List Code → Prop
  | [] => True
  | b :: bs => (match E.loops.lookup (key b) with | some L => LoopOK P n L b | none => True) ∧ AllLoops P E n bs

section
variable {P : Program} {W : WX} {M0 : Mem} {S : St} {hdr : Nat → Option Value} {inn : Nat → List Nat} {M : Mem} {a : Act} {w : World} {E : Env} {R : Type}

theorem AllLoops.get {n : Nat} : ∀ {l : List Code}, AllLoops P E n l → ∀ b ∈ l, ∀ L, E.loops.lookup (key b) = some L → LoopOK P n L b
  | [], _, b, hb, _, _ => by cases hb
  | c :: l, h, b, hb, L, hL => by
    rcases List.mem_cons.1 hb with rfl | hb
    · have := h.1
      rw [hL] at this; exact this
    · exact AllLoops.get h.2 b hb L hL

/-! ### A loop's variables out of a state -/
def Used (S : St) (inn inn1 : Nat → List Nat) (used : List Nat) : Prop := ∀ b g, g ∈ inn1 b → ∃ b0 ∈ used, g ∈ inn b0 ∧ ∃ B0, lk S.heap b0 = some (some B0)
/-- The rows of boxes that are laid out already. -/
def LaidR (S : St) (hdr hdr1 : Nat → Option Value) (seen : List (Nat × RTy)) : Prop := ∀ t R, (t, R) ∈ seen → ∀ k b, sameAt S t R k = some b → hdr1 (nestId t k) = hdr b
def OneOut (W : WX) (M0 : Mem) (S : St) (hdr hdr1 : Nat → Option Value) (inn : Nat → List Nat) (M : Mem) (a : Act) (w : World) (t : Nat) (D : Desc) (d : D.den) (S1 : St) (used : List Nat) : Prop :=
  ∃ hdr' inn', Good W M0 (embOne t D d S1) hdr' inn' M a w ∧ Used S inn inn' (used ++ projIds S [(t, D)]) ∧ (∀ b, (∀ k, b ≠ 4 * (t + 512 * k) + 3) → lk (embOne t D d S1).heap b = lk S1.heap b) ∧ (∀ b u, hdr1 b = some u → hdr' b = some u) ∧
    ∀ fl et R, D = .boxR fl et R → ∀ k b, sameAt S t R k = some b → hdr' (nestId t k) = hdr b
theorem Used.more {inn1 inn2 : Nat → List Nat} {used more gs : List Nat} (hu : Used S inn inn1 used) (h2 : ∀ b g, g ∈ inn2 b → g ∈ gs ∨ g ∈ inn1 b) (hg : ∀ g ∈ gs, ∃ b0 ∈ more, g ∈ inn b0 ∧ ∃ B0, lk S.heap b0 = some (some B0)) : Used S inn inn2 (used ++ more) := by
  intro b g hb
  rcases h2 b g hb with h | h
  · obtain ⟨b0, h1, h2⟩ := hg g h
    exact ⟨b0, List.mem_append.2 (.inr h1), h2⟩
  · obtain ⟨b0, h1, h2⟩ := hu b g h
    exact ⟨b0, List.mem_append.2 (.inl h1), h2⟩
/-- What new blocks lie in is not what a block lies in that is not used yet. -/
theorem Used.sep (h : Good W M0 S hdr inn M a w) {S1 : St} {inn1 : Nat → List Nat} {used : List Nat} (hu : Used S inn inn1 used) {c : Nat} {C : Blk} (hc : lk S.heap c = some (some C)) (hn : c ∉ used) : ∀ b' B' g, lk S1.heap b' = some (some B') → g ∈ inn c → g ∉ inn1 b' := by
  intro b' B' g _ hg hg2
  obtain ⟨b0, m1, m2, B0, m3⟩ := hu b' g hg2
  exact h.sep c b0 C B0 g (fun e => hn (by rw [e]; exact m1)) hc m3 hg m2

theorem one_val (h : Good W M0 S hdr inn M a w) {t : Nat} {T : Ty} {d : T.den} {S1 : St} {hdr1 : Nat → Option Value} {inn1 : Nat → List Nat} {used : List Nat} (g1 : Good W M0 S1 hdr1 inn1 M a w) (hu : Used S inn inn1 used) (hp : projVal S t T = some d) :
    OneOut W M0 S hdr hdr1 inn M a w t (.val T) d S1 used := by
  unfold OneOut
  unfold projVal at hp
  split at hp
  · rename_i v hv
    have hrep := h.tm t
    rw [hv] at hrep
    refine ⟨hdr1, inn1, g1.setT (v := .v (v1Of T d)) ?_, hu.more (gs := []) (fun b g h => .inr h) (fun g h => by cases h), fun b _ => rfl, fun _ _ h => h, fun fl et R h => by cases h⟩
    unfold takeV at hp
    split at hp
    · rename_i hs
      exact v1Of_of hs hrep (takeAll_nil hp (RepV1.cells hrep))
    · cases hp
  · cases hp

theorem one_row (h : Good W M0 S hdr inn M a w) {t fl : Nat} {et : TypeId} {T : Ty} {d : List T.den} {S1 : St} {hdr1 : Nat → Option Value} {inn1 : Nat → List Nat} {used : List Nat} (g1 : Good W M0 S1 hdr1 inn1 M a w) (hu : Used S inn inn1 used) (hp : projRow S t fl et T = some d)
    (hn : (used ++ projIds S [(t, .row fl et T)]).Nodup) (hnew : lk S1.heap (4 * t + 3) = none) : OneOut W M0 S hdr hdr1 inn M a w t (.row fl et T) d S1 used := by
  unfold OneOut
  unfold projRow at hp
  have hrep := h.tm t
  split at hp
  · rename_i hv
    split at hp
    case isFalse => cases hp
    rename_i hfl
    subst hfl
    cases hp
    rw [hv] at hrep
    have hv0 : a.tmps.getD t undef = .slice none 0 0 := hrep
    obtain ⟨hdr', inn', k1, k2, k3, _⟩ := g1.addBlk (t := t) (id := 4 * t + 3) (x := .v (.one (.row (4 * t + 3)))) (B := .row et T [] 0) (v := .slice none 0 0) (gs := []) hnew (fun h => by cases h) (fun _ _ => .inl ⟨rfl, rfl, rfl⟩) (fun _ _ _ _ hg => by cases hg)
      (fun hdr' h0 => ⟨by rw [hv0]; exact h0, by rw [hv0]; exact ⟨_, _, _, rfl⟩⟩)
    exact ⟨hdr', inn', k1, hu.more k2 (fun g h => by cases h), fun b hb => by show (if _ then _ else _) = _; rw [if_neg (fun e => hb 0 (by omega))], k3, fun fl et R h => by cases h⟩
  · rename_i c hv
    split at hp
    · rename_i et' T' xs fz hb
      split at hp
      · rename_i hT
        split at hp
        · rename_i he
          cases hp
          obtain ⟨he, hfl, hf1⟩ := he
          subst hT; subst he; subst hfl
          rw [hv] at hrep
          have hb' := blkAt_some hb
          obtain ⟨v0, hv0, hB⟩ := h.hp c _ hb'
          obtain ⟨hh, hsl⟩ := hrep
          rw [hh] at hv0
          injection hv0 with hv0
          have hids : projIds S [(t, Desc.row fz et' T')] = [c] := by simp [projIds, hv]
          rw [hids] at hn ⊢
          have hcu : c ∉ used := fun hm => by
            rw [List.nodup_append] at hn
            exact hn.2.2 c hm c (by simp) rfl
          obtain ⟨hdr', inn', k1, k2, k3, _⟩ := g1.addBlk (t := t) (id := 4 * t + 3) (x := .v (.one (.row (4 * t + 3)))) (B := .row et' T' xs fz) (v := v0) (gs := inn c) hnew (fun hf hf2 => by rw [← h.ag c _ hb' hf hf2, hh, hv0]) (fun _ _ => hB)
            (hu.sep h hb' hcu)
            (fun hdr' h0 => ⟨by rw [hv0]; exact h0, hsl⟩)
          exact ⟨hdr', inn', k1, hu.more k2 (fun g hg => ⟨c, by simp, hg, _, hb'⟩), fun b hb => by show (if _ then _ else _) = _; rw [if_neg (fun e => hb 0 (by omega))], k3, fun fl et R h => by cases h⟩
        · cases hp
      · cases hp
    · cases hp
  · cases hp

/-- A list of them is put together around an element. -/
theorem RepOL.join {α : Type} {R : α → List Value → List Nat → Prop} {n sz : Nat} {xs : List α} {y : α} {us : List Value} {g1 g2 g3 : List Nat} (hn : n < xs.length) (h1 : RepOL R (xs.take n) (us.take (n * sz)) g1) (h2 : R y ((us.drop (n * sz)).take sz) g2) (h3 : RepOL R (xs.drop (n + 1)) (us.drop (n * sz + sz)) g3) :
    RepOL R (xs.set n y) us (g1 ++ (g2 ++ g3)) := by
  have e1 : xs.set n y = xs.take n ++ y :: xs.drop (n + 1) := List.set_eq_take_append_cons_drop (l := xs) (i := n) (a := y) ▸ (by rw [if_pos hn])
  have e2 : us = us.take (n * sz) ++ ((us.drop (n * sz)).take sz ++ us.drop (n * sz + sz)) := by
    rw [← List.drop_drop, List.take_append_drop, List.take_append_drop]
  have h := RepOL.append h1 (show RepOL R (y :: xs.drop (n + 1)) ((us.drop (n * sz)).take sz ++ us.drop (n * sz + sz)) (g2 ++ g3) from ⟨_, _, _, _, rfl, rfl, h2, h3⟩)
  rw [← e1, ← e2] at h
  exact h

/-- A deep row is put together. -/
theorem shut_good (h : Good W M0 S hdr inn M a w) {b : Nat} {et : TypeId} {R : RTy} {xs ys : List R.den} {op : Option (Nat × List Cell)} {fz : Nat} {ids : List Nat} {v : Value} (hb : lk S.heap b = some (some (.deep et R xs op fz))) (hf : fz ≠ 1) (hv : hdr b = some v) (hs : shutB S.heap R xs op fz = some (ys, ids)) (hn : (b :: ids).Nodup) :
    ∃ gs, (∀ hdr', RepBlk w M hdr' W.fresh (.deep et R ys none fz) v gs) ∧ (∀ g ∈ gs, ∃ c ∈ b :: ids, g ∈ inn c ∧ ∃ C, lk S.heap c = some (some C)) := by
  obtain ⟨v0, hv0, hB⟩ := h.hp b _ hb
  rw [hv] at hv0; cases hv0
  unfold shutB at hs
  split at hs
  · cases hs
    exact ⟨inn b, fun hdr' => hB.deepNone, fun g hg => ⟨b, by simp, hg, _, hb⟩⟩
  · rename_i n cs
    obtain ⟨y, hy, hs⟩ := Option.map_eq_some_iff.1 hs
    cases hs
    rcases hB with ⟨_, e, _⟩ | ⟨g, cap, vs, gi, e1, e2, hnd, k1, k2, k3, k4, k5, k6, k7⟩
    · cases e
    obtain ⟨d1, d2, g1, g2, d3, d4, d5, d6⟩ := k6
    obtain ⟨q1, q2⟩ := takeE_rep h.rows (x := y.1) (ids := y.2) hy d5
    have hids := (List.nodup_cons.1 hn).2
    have hbn := (List.nodup_cons.1 hn).1
    have hlive : ∀ c ∈ y.2, ∃ C, lk S.heap c = some (some C) := fun c hc => by
      obtain ⟨C, h1, _⟩ := q2 c hc; exact ⟨C, h1⟩
    have hni := h.nodupI hids hlive
    have hbi : ∀ g', g' ∈ inn b → g' ∉ y.2.flatMap inn := fun g' hg hm => by
      obtain ⟨c, hc, hgc⟩ := List.mem_flatMap.1 hm
      obtain ⟨C, hC⟩ := hlive c hc
      exact h.sep b c _ C g' (fun e => hbn (by rw [e]; exact hc)) hb hC hg hgc
    have hin : ∀ g' ∈ y.2.flatMap inn, W.fresh fz g' ∧ ∀ p, M p → p.block ≠ g' := fun g' hm => by
      obtain ⟨c, hc, hgc⟩ := List.mem_flatMap.1 hm
      obtain ⟨C, hC, hCf⟩ := q2 c hc
      obtain ⟨u, hu, hr⟩ := h.hp c C hC
      have h1 := (hr.lt hgc).2
      rw [hCf] at h1
      refine ⟨h1.outer, fun p hp e => ?_⟩
      have h2 := (hr.seen p hp (by rw [e]; exact hgc)).1
      rw [hCf] at h2
      rcases inner_half fz with ⟨h3, h4⟩ | ⟨h3, h4, _⟩
      · rw [h4] at h2; exact hf h2
      · omega
    have hmem : ∀ g', g' ∈ g :: (g1 ++ (y.2.flatMap inn ++ g2)) → g' ∈ inn b ∨ g' ∈ y.2.flatMap inn := fun g' hg' => by
      rw [e2, d3]
      simp only [List.mem_cons, List.mem_append] at hg' ⊢
      rcases hg' with h | h | h | h <;> simp [h]
    refine ⟨g :: (g1 ++ (y.2.flatMap inn ++ g2)), fun hdr' => .inr ⟨g, cap, vs, g1 ++ (y.2.flatMap inn ++ g2), by rw [List.length_set]; exact e1, rfl, ?_, fun g' hg' => ?_, k2, by rw [List.length_set]; exact k3, k4, k5, ?_, fun p hp hm => ?_⟩, fun g' hg' => ?_⟩
    · rw [e2, d3] at hnd
      have h0 := List.nodup_cons.1 hnd
      have h1 := List.nodup_append.1 h0.2
      have hb1 : ∀ {g'}, g' = g ∨ g' ∈ g1 ∨ g' ∈ g2 → g' ∉ y.2.flatMap inn := fun {g'} hg' => hbi g' (by
        rw [e2, d3]; simp only [List.mem_cons, List.mem_append]; exact hg')
      refine List.nodup_cons.2 ⟨fun hm => ?_, List.nodup_append.2 ⟨h1.1, List.nodup_append.2 ⟨hni, h1.2.1, fun x hx z hz e => ?_⟩, fun x hx z hz e => ?_⟩⟩
      · rcases List.mem_append.1 hm with hm | hm
        · exact h0.1 (List.mem_append.2 (.inl hm))
        · rcases List.mem_append.1 hm with hm | hm
          · exact hb1 (.inl rfl) hm
          · exact h0.1 (List.mem_append.2 (.inr hm))
      · subst e
        exact hb1 (.inr (.inr hz)) hx
      · subst e
        rcases List.mem_append.1 hz with hz | hz
        · exact hb1 (.inr (.inl hx)) hz
        · exact h1.2.2 x hx x hz rfl
    · rcases hmem g' hg' with h1 | h1
      · exact k1 g' h1
      · exact (hin g' h1).1
    · show RepOL (RepO w M R) _ _ _
      rw [List.length_set]
      exact RepOL.join d1 d4 q1 d6
    · rcases hmem _ hm with h1 | h1
      · exact k7 p hp h1
      · exact absurd rfl ((hin _ h1).2 p hp)
    · rcases hmem g' hg' with h1 | h1
      · exact ⟨b, by simp, h1, _, hb⟩
      · obtain ⟨c, hc, hgc⟩ := List.mem_flatMap.1 h1
        exact ⟨c, by simp [hc], hgc, hlive c hc⟩

theorem one_deep (h : Good W M0 S hdr inn M a w) {t fl : Nat} {et : TypeId} {R : RTy} {d : List R.den} {S1 : St} {hdr1 : Nat → Option Value} {inn1 : Nat → List Nat} {used : List Nat} (g1 : Good W M0 S1 hdr1 inn1 M a w) (hu : Used S inn inn1 used) (hp : projDeep S t fl et R = some d)
    (hn : (used ++ projIds S [(t, .deep fl et R)]).Nodup) (hnew : lk S1.heap (4 * t + 3) = none) : OneOut W M0 S hdr hdr1 inn M a w t (.deep fl et R) d S1 used := by
  unfold OneOut
  unfold projDeep at hp
  have hrep := h.tm t
  split at hp
  · rename_i hv
    split at hp
    case isFalse => cases hp
    rename_i hfl
    subst hfl
    cases hp
    rw [hv] at hrep
    have hv0 : a.tmps.getD t undef = .slice none 0 0 := hrep
    obtain ⟨hdr', inn', k1, k2, k3, _⟩ := g1.addBlk (t := t) (id := 4 * t + 3) (x := .v (.one (.row (4 * t + 3)))) (B := .deep et R [] none 0) (v := .slice none 0 0) (gs := []) hnew (fun h => by cases h) (fun _ _ => .inl ⟨rfl, rfl, rfl, rfl⟩) (fun _ _ _ _ hg => by cases hg)
      (fun hdr' h0 => ⟨by rw [hv0]; exact h0, by rw [hv0]; exact ⟨_, _, _, rfl⟩⟩)
    exact ⟨hdr', inn', k1, hu.more k2 (fun g h => by cases h), fun b hb => by show (if _ then _ else _) = _; rw [if_neg (fun e => hb 0 (by omega))], k3, fun fl et R h => by cases h⟩
  · obtain ⟨q, hq, hd⟩ := Option.map_eq_some_iff.1 hp
    have hids : projIds S [(t, Desc.deep fl et R)] = q.1 :: q.2.2 := by simp [projIds, hq]
    rw [hids] at hn ⊢
    unfold deepAt at hq
    split at hq
    · rename_i c hv
      split at hq
      · rename_i et' R' xs op fz hb
        split at hq
        · rename_i hT
          split at hq
          · rename_i he
            obtain ⟨y, hy, hq⟩ := Option.map_eq_some_iff.1 hq
            obtain ⟨he, hfl, hf1⟩ := he
            subst hT; subst he; subst hfl
            cases hq
            subst hd
            dsimp only at hn ⊢
            rw [hv] at hrep
            have hb' := blkAt_some hb
            obtain ⟨hh, hsl⟩ := hrep
            have hn2 := (List.nodup_append.1 hn).2.1
            obtain ⟨gs, r1, r2⟩ := shut_good h hb' hf1 hh hy hn2
            have hcu : ∀ c' ∈ c :: y.2, c' ∉ used := fun c' hc' hm => by
              rw [List.nodup_append] at hn
              exact hn.2.2 c' hm c' hc' rfl
            obtain ⟨hdr', inn', k1, k2, k3, _⟩ := g1.addBlk (t := t) (id := 4 * t + 3) (x := .v (.one (.row (4 * t + 3)))) (B := .deep et' R' y.1 none fz) (v := a.tmps.getD t undef) (gs := gs) hnew (fun hf hf2 => (show some _ = _ from hh.symm).trans (h.ag c (.deep et' R' xs op fz) hb' hf hf2)) (fun hdr' _ => r1 hdr')
              (fun b' B' g hb2 hg => by
                obtain ⟨c', m1, m2, C, m3⟩ := r2 g hg
                exact hu.sep h m3 (hcu c' m1) b' B' g hb2 m2)
              (fun hdr' h0 => ⟨h0, hsl⟩)
            exact ⟨hdr', inn', k1, hu.more k2 r2, fun b hb => by show (if _ then _ else _) = _; rw [if_neg (fun e => hb 0 (by omega))], k3, fun fl et R h => by cases h⟩
          · cases hq
        · cases hq
      · cases hq
    · cases hq

theorem one_box (h : Good W M0 S hdr inn M a w) {t fl : Nat} {et : TypeId} {T : Ty} {d : T.den} {S1 : St} {hdr1 : Nat → Option Value} {inn1 : Nat → List Nat} {used : List Nat} (g1 : Good W M0 S1 hdr1 inn1 M a w) (hu : Used S inn inn1 used) (hp : projBox S t fl et T = some d)
    (hn : (used ++ projIds S [(t, .box fl et T)]).Nodup) (hnew : lk S1.heap (4 * t + 3) = none) : OneOut W M0 S hdr hdr1 inn M a w t (.box fl et T) d S1 used := by
  unfold OneOut
  unfold projBox at hp
  have hrep := h.tm t
  split at hp
  · rename_i c hv
    split at hp
    · rename_i et' cs fz hb
      split at hp
      · rename_i he
        obtain ⟨he, hfl, hf1⟩ := he
        subst he; subst hfl
        rw [hv] at hrep
        have hb' := blkAt_some hb
        obtain ⟨v0, hv0, hB⟩ := h.hp c _ hb'
        obtain ⟨g0, hh, hval⟩ := hrep
        rw [hh] at hv0
        injection hv0 with hv0
        subst hv0
        obtain ⟨g', vs, e1, e2, k1, k2, k3, k4⟩ := hB
        simp at e1; subst e1
        have hD := takeAll_nil hp k3
        have hids : projIds S [(t, Desc.box fz et' T)] = [c] := by simp [projIds, hv]
        rw [hids] at hn ⊢
        have hcu : c ∉ used := fun hm => by
          rw [List.nodup_append] at hn
          exact hn.2.2 c hm c (by simp) rfl
        obtain ⟨hdr', inn', l1, l2, l3, _⟩ := g1.addBlk (t := t) (id := 4 * t + 3) (x := .v (.one (.ptr (4 * t + 3) 0))) (B := .cells et' (cellsOf T d) fz) (v := .pointer (some ⟨g0, 0, none⟩)) (gs := inn c) hnew (fun hf hf2 => by have := h.ag c _ hb' hf hf2; rw [hh] at this; exact this) (fun _ _ => ⟨g0, vs, rfl, e2, k1, k2, hD.cells, fun p hp e => absurd (k4 p hp e).1 hf1⟩)
          (hu.sep h hb' hcu)
          (fun hdr' h0 => ⟨g0, h0, hval⟩)
        exact ⟨hdr', inn', l1, hu.more l2 (fun g hg => ⟨c, by simp, hg, _, hb'⟩), fun b hb => by show (if _ then _ else _) = _; rw [if_neg (fun e => hb 0 (by omega))], l3, fun fl et R h => by cases h⟩
      · cases hp
    · cases hp
  · cases hp

/-- A row of a box that is laid out already. -/
theorem one_same (h : Good W M0 S hdr inn M a w) {t t' k : Nat} {R : RTy} {d : Unit} {S1 : St} {hdr1 : Nat → Option Value} {inn1 : Nat → List Nat} {used : List Nat} (g1 : Good W M0 S1 hdr1 inn1 M a w) (hu : Used S inn inn1 used) (hp : projSame S t t' R k = some d)
    (hd : ∀ b, sameAt S t' R k = some b → hdr1 (nestId t' k) = hdr b) : OneOut W M0 S hdr hdr1 inn M a w t (.same t' R k) d S1 used := by
  unfold projSame at hp
  have hrep := h.tm t
  split at hp
  · rename_i b b' hv hb'
    split at hp
    · rename_i hbb
      subst hbb
      rw [hv] at hrep
      obtain ⟨k1, k2⟩ := hrep
      exact ⟨hdr1, inn1, g1.setT (v := .v (.one (.row (nestId t' k)))) ⟨by rw [hd b hb']; exact k1, k2⟩, hu.more (gs := []) (fun b g h => .inr h) (fun g h => by cases h), fun b _ => rfl, fun _ _ h => h, fun fl et R h => by cases h⟩
    · cases hp
  · cases hp

/-- The rows in a box, laid out anew. -/
theorem add_rows (h : Good W M0 S hdr inn M a w) {t : Nat} : ∀ {R : RTy} {cs r : List Cell} {x : R.den} {ids : List (Option Nat)} {vs : List Value} {S1 : St} {hdr1 : Nat → Option Value} {inn1 : Nat → List Nat} {used : List Nat} {k : Nat}, takeN S.heap R cs = some (x, r, ids) → All2 (RepC w M hdr) cs vs → Good W M0 S1 hdr1 inn1 M a w → Used S inn inn1 used →
    (used ++ ids.filterMap fun b => b).Nodup → (∀ j, k ≤ j → lk S1.heap (nestId t j) = none) →
    ∃ hdr' inn', Good W M0 ⟨S1.tmps, (nestCells t R x k).2.1 ++ S1.heap⟩ hdr' inn' M a w ∧ Used S inn inn' (used ++ ids.filterMap fun b => b) ∧ (∀ b u, hdr1 b = some u → hdr' b = some u) ∧
      (∃ v1 v2, vs = v1 ++ v2 ∧ All2 (RepC w M hdr') (nestCells t R x k).1 v1 ∧ All2 (RepC w M hdr) r v2) ∧ (nestCells t R x k).2.2 = k + ids.length ∧ (∀ j b, ids[j]? = some (some b) → hdr' (nestId t (k + j)) = hdr b ∧ ∃ v, hdr b = some v) ∧
      (∀ b, (∀ j, k ≤ j → b ≠ nestId t j) → lk ((nestCells t R x k).2.1 ++ S1.heap) b = lk S1.heap b) ∧ (∀ j, k + ids.length ≤ j → lk ((nestCells t R x k).2.1 ++ S1.heap) (nestId t j) = none) := by
  have nid : ∀ {i j : Nat}, nestId t i = nestId t j → i = j := fun {i j} e => by unfold nestId at e; omega
  -- one block, and a cell that names it
  have one : ∀ {cs : List Cell} {vs : List Value} {S1 : St} {hdr1 : Nat → Option Value} {inn1 : Nat → List Nat} {used gs : List Nat} {k : Nat} {B : Blk} {c : Cell} {v : Value} {oc : Option Nat}, Good W M0 S1 hdr1 inn1 M a w → Used S inn inn1 used → (∀ j, k ≤ j → lk S1.heap (nestId t j) = none) → B.fz = 0 →
      (∀ hdr', RepBlk w M hdr' W.fresh B v gs) → (∀ hdr' : Nat → Option Value, hdr' (nestId t k) = some v → RepC w M hdr' c v) → All2 (RepC w M hdr) cs vs → (∀ b, oc = some b → hdr b = some v) →
      (∀ b' B' g, lk S1.heap b' = some (some B') → g ∈ gs → g ∉ inn1 b') → (∀ g ∈ gs, ∃ c ∈ [oc].filterMap (fun b => b), g ∈ inn c ∧ ∃ C, lk S.heap c = some (some C)) →
      ∃ hdr' inn', Good W M0 ⟨S1.tmps, (nestId t k, some B) :: S1.heap⟩ hdr' inn' M a w ∧ Used S inn inn' (used ++ [oc].filterMap fun b => b) ∧ (∀ b u, hdr1 b = some u → hdr' b = some u) ∧
        (∃ v1 v2, v :: vs = v1 ++ v2 ∧ All2 (RepC w M hdr') [c] v1 ∧ All2 (RepC w M hdr) cs v2) ∧ (∀ (j : Nat) b, [oc][j]? = some (some b) → hdr' (nestId t (k + j)) = hdr b ∧ ∃ v, hdr b = some v) ∧
        (∀ b, (∀ j, k ≤ j → b ≠ nestId t j) → lk ((nestId t k, some B) :: S1.heap) b = lk S1.heap b) ∧ (∀ j, k + 1 ≤ j → lk ((nestId t k, some B) :: S1.heap) (nestId t j) = none) := by
    intro cs vs S1 hdr1 inn1 used gs k B c v oc g1 hu hnew hf hB hsl hcs hoc hsep hgs
    obtain ⟨hdr', inn', k1, k2, k3, k4⟩ := g1.addBlk (t := S1.tmps.length) (id := nestId t k) (x := .undef) (B := B) (v := v) (gs := gs) (hnew k (Nat.le_refl _)) (fun h => by omega) (fun hdr' _ => hB hdr') hsep (fun _ _ => trivial)
    rw [List.set_eq_of_length_le (Nat.le_refl _)] at k1
    refine ⟨hdr', inn', k1, hu.more k2 hgs, k3, ⟨[v], vs, rfl, .one (hsl _ k4), hcs⟩, fun j b hj => ?_, fun b hb => ?_, fun j hj => ?_⟩
    · cases j with
      | zero =>
        simp at hj
        have := hoc b hj
        exact ⟨by rw [Nat.add_zero, k4, this], v, this⟩
      | succ j => simp at hj
    · rw [lk_cons, if_neg (Ne.symm (hb k (Nat.le_refl _)))]
    · rw [lk_cons, if_neg (fun e => by have := nid e; omega)]
      exact hnew j (by omega)
  intro R
  induction R with
  | d T =>
    intro cs r x ids vs S1 hdr1 inn1 used k hk hc g1 hu hn hnew
    unfold takeN at hk
    obtain ⟨y, hy, hk⟩ := Option.map_eq_some_iff.1 hk
    cases hk
    have hD := takeAll_nil hy hc.take
    exact ⟨hdr1, inn1, g1, by simpa using hu, fun _ _ h => h, ⟨vs.take T.size, vs.drop T.size, (List.take_append_drop _ _).symm, hD.cells, hc.drop⟩, rfl, fun j b hj => (by simp at hj), fun b _ => rfl, fun j hj => hnew j (by simpa using hj)⟩
  | row rt T =>
    intro cs r x ids vs S1 hdr1 inn1 used k hk hc g1 hu hn hnew
    unfold takeN at hk
    split at hk
    · cases hk
      obtain ⟨v, us, rfl, h1, h2⟩ := hc.cons'
      have hv : v = .slice none 0 0 := h1
      subst hv
      obtain ⟨hdr', inn', a1, a2, a3, a4, a5, a6, a7⟩ := one (oc := none) (c := .row (nestId t k)) (B := .row rt T [] 0) (gs := []) g1 hu hnew rfl (fun _ => .inl ⟨rfl, rfl, rfl⟩) (fun _ hh => ⟨hh, _, _, _, rfl⟩) h2 (fun b h => by cases h) (fun _ _ _ _ h => by cases h) (fun g h => by cases h)
      exact ⟨hdr', inn', a1, a2, a3, a4, rfl, a5, a6, a7⟩
    · rename_i c r'
      split at hk
      · rename_i t' T' xs fz hb
        split at hk
        · rename_i hT
          split at hk
          · rename_i ht
            cases hk
            obtain ⟨ht, hfz⟩ := ht
            subst hT; subst ht; subst hfz
            obtain ⟨v, us, rfl, h1, h2⟩ := hc.cons'
            have hb' := blkAt_some hb
            obtain ⟨v0, hv0, hB⟩ := h.hp c _ hb'
            obtain ⟨hh, hsl⟩ := h1
            have hv0' : v = v0 := by rw [hh] at hv0; exact Option.some.inj hv0
            subst hv0'
            have hcu : c ∉ used := fun hm => by
              rw [List.nodup_append] at hn
              exact hn.2.2 c hm c (by simp) rfl
            obtain ⟨hdr', inn', a1, a2, a3, a4, a5, a6, a7⟩ := one (oc := some c) (c := .row (nestId t k)) (B := .row t' T' xs 0) (gs := inn c) g1 hu hnew rfl (fun _ => hB) (fun _ hh => ⟨hh, hsl⟩) h2 (fun b h => by cases h; exact hh) (hu.sep h hb' hcu) (fun g hg => ⟨c, by simp, hg, _, hb'⟩)
            exact ⟨hdr', inn', a1, a2, a3, a4, rfl, a5, a6, a7⟩
          · cases hk
        · cases hk
      · cases hk
    · cases hk
  | deep rt T _ =>
    intro cs r x ids vs S1 hdr1 inn1 used k hk hc g1 hu hn hnew
    unfold takeN at hk
    split at hk
    · cases hk
      obtain ⟨v, us, rfl, h1, h2⟩ := hc.cons'
      have hv : v = .slice none 0 0 := h1
      subst hv
      obtain ⟨hdr', inn', a1, a2, a3, a4, a5, a6, a7⟩ := one (oc := none) (c := .row (nestId t k)) (B := .deep rt T [] none 0) (gs := []) g1 hu hnew rfl (fun _ => .inl ⟨rfl, rfl, rfl, rfl⟩) (fun _ hh => ⟨hh, _, _, _, rfl⟩) h2 (fun b h => by cases h) (fun _ _ _ _ h => by cases h) (fun g h => by cases h)
      exact ⟨hdr', inn', a1, a2, a3, a4, rfl, a5, a6, a7⟩
    · rename_i c r'
      split at hk
      · rename_i t' T' xs fz hb
        split at hk
        · rename_i hT
          split at hk
          · rename_i ht
            cases hk
            obtain ⟨ht, hfz⟩ := ht
            subst hT; subst ht; subst hfz
            obtain ⟨v, us, rfl, h1, h2⟩ := hc.cons'
            have hb' := blkAt_some hb
            obtain ⟨v0, hv0, hB⟩ := h.hp c _ hb'
            obtain ⟨hh, hsl⟩ := h1
            have hv0' : v = v0 := by rw [hh] at hv0; exact Option.some.inj hv0
            subst hv0'
            have hcu : c ∉ used := fun hm => by
              rw [List.nodup_append] at hn
              exact hn.2.2 c hm c (by simp) rfl
            obtain ⟨hdr', inn', a1, a2, a3, a4, a5, a6, a7⟩ := one (oc := some c) (c := .row (nestId t k)) (B := .deep t' T' xs none 0) (gs := inn c) g1 hu hnew rfl (fun _ => hB.deepNone) (fun _ hh => ⟨hh, hsl⟩) h2 (fun b h => by cases h; exact hh) (hu.sep h hb' hcu) (fun g hg => ⟨c, by simp, hg, _, hb'⟩)
            exact ⟨hdr', inn', a1, a2, a3, a4, rfl, a5, a6, a7⟩
          · cases hk
        · cases hk
      · cases hk
    · cases hk
  | mp fr rt T =>
    intro cs r x ids vs S1 hdr1 inn1 used k hk hc g1 hu hn hnew
    unfold takeN at hk
    split at hk
    · split at hk
      · cases hk
        obtain ⟨v, us, rfl, h1, h2⟩ := hc.cons'
        have hv : v = .map none := h1
        subst hv
        obtain ⟨hdr', inn', a1, a2, a3, a4, a5, a6, a7⟩ := one (oc := none) (c := .mp (nestId t k)) (B := .obj (.mp true rt T) [] 0) (gs := []) g1 hu hnew rfl (fun _ => ⟨.inl ⟨rfl, rfl, rfl, rfl⟩, fun g hg => (by cases hg), fun p _ hm => (by cases hm)⟩) (fun _ hh => ⟨hh, none, rfl⟩) h2 (fun b h => by cases h) (fun _ _ _ _ h => by cases h) (fun g h => by cases h)
        exact ⟨hdr', inn', a1, a2, a3, a4, rfl, a5, a6, a7⟩
      · cases hk
    · rename_i c r'
      split at hk
      · rename_i o' x0 fz hb
        split at hk
        · rename_i hT
          split at hk
          · rename_i hfz
            cases hk
            subst hT; subst hfz
            obtain ⟨v, us, rfl, h1, h2⟩ := hc.cons'
            have hb' := blkAt_some hb
            obtain ⟨v0, hv0, hB⟩ := h.hp c _ hb'
            obtain ⟨hh, hsl⟩ := h1
            have hv0' : v = v0 := by rw [hh] at hv0; exact Option.some.inj hv0
            subst hv0'
            have hcu : c ∉ used := fun hm => by
              rw [List.nodup_append] at hn
              exact hn.2.2 c hm c (by simp) rfl
            obtain ⟨hdr', inn', a1, a2, a3, a4, a5, a6, a7⟩ := one (oc := some c) (c := .mp (nestId t k)) (B := .obj (.mp fr rt T) x0 0) (gs := inn c) g1 hu hnew rfl (fun _ => hB) (fun _ hh => ⟨hh, hsl⟩) h2 (fun b h => by cases h; exact hh) (hu.sep h hb' hcu) (fun g hg => ⟨c, by simp, hg, _, hb'⟩)
            exact ⟨hdr', inn', a1, a2, a3, a4, rfl, a5, a6, a7⟩
          · cases hk
        · cases hk
      · cases hk
    · cases hk
  | box t T =>
    intro cs r x ids vs S1 hdr1 inn1 used k hk
    unfold takeN at hk
    cases hk
  | pair A B ihA ihB =>
    intro cs r x ids vs S1 hdr1 inn1 used k hk hc g1 hu hn hnew
    unfold takeN at hk
    obtain ⟨y, hy, hk⟩ := Option.bind_eq_some_iff.1 hk
    obtain ⟨z, hz, hk⟩ := Option.bind_eq_some_iff.1 hk
    cases hk
    rw [List.filterMap_append, ← List.append_assoc] at hn
    have hn1 := (List.nodup_append.1 hn).1
    obtain ⟨hdr2, inn2, a1, a2, a3, ⟨v1, v2, rfl, a4, a5⟩, a6, a7, a8, a9⟩ := ihA (x := y.1) (r := y.2.1) (ids := y.2.2) (k := k) hy hc g1 hu hn1 hnew
    obtain ⟨hdr3, inn3, b1, b2, b3, ⟨v3, v4, rfl, b4, b5⟩, b6, b7, b8, b9⟩ := ihB (x := z.1) (r := z.2.1) (ids := z.2.2) (k := (nestCells t A y.1 k).2.2) hz a5 a1 a2 hn (fun j hj => a9 j (by rw [a6] at hj; exact hj))
    refine ⟨hdr3, inn3, ?_, by rw [List.filterMap_append, ← List.append_assoc]; exact b2, fun b u hb => b3 b u (a3 b u hb), ⟨v1 ++ v3, v4, by simp, (a4.mono fun _ _ h => h.keep (fun _ _ => rfl) (fun _ h => h) b3).append b4, b5⟩, ?_, fun j b hj => ?_, fun b hb => ?_, fun j hj => ?_⟩
    · show Good W M0 ⟨S1.tmps, ((nestCells t B z.1 _).2.1 ++ (nestCells t A y.1 k).2.1) ++ S1.heap⟩ hdr3 inn3 M a w
      rw [List.append_assoc]; exact b1
    · show (nestCells t B z.1 _).2.2 = _
      rw [b6, a6, List.length_append]; omega
    · by_cases hlt : j < y.2.2.length
      · rw [List.getElem?_append_left hlt] at hj
        obtain ⟨c1, v, c2⟩ := a7 j b hj
        exact ⟨by rw [← c1] at c2; rw [b3 _ _ c2, ← c2, c1], v, by rw [← c1] at c2; rw [← c1]; exact c2⟩
      · rw [List.getElem?_append_right (by omega)] at hj
        have := b7 _ b hj
        rw [a6] at this
        rw [show k + j = k + y.2.2.length + (j - y.2.2.length) by omega]
        exact this
    · show lk (((nestCells t B z.1 _).2.1 ++ (nestCells t A y.1 k).2.1) ++ S1.heap) b = _
      rw [List.append_assoc, b8 b (fun j hj => hb j (by rw [a6] at hj; omega)), a8 b hb]
    · show lk (((nestCells t B z.1 _).2.1 ++ (nestCells t A y.1 k).2.1) ++ S1.heap) _ = _
      rw [List.append_assoc]
      refine b9 j ?_
      rw [a6]
      simp only [List.length_append] at hj
      omega

theorem one_boxR (h : Good W M0 S hdr inn M a w) {t fl : Nat} {et : TypeId} {R : RTy} {d : R.den} {S1 : St} {hdr1 : Nat → Option Value} {inn1 : Nat → List Nat} {used : List Nat} (g1 : Good W M0 S1 hdr1 inn1 M a w) (hu : Used S inn inn1 used) (hp : (nestAt S t fl et R).map (·.2.1) = some d)
    (hn : (used ++ projIds S [(t, .boxR fl et R)]).Nodup) (hnew : ∀ k, lk S1.heap (4 * (t + 512 * k) + 3) = none) : OneOut W M0 S hdr hdr1 inn M a w t (.boxR fl et R) d S1 used := by
  unfold OneOut
  obtain ⟨q, hq, hd⟩ := Option.map_eq_some_iff.1 hp
  have hids : projIds S [(t, Desc.boxR fl et R)] = q.1 :: q.2.2.filterMap (fun b => b) := by simp [projIds, hq]
  rw [hids] at hn ⊢
  have hq' := hq
  unfold nestAt at hq
  have hrep := h.tm t
  split at hq
  · rename_i c hv
    split at hq
    · rename_i et' cs fz hb
      split at hq
      · rename_i he
        obtain ⟨y, hy, hq⟩ := Option.bind_eq_some_iff.1 hq
        split at hq
        · rename_i hy2
          cases hq
          obtain ⟨he, hfz, hf1⟩ := he
          subst he; subst hfz
          dsimp only at hd hn ⊢
          subst hd
          rw [hv] at hrep
          have hb' := blkAt_some hb
          obtain ⟨v0, hv0, hB⟩ := h.hp c _ hb'
          obtain ⟨g0, hh, hval⟩ := hrep
          rw [hh] at hv0
          injection hv0 with hv0
          subst hv0
          obtain ⟨g', vs, e1, eg, k1, k2, k3, k4⟩ := hB
          simp at e1; subst e1
          have hcu : c ∉ used := fun hm => by
            rw [List.nodup_append] at hn
            exact hn.2.2 c hm c (by simp) rfl
          have hn1 : (used ++ y.2.2.filterMap fun b => b).Nodup := hn.sublist (List.Sublist.append (List.Sublist.refl _) (List.sublist_cons_self _ _))
          have hci : c ∉ y.2.2.filterMap (fun b => b) := by
            rw [List.nodup_append, List.nodup_cons] at hn
            exact hn.2.1.1
          obtain ⟨hdr2, inn2, a1, a2, a3, ⟨v1, v2, e2, a4, a5⟩, a6, a7, a8, a9⟩ := add_rows h (t := t) (x := y.1) (r := y.2.1) (ids := y.2.2) (k := 0) hy k3 g1 hu hn1 (fun j _ => by have := hnew (j + 1); unfold nestId; exact this)
          rw [hy2] at a5
          cases a5.nil'
          rw [List.append_nil] at e2
          have hbox : lk ((nestCells t R y.1 0).2.1 ++ S1.heap) (4 * t + 3) = none := by
            rw [a8 (4 * t + 3) (fun j _ => by unfold nestId; omega)]
            exact hnew 0
          have hcu2 : c ∉ used ++ y.2.2.filterMap fun b => b := fun hm => by
            rcases List.mem_append.1 hm with hm | hm
            · exact hcu hm
            · exact hci hm
          obtain ⟨hdr', inn', l1, l2, l3, l4⟩ := a1.addBlk (t := t) (id := 4 * t + 3) (x := .v (.one (.ptr (4 * t + 3) 0))) (B := .cells et' (nestCells t R y.1 0).1 fz) (v := .pointer (some ⟨g0, 0, none⟩)) (gs := inn c) hbox (fun hf hf2 => by
            have := h.ag c _ hb' hf hf2
            rw [hh] at this
            exact this)
            (fun hdr3 h3 => ⟨g0, vs, rfl, eg, k1, k2, by rw [e2]; exact a4.mono fun _ _ h => h.keep (fun _ _ => rfl) (fun _ h => h) h3, fun p hp e => absurd (k4 p hp e).1 hf1⟩)
            (a2.sep h hb' hcu2)
            (fun hdr' h0 => ⟨g0, h0, hval⟩)
          refine ⟨hdr', inn', l1, fun b g hb2 => ?_, fun b hb2 => ?_, fun b u hb2 => l3 b u (a3 b u hb2), fun fl2 et2 R2 hR k b hs => ?_⟩
          · rcases l2 b g hb2 with hb2 | hb2
            · exact ⟨c, by simp, hb2, _, hb'⟩
            · obtain ⟨b0, m1, m2⟩ := a2 b g hb2
              refine ⟨b0, ?_, m2⟩
              rcases List.mem_append.1 m1 with m1 | m1
              · exact List.mem_append.2 (.inl m1)
              · exact List.mem_append.2 (.inr (List.mem_cons_of_mem _ m1))
          · show (if _ then _ else _) = _
            rw [if_neg (fun e => hb2 0 (by omega))]
            exact a8 b (fun j _ => by have := hb2 (j + 1); unfold nestId; exact this)
          · cases hR
            unfold sameAt at hs
            rw [hv] at hs
            simp only [hb, hy] at hs
            split at hs
            · rename_i b2 hb2
              cases hs
              obtain ⟨c1, v, c2⟩ := a7 k b hb2
              rw [Nat.zero_add] at c1
              rw [← c1] at c2
              rw [l3 _ _ c2, ← c2, c1]
            · cases hs
        · cases hq
      · cases hq
    · cases hq
  · cases hq

theorem row_que {hdr' : Nat → Option Value} {base : Nat → Nat → Prop} {t : TypeId} {e : Ty} {xs : List e.den} {v : Value} {gs : List Nat} (h : RepBlk w M hdr base (.row t e xs 0) v gs) : RepBlk w M hdr' base (.obj (.que t e) xs 0) v gs := by
  rcases h with ⟨h1, h2, h3⟩ | ⟨g, cap, vs, h1, h2, h3, h4, h5, h6, h7, h8, h9⟩
  · exact ⟨⟨xs, rfl, .inl ⟨h1, h2, h3⟩⟩, fun g hg => (by rw [h3] at hg; cases hg), fun p _ hm => (by rw [h3] at hm; cases hm)⟩
  · refine ⟨⟨xs, rfl, .inr ⟨g, 0, cap, vs, h1, h2, h4, h5, h6, by omega, by simpa using h8⟩⟩, fun g' hg => ?_, fun p hp hm => ?_⟩
    · rw [h2, List.mem_singleton] at hg; subst hg; exact h3
    · rw [h2, List.mem_singleton] at hm
      exact (h9 p hp hm).1
theorem one_que (h : Good W M0 S hdr inn M a w) {t : Nat} {qt : TypeId} {qe : Ty} {d : (OK.que qt qe).den} {S1 : St} {hdr1 : Nat → Option Value} {inn1 : Nat → List Nat} {used : List Nat} (g1 : Good W M0 S1 hdr1 inn1 M a w) (hu : Used S inn inn1 used) (hp : projQue S t (.que qt qe) = some d)
    (hn : (used ++ projIds S [(t, .obj (.que qt qe))]).Nodup) (hnew : lk S1.heap (4 * t + 3) = none) : OneOut W M0 S hdr hdr1 inn M a w t (.obj (.que qt qe)) d S1 used := by
  unfold OneOut
  unfold projQue at hp
  have hrep := h.tm t
  split at hp
  · rename_i c hv
    have hids : projIds S [(t, Desc.obj (.que qt qe))] = [c] := by simp [projIds, hv]
    rw [hids] at hn ⊢
    have hcu : c ∉ used := fun hm => by
      rw [List.nodup_append] at hn
      exact hn.2.2 c hm c (by simp) rfl
    rw [hv] at hrep
    obtain ⟨hh, hsl⟩ := hrep
    have main : ∀ {C : Blk} {v0 : Value}, lk S.heap c = some (some C) → hdr c = some v0 → (∀ hdr', RepBlk w M hdr' W.fresh (.obj (.que qt qe) d 0) v0 (inn c)) →
        ∃ hdr' inn', Good W M0 (embOne t (.obj (.que qt qe)) d S1) hdr' inn' M a w ∧ Used S inn inn' (used ++ [c]) ∧ (∀ b, (∀ k, b ≠ 4 * (t + 512 * k) + 3) → lk (embOne t (.obj (.que qt qe)) d S1).heap b = lk S1.heap b) ∧ (∀ b u, hdr1 b = some u → hdr' b = some u) ∧
          ∀ fl et R, Desc.obj (.que qt qe) = .boxR fl et R → ∀ k b, sameAt S t R k = some b → hdr' (nestId t k) = hdr b := by
      intro C v0 hb' hv0 hB
      rw [hh] at hv0
      injection hv0 with hv0
      obtain ⟨hdr', inn', k1, k2, k3, _⟩ := g1.addBlk (t := t) (id := 4 * t + 3) (x := .v (.one (.row (4 * t + 3)))) (B := .obj (.que qt qe) d 0) (v := v0) (gs := inn c) hnew (fun hf => by cases hf) (fun _ _ => hB _)
        (hu.sep h hb' hcu)
        (fun hdr' h0 => ⟨by rw [hv0]; exact h0, hsl⟩)
      exact ⟨hdr', inn', k1, hu.more k2 (fun g hg => ⟨c, by simp, hg, _, hb'⟩), fun b hb => by show (if _ then _ else _) = _; rw [if_neg (fun e => hb 0 (by omega))], k3, fun fl et R h => by cases h⟩
    split at hp
    · rename_i o' x fz hb
      split at hp
      · rename_i ho
        split at hp
        · rename_i hf
          cases hp
          subst ho; subst hf
          have hb' := blkAt_some hb
          obtain ⟨v0, hv0, hB⟩ := h.hp c _ hb'
          exact main hb' hv0 fun _ => hB
        · cases hp
      · cases hp
    · rename_i t' e' xs fz hb
      split at hp
      · rename_i hf
        subst hf
        unfold rowObj at hp
        dsimp only at hp
        split at hp
        · rename_i he
          split at hp
          · rename_i ht
            cases hp
            subst he; subst ht
            have hb' := blkAt_some hb
            obtain ⟨v0, hv0, hB⟩ := h.hp c _ hb'
            exact main hb' hv0 fun _ => row_que hB
          · cases hp
        · cases hp
      · cases hp
    · cases hp
  · cases hp

theorem one_bld (h : Good W M0 S hdr inn M a w) {t : Nat} {bt be : TypeId} {d : ByteArray} {S1 : St} {hdr1 : Nat → Option Value} {inn1 : Nat → List Nat} {used : List Nat} (g1 : Good W M0 S1 hdr1 inn1 M a w) (hu : Used S inn inn1 used) (hp : projBld S t bt be = some d)
    (hn : (used ++ projIds S [(t, .obj (.bld bt be))]).Nodup) (hnew : lk S1.heap (4 * t + 3) = none) : OneOut W M0 S hdr hdr1 inn M a w t (.obj (.bld bt be)) d S1 used := by
  unfold OneOut
  unfold projBld at hp
  have hrep := h.tm t
  split at hp
  · rename_i c hv
    have hids : projIds S [(t, Desc.obj (.bld bt be))] = [c] := by simp [projIds, hv]
    rw [hids] at hn ⊢
    have hcu : c ∉ used := fun hm => by
      rw [List.nodup_append] at hn
      exact hn.2.2 c hm c (by simp) rfl
    rw [hv] at hrep
    obtain ⟨g, hh, hsl⟩ := hrep
    split at hp
    · rename_i t' e' x fz hb
      split at hp
      · rename_i hf
        obtain ⟨rfl, rfl, rfl⟩ := hf
        cases hp
        have hb' := blkAt_some hb
        obtain ⟨v0, hv0, hB⟩ := h.hp c _ hb'
        rw [hh] at hv0
        cases hv0
        obtain ⟨hdr', inn', k1, k2, k3, _⟩ := g1.addBlk (t := t) (id := 4 * t + 3) (x := .v (.one (.ptr (4 * t + 3) 0))) (B := .obj (.bld t' e') (OK.text x) 0) (v := .pointer (some ⟨g, 0, none⟩)) (gs := inn c) hnew (fun hf => by cases hf) (fun _ _ => hB)
          (hu.sep h hb' hcu)
          (fun hdr' h0 => ⟨g, h0, hsl⟩)
        exact ⟨hdr', inn', k1, hu.more k2 (fun g hg => ⟨c, by simp, hg, _, hb'⟩), fun b hb => by show (if _ then _ else _) = _; rw [if_neg (fun e => hb 0 (by omega))], k3, fun fl et R h => by cases h⟩
      · cases hp
    · cases hp
  · cases hp
/-- A row of the call's own that is kept as one that is not nil is not empty. -/
def NeedOne (S : St) (t : Nat) (D : Desc) : Prop := ∀ rt e b t' e' (xs : List (Ty.den e')) fz, D = .obj (.nrow rt e) → (S.tmps[t]?).getD .undef = .v (.one (.row b)) → blkAt S.heap b = some (.row t' e' xs fz) → xs ≠ []
def NeedOK (S : St) (vs : Vars) : Prop := ∀ x ∈ vs, NeedOne S x.1 x.2
theorem needOneK_some {α : Type} {t : Nat} {D : Desc} {k : Option α} {r : α} (h : needOneK S t D k = some r) : NeedOne S t D ∧ k = some r := by
  unfold needOneK at h
  split at h
  · rename_i rt0 e0
    split at h
    · rename_i b hb
      split at h
      · rename_i t1 e1 xs fz hbk
        rcases br_some h with ⟨_, h⟩ | ⟨hx, h⟩
        · cases h
        · refine ⟨fun rt e b' t' e' xs' fz' _ h1 h2 => ?_, h⟩
          rw [hb] at h1
          cases h1
          rw [hbk] at h2
          cases h2
          intro e
          rw [e] at hx
          cases hx
      · rename_i hbk
        refine ⟨fun rt e b' t' e' xs' fz' _ h1 h2 => ?_, h⟩
        rw [hb] at h1
        cases h1
        exact absurd h2 (hbk _ _ _ _)
    · rename_i hb
      exact ⟨fun rt e b' t' e' xs' fz' _ h1 _ => absurd h1 (hb _), h⟩
  · rename_i hD
    exact ⟨fun rt e b' t' e' xs' fz' h0 _ _ => absurd h0 (hD _ _), h⟩
theorem needK_some {α : Type} : ∀ {vs : Vars} {k : Option α} {r : α}, needK S vs k = some r → NeedOK S vs ∧ k = some r
  | [], k, r, h => ⟨fun x hx => (by cases hx), h⟩
  | x :: vs, k, r, h => by
    unfold needK at h
    obtain ⟨h1, h⟩ := needOneK_some h
    obtain ⟨h2, h⟩ := needK_some h
    refine ⟨fun y hy => ?_, h⟩
    rcases List.mem_cons.1 hy with rfl | hy
    · exact h1
    · exact h2 y hy
theorem row_nrow {hdr' : Nat → Option Value} {base : Nat → Nat → Prop} {t : TypeId} {e : Ty} {xs : List e.den} {v : Value} {gs : List Nat} (hx : xs ≠ []) (h : RepBlk w M hdr base (.row t e xs 0) v gs) : RepBlk w M hdr' base (.obj (.nrow t e) (some xs) 0) v gs := by
  rcases h with ⟨h1, _⟩ | ⟨g, cap, vs, h1, rfl, h3, h4, h5, h6, h7, h8, h9⟩
  · exact absurd h1 hx
  · refine ⟨.inr ⟨xs, g, cap, vs, rfl, h1, rfl, h4, h5, h6, h7, h8⟩, fun g' hg => ?_, fun p hp hm => ?_⟩
    · rw [List.mem_singleton] at hg; subst hg; exact h3
    · rw [List.mem_singleton] at hm; exact (h9 p hp hm).1
theorem one_nrow (h : Good W M0 S hdr inn M a w) {t : Nat} {rt : TypeId} {T : Ty} {d : Option (List T.den)} {S1 : St} {hdr1 : Nat → Option Value} {inn1 : Nat → List Nat} {used : List Nat} (g1 : Good W M0 S1 hdr1 inn1 M a w) (hu : Used S inn inn1 used) (hp : projNrow S t rt T = some d)
    (hN : NeedOne S t (.obj (.nrow rt T))) (hn : (used ++ projIds S [(t, .obj (.nrow rt T))]).Nodup) (hnew : lk S1.heap (4 * t + 3) = none) : OneOut W M0 S hdr hdr1 inn M a w t (.obj (.nrow rt T)) d S1 used := by
  unfold OneOut
  unfold projNrow at hp
  have hrep := h.tm t
  split at hp
  · rename_i hv
    cases hp
    have hids : projIds S [(t, Desc.obj (.nrow rt T))] = [] := by simp [projIds, hv]
    rw [hids] at hn ⊢
    rw [hv] at hrep
    have hrep : a.tmps.getD t undef = .slice none 0 0 := hrep
    obtain ⟨hdr', inn', k1, k2, k3, _⟩ := g1.addBlk (t := t) (id := 4 * t + 3) (x := .v (.one (.row (4 * t + 3)))) (B := .obj (.nrow rt T) none 0) (v := .slice none 0 0) (gs := []) hnew (fun hf => by cases hf)
      (fun _ _ => ⟨.inl ⟨rfl, rfl, rfl⟩, fun g hg => (by cases hg), fun p _ hm => (by cases hm)⟩) (fun _ _ _ _ hg => by cases hg) (fun hdr' h0 => ⟨by rw [hrep]; exact h0, none, 0, 0, hrep⟩)
    exact ⟨hdr', inn', k1, hu.more k2 (fun g hg => by cases hg), fun b hb => by show (if _ then _ else _) = _; rw [if_neg (fun e => hb 0 (by omega))], k3, fun fl et R h => by cases h⟩
  · rename_i c hv
    have hids : projIds S [(t, Desc.obj (.nrow rt T))] = [c] := by simp [projIds, hv]
    rw [hids] at hn ⊢
    have hcu : c ∉ used := fun hm => by
      rw [List.nodup_append] at hn
      exact hn.2.2 c hm c (by simp) rfl
    rw [hv] at hrep
    obtain ⟨hh, hsl⟩ := hrep
    have main : ∀ {C : Blk} {v0 : Value}, lk S.heap c = some (some C) → hdr c = some v0 → (∀ hdr', RepBlk w M hdr' W.fresh (.obj (.nrow rt T) d 0) v0 (inn c)) →
        ∃ hdr' inn', Good W M0 (embOne t (.obj (.nrow rt T)) d S1) hdr' inn' M a w ∧ Used S inn inn' (used ++ [c]) ∧ (∀ b, (∀ k, b ≠ 4 * (t + 512 * k) + 3) → lk (embOne t (.obj (.nrow rt T)) d S1).heap b = lk S1.heap b) ∧ (∀ b u, hdr1 b = some u → hdr' b = some u) ∧
          ∀ fl et R, Desc.obj (.nrow rt T) = .boxR fl et R → ∀ k b, sameAt S t R k = some b → hdr' (nestId t k) = hdr b := by
      intro C v0 hb' hv0 hB
      rw [hh] at hv0
      injection hv0 with hv0
      obtain ⟨hdr', inn', k1, k2, k3, _⟩ := g1.addBlk (t := t) (id := 4 * t + 3) (x := .v (.one (.row (4 * t + 3)))) (B := .obj (.nrow rt T) d 0) (v := v0) (gs := inn c) hnew (fun hf => by cases hf) (fun _ _ => hB _)
        (hu.sep h hb' hcu)
        (fun hdr' h0 => ⟨by rw [hv0]; exact h0, hsl⟩)
      exact ⟨hdr', inn', k1, hu.more k2 (fun g hg => ⟨c, by simp, hg, _, hb'⟩), fun b hb => by show (if _ then _ else _) = _; rw [if_neg (fun e => hb 0 (by omega))], k3, fun fl et R h => by cases h⟩
    split at hp
    · rename_i t' e' x fz hb
      split at hp
      · rename_i he
        split at hp
        · rename_i hf
          obtain ⟨rfl, rfl⟩ := hf
          subst he
          have hd : d = OK.opt x := by
            cases hp
            cases OK.opt x <;> rfl
          subst hd
          have hb' := blkAt_some hb
          obtain ⟨v0, hv0, hB⟩ := h.hp c _ hb'
          exact main hb' hv0 fun _ => hB
        · cases hp
      · cases hp
    · rename_i t' e' xs fz hb
      split at hp
      · rename_i he
        split at hp
        · rename_i hf
          obtain ⟨rfl, rfl⟩ := hf
          subst he
          cases hp
          have hb' := blkAt_some hb
          obtain ⟨v0, hv0, hB⟩ := h.hp c _ hb'
          exact main hb' hv0 fun _ => row_nrow (hN _ _ c _ _ xs _ rfl hv hb) hB
        · cases hp
      · cases hp
    · cases hp
  · cases hp
theorem one_obj (h : Good W M0 S hdr inn M a w) {t : Nat} {o : OK} {d : o.den} {S1 : St} {hdr1 : Nat → Option Value} {inn1 : Nat → List Nat} {used : List Nat} (g1 : Good W M0 S1 hdr1 inn1 M a w) (hu : Used S inn inn1 used) (hp : projObj S t o = some d)
    (hN : NeedOne S t (.obj o)) (hn : (used ++ projIds S [(t, .obj o)]).Nodup) (hnew : lk S1.heap (4 * t + 3) = none) : OneOut W M0 S hdr hdr1 inn M a w t (.obj o) d S1 used := by
  cases o with
  | que qt qe => exact one_que h g1 hu hp hn hnew
  | bld bt be => exact one_bld h g1 hu hp hn hnew
  | nrow rt T => exact one_nrow h g1 hu hp hN hn hnew
  | mp fr rt T => cases hp
  | mph rt T => cases hp

/-- The variables of a loop, laid out anew. -/
theorem emb_good (h : Good W M0 S hdr inn M a w) : ∀ (vs : Vars) (s : vs.den) (S1 : St) (hdr1 : Nat → Option Value) (inn1 : Nat → List Nat) (used : List Nat) (seen : List (Nat × RTy)), Good W M0 S1 hdr1 inn1 M a w → Used S inn inn1 used → proj S vs = some s → (used ++ projIds S vs).Nodup →
    (∀ x ∈ vs, ∀ k, lk S1.heap (4 * (x.1 + 512 * k) + 3) = none) → (vs.map (·.1)).Nodup → (∀ x ∈ vs, x.1 < 512) → LaidR S hdr hdr1 seen → sameOk seen vs = true → (∀ t R, (t, R) ∈ seen → ∀ k b, sameAt S t R k = some b → ∃ v, hdr b = some v) → NeedOK S vs → ∃ hdr' inn', Good W M0 (emb vs s S1) hdr' inn' M a w := by
  -- one variable
  have one : ∀ (t : Nat) (D : Desc) (d : D.den) (S1 : St) (hdr1 : Nat → Option Value) (inn1 : Nat → List Nat) (used : List Nat), Good W M0 S1 hdr1 inn1 M a w → Used S inn inn1 used → projOne S t D = some d → (used ++ projIds S [(t, D)]).Nodup → (∀ k, lk S1.heap (4 * (t + 512 * k) + 3) = none) →
      (∀ t' R k, D = .same t' R k → ∀ b, sameAt S t' R k = some b → hdr1 (nestId t' k) = hdr b) → NeedOne S t D → OneOut W M0 S hdr hdr1 inn M a w t D d S1 used := by
    intro t D d S1 hdr1 inn1 used g1 hu hp hn hnew hs hN
    cases D with
    | val T => exact one_val h g1 hu hp
    | row fl et T => exact one_row h g1 hu hp hn (hnew 0)
    | box fl et T => exact one_box h g1 hu hp hn (hnew 0)
    | boxR fl et R => exact one_boxR h g1 hu hp hn hnew
    | same t' R k => exact one_same h g1 hu hp (hs t' R k rfl)
    | deep fl et R => exact one_deep h g1 hu hp hn (hnew 0)
    | obj o => exact one_obj h g1 hu hp hN hn (hnew 0)
  intro vs
  induction vs with
  | nil => intro s S1 hdr1 inn1 used seen g1 _ _ _ _ _ _ _ _ _ _; exact ⟨hdr1, inn1, g1⟩
  | cons x vs ih =>
    intro s S1 hdr1 inn1 used seen g1 hu hp hn hnew hnd hlt hdone hso hex hneed
    have hn1 : (used ++ projIds S [x]).Nodup := by
      refine hn.sublist (List.Sublist.append (List.Sublist.refl _) ?_)
      show (_ ++ []).Sublist (_ ++ projIds S vs)
      exact List.Sublist.append (List.Sublist.refl _) (List.nil_sublist _)
    have hs : ∀ t' R k, x.2 = .same t' R k → ∀ b, sameAt S t' R k = some b → hdr1 (nestId t' k) = hdr b := by
      intro t' R k hx b hb
      unfold sameOk at hso
      rw [hx] at hso
      simp only [Bool.and_eq_true] at hso
      obtain ⟨p, hp1, hp2⟩ := List.any_eq_true.1 hso.1
      rw [Bool.and_eq_true] at hp2
      have e1 : p.1 = t' := by simpa using hp2.1
      have e2 : p.2 = R := by
        have := hp2.2
        split at this
        · assumption
        · cases this
      exact hdone t' R (by rw [← e1, ← e2]; exact hp1) k b hb
    cases vs with
    | nil =>
      obtain ⟨hdr', inn', k1, _⟩ := one x.1 x.2 s S1 hdr1 inn1 used g1 hu hp hn1 (hnew x (by simp)) hs (hneed x (by simp))
      exact ⟨hdr', inn', k1⟩
    | cons y vs =>
      have hp' : ((projOne S x.1 x.2).bind fun a => (proj S (y :: vs)).bind fun b => some (a, b)) = some s := hp
      obtain ⟨d, hd, hp'⟩ := Option.bind_eq_some_iff.1 hp'
      obtain ⟨ds, hds, hp'⟩ := Option.bind_eq_some_iff.1 hp'
      cases hp'
      obtain ⟨hdr', inn', k1, k2, k3, k4, k5⟩ := one x.1 x.2 d S1 hdr1 inn1 used g1 hu hd hn1 (hnew x (by simp)) hs (hneed x (by simp))
      simp only [List.map_cons, List.nodup_cons] at hnd
      have hx : x.1 < 512 := hlt x (by simp)
      have hdone' : LaidR S hdr hdr' seen := fun t R hm k b hb => by
        obtain ⟨v, hv⟩ := hex t R hm k b hb
        have := hdone t R hm k b hb
        rw [hv] at this ⊢
        exact k4 _ _ this
      have step : ∀ seen', LaidR S hdr hdr' seen' → sameOk seen' (y :: vs) = true → (∀ t R, (t, R) ∈ seen' → ∀ k b, sameAt S t R k = some b → ∃ v, hdr b = some v) → ∃ hdr'' inn'', Good W M0 (emb (x :: y :: vs) (d, ds) S1) hdr'' inn'' M a w := by
        intro seen' hD hS hE
        refine ih ds _ hdr' inn' (used ++ projIds S [x]) seen' k1 k2 hds ?_ ?_ (by simpa using hnd.2) (fun z hz => hlt z (by simp [List.mem_cons.1 hz])) hD hS hE (fun z hz => hneed z (List.mem_cons_of_mem _ hz))
        · have e : projIds S [x] ++ projIds S (y :: vs) = projIds S (x :: y :: vs) := by
            show (_ ++ []) ++ projIds S (y :: vs) = _ ++ projIds S (y :: vs)
            rw [List.append_nil]
          rw [List.append_assoc, e]; exact hn
        · intro z hz k
          have hz1 : z.1 < 512 := hlt z (by simp [List.mem_cons.1 hz])
          rw [k3 _ (fun k' e => ?_)]
          · exact hnew z (by simp [List.mem_cons.1 hz]) k
          · have hzx : z.1 = x.1 := by omega
            have : x.1 ∈ (y :: vs).map (·.1) := by rw [← hzx]; exact List.mem_map_of_mem hz
            simp only [List.map_cons] at this
            exact hnd.1 this
      unfold sameOk at hso
      split at hso
      · rename_i fl et R hxd
        refine step _ (fun t R' hm k b hb => ?_) hso (fun t R' hm k b hb => ?_)
        · rcases List.mem_cons.1 hm with e | hm
          · cases e
            exact k5 fl et R hxd k b hb
          · exact hdone' t R' hm k b hb
        · rcases List.mem_cons.1 hm with e | hm
          · cases e
            -- the row is a block of the state
            unfold sameAt at hb
            split at hb
            · rename_i c hv
              split at hb
              · rename_i et' cs fz hbl
                split at hb
                · rename_i q hq
                  split at hb
                  · rename_i b2 hb2
                    cases hb
                    have : ∀ {R : RTy} {cs r : List Cell} {x : R.den} {ids : List (Option Nat)}, takeN S.heap R cs = some (x, r, ids) → ∀ b, some b ∈ ids → ∃ B, lk S.heap b = some (some B) := by
                      intro R
                      induction R with
                      | d T => intro cs r x ids hk b hb; unfold takeN at hk; obtain ⟨_, _, hk⟩ := Option.map_eq_some_iff.1 hk; cases hk; cases hb
                      | row rt T =>
                        intro cs r x ids hk b hb
                        unfold takeN at hk
                        split at hk
                        · cases hk; simp at hb
                        · split at hk
                          · rename_i hbb
                            split at hk
                            · split at hk
                              · cases hk; simp at hb; subst hb; exact ⟨_, blkAt_some hbb⟩
                              · cases hk
                            · cases hk
                          · cases hk
                        · cases hk
                      | pair A B iha ihb =>
                        intro cs r x ids hk b hb
                        unfold takeN at hk
                        obtain ⟨y, hy, hk⟩ := Option.bind_eq_some_iff.1 hk
                        obtain ⟨z, hz, hk⟩ := Option.bind_eq_some_iff.1 hk
                        cases hk
                        rcases List.mem_append.1 hb with hb | hb
                        · exact iha (x := y.1) (r := y.2.1) (ids := y.2.2) hy b hb
                        · exact ihb (x := z.1) (r := z.2.1) (ids := z.2.2) hz b hb
                      | box t T => intro cs r x ids hk b hb; unfold takeN at hk; cases hk
                      | mp fr rt T =>
                        intro cs r x ids hk b hb
                        unfold takeN at hk
                        split at hk
                        · split at hk
                          · cases hk; simp at hb
                          · cases hk
                        · split at hk
                          · rename_i hbb
                            split at hk
                            · split at hk
                              · cases hk; simp at hb; subst hb; exact ⟨_, blkAt_some hbb⟩
                              · cases hk
                            · cases hk
                          · cases hk
                        · cases hk
                      | deep rt T _ =>
                        intro cs r x ids hk b hb
                        unfold takeN at hk
                        split at hk
                        · cases hk; simp at hb
                        · split at hk
                          · rename_i hbb
                            split at hk
                            · split at hk
                              · cases hk; simp at hb; subst hb; exact ⟨_, blkAt_some hbb⟩
                              · cases hk
                            · cases hk
                          · cases hk
                        · cases hk
                    obtain ⟨B, hB⟩ := this (x := q.1) (r := q.2.1) (ids := q.2.2) hq b (List.mem_of_getElem? hb2)
                    obtain ⟨v, hv, _⟩ := h.hp b B hB
                    exact ⟨v, hv⟩
                  · cases hb
                · cases hb
              · cases hb
            · cases hb
          · exact hex t R' hm k b hb
      · simp only [Bool.and_eq_true] at hso
        exact step _ hdone' hso.2 hex
      · exact step _ hdone' hso hex

theorem proj_sound {n : Nat} {vs : Vars} {s : vs.den} (hG : G W M0 S a w) (hok : projOk n vs S = true) (hN : NeedOK S vs) (hp : proj S vs = some s) : G W M0 (embSt n vs s) a w := by
  obtain ⟨hdr, inn, M, h⟩ := hG
  unfold projOk at hok
  simp only [Bool.and_eq_true, beq_iff_eq] at hok
  obtain ⟨⟨⟨⟨h1, h2⟩, h3⟩, h4⟩, h5⟩ := hok
  have h0 : Good W M0 (St.empty n) (fun _ => none) (fun _ => []) M a w :=
    ⟨h.ext, h.nod, by simp [St.empty, ← h1, h.len], fun t => by
      have : (((St.empty n).tmps[t]?).getD AV.undef) = .undef := by
        simp [St.empty, List.getElem?_replicate]
        split <;> rfl
      rw [this]; trivial, fun b B hb => none_some hb, fun _ _ => rfl, fun b b' B B' g _ hb => none_some hb, h.ml, h.mo, fun b B hb => none_some hb⟩
  obtain ⟨hdr', inn', g⟩ := emb_good h vs s (St.empty n) (fun _ => none) (fun _ => []) [] [] h0 (fun b g hb => by cases hb) hp (by simpa using noDup_spec h3) (fun _ _ _ => rfl) (noDup_spec h2) (fun x hx => by have := List.all_eq_true.1 h4 x hx; exact Nat.le_of_ble_eq_true this) (fun t R hm => by cases hm) h5 (fun t R hm => by cases hm) hN
  exact ⟨hdr', inn', M, g⟩

theorem embK_eq {α : Type} (vs : Vars) (x : vs.den) (n : Nat) (k : St → α) : embK vs x n k = k (embSt n vs x) := by
  unfold embK
  rw [force_eq, force_eq]
  rfl

theorem meltK_eq {α : Type} (S : St) (k : St → α) : meltK S k = k S.melt := by
  unfold meltK
  rw [force_eq, force_eq]
theorem lk_map (f : Option Blk → Option Blk) : ∀ (H : Heap) (b : Nat), lk (H.map fun p => (p.1, f p.2)) b = (lk H b).map f
  | [], _ => rfl
  | x :: H, b => by
    rw [List.map_cons, lk, lk]
    split
    · rfl
    · exact lk_map f H b
/-- The rows that stay as they are. -/
def stillIds (H : Heap) : List Nat := (H.map (·.1)).filter fun b => match blkAt H b with
  | some (.row _ _ _ fz) => fz == 1
  | some (.deep _ _ _ none fz) => fz == 1
  | _ => false
theorem lk_mem : ∀ {H : Heap} {b : Nat} {x : Option Blk}, lk H b = some x → b ∈ H.map (·.1)
  | [], _, _, h => by cases h
  | y :: H, b, x, h => by
    unfold lk at h
    split at h
    · rename_i e
      simp [e]
    · exact List.mem_cons_of_mem _ (lk_mem h)
theorem meltC_rep (h : Good W M0 S hdr inn M a w) {c : Cell} {v : Value} (hc : RepC w M hdr c v) : RepC w (plusMem M S inn (stillIds S.heap)) hdr (meltC S.heap c) v := by
  have same : RepC w (plusMem M S inn (stillIds S.heap)) hdr c v := hc.keep (fun _ _ => rfl) (fun _ h => .inl h) (fun _ _ h => h)
  unfold meltC
  split
  · rename_i b
    split
    · rename_i t e xs fz hb
      split
      · rename_i hfz
        subst hfz
        have hm : b ∈ stillIds S.heap := by
          unfold stillIds
          rw [List.mem_filter]
          exact ⟨lk_mem (blkAt_some hb), by rw [hb]; rfl⟩
        have hk : takeD S.heap (.slice e) [.row b] = some (xs, []) := by
          show (match blkAt S.heap b with
            | some (.row _ e' xs _) => if h : e' = e then some (castL h xs, []) else none
            | some (.deep _ R xs none _) => if h : R.data = e then some (castL h xs, []) else none
            | some (.obj (.nrow _ e') x _) => if h : e' = e then some (castL h (OK.olist x), []) else none
            | _ => none) = _
          rw [hb]
          show (if h : e = e then some (castL h xs, ([] : List Cell)) else none) = _
          rw [dif_pos rfl]; rfl
        obtain ⟨v1, v2, e1, e2, e3, _⟩ := takeD_rep h (rows := stillIds S.heap) (vs := [v]) hk (show All2 _ [_] [_] from ⟨hc, trivial⟩) (by simpa [rowsIn] using hm)
        have e3' : v2 = [] := by
          cases v2 with
          | nil => rfl
          | cons _ _ => exact e3.elim
        subst e3'
        rw [List.append_nil] at e1
        subst e1
        exact e2
      · exact same
    · rename_i t R xs fz hb
      split
      · rename_i hfz
        subst hfz
        have hm : b ∈ stillIds S.heap := by
          unfold stillIds
          rw [List.mem_filter]
          exact ⟨lk_mem (blkAt_some hb), by rw [hb]; rfl⟩
        have hk : takeD S.heap (.slice R.data) [.row b] = some (xs, []) := by
          show (match blkAt S.heap b with
            | some (.row _ e' xs _) => if h : e' = R.data then some (castL h xs, []) else none
            | some (.deep _ R' xs none _) => if h : R'.data = R.data then some (castL h xs, []) else none
            | some (.obj (.nrow _ e') x _) => if h : e' = R.data then some (castL h (OK.olist x), []) else none
            | _ => none) = _
          rw [hb]
          show (if h : R.data = R.data then some (castL h xs, ([] : List Cell)) else none) = _
          rw [dif_pos rfl]; rfl
        obtain ⟨v1, v2, e1, e2, e3, _⟩ := takeD_rep h (rows := stillIds S.heap) (vs := [v]) hk (show All2 _ [_] [_] from ⟨hc, trivial⟩) (by simpa [rowsIn] using hm)
        have e3' : v2 = [] := by
          cases v2 with
          | nil => rfl
          | cons _ _ => exact e3.elim
        subst e3'
        rw [List.append_nil] at e1
        subst e1
        exact e2
      · exact same
    · exact same
  · exact same
theorem meltCs_rep (h : Good W M0 S hdr inn M a w) : ∀ {cs : List Cell} {vs : List Value}, All2 (RepC w M hdr) cs vs → All2 (RepC w (plusMem M S inn (stillIds S.heap)) hdr) (cs.map (meltC S.heap)) vs
  | [], [], _ => trivial
  | [], _ :: _, hc => hc.elim
  | _ :: _, [], hc => hc.elim
  | _ :: _, _ :: _, hc => ⟨meltC_rep h hc.1, meltCs_rep h hc.2⟩
theorem melt_sound (hG : G W M0 S a w) : G W M0 S.melt a w := by
  obtain ⟨hdr, inn, M, h⟩ := hG
  have hmf : mayFreeze S.heap (stillIds S.heap) = true := by
    have : ∀ l : List Nat, (∀ b ∈ l, ∀ B, blkAt S.heap b = some B → B.fz < 2 ∧ B.shut = true) → mayFreeze S.heap l = true := by
      intro l
      induction l with
      | nil => intro _; rfl
      | cons b l ih =>
        intro hl
        unfold mayFreeze
        rw [ih fun c hc => hl c (by simp [hc]), Bool.and_true]
        split
        · rename_i B hB
          obtain ⟨h1, h2⟩ := hl b (by simp) B hB
          rw [h2, Bool.and_true]
          exact decide_eq_true h1
        · rfl
    refine this _ fun b hb B hB => ?_
    unfold stillIds at hb
    rw [List.mem_filter, hB] at hb
    obtain ⟨_, hb⟩ := hb
    cases B with
    | cells _ _ _ => cases hb
    | obj _ _ _ => cases hb
    | row t e xs fz =>
      have : fz = 1 := by simpa using hb
      subst this
      exact ⟨by show (1 : Nat) < 2; decide, rfl⟩
    | deep t R xs op fz =>
      cases op with
      | some _ => cases hb
      | none =>
        have : fz = 1 := by simpa using hb
        subst this
        exact ⟨by show (1 : Nat) < 2; decide, rfl⟩
  have h1 := h.freeze (stillIds S.heap) hmf
  have hl1 : ∀ b, lk (setAll S.heap (Rx.freeze S.heap (stillIds S.heap))) b = lk S.heap b := by
    intro b
    rw [lk_freeze]
    split
    · rename_i B hB
      split
      · rename_i hm
        unfold stillIds at hm
        rw [List.mem_filter, hB] at hm
        obtain ⟨_, hm⟩ := hm
        rw [blkAt_some hB]
        cases B with
        | cells _ _ _ => cases hm
        | obj _ _ _ => cases hm
        | row t e xs fz =>
          have : fz = 1 := by simpa using hm
          subst this; rfl
        | deep t R xs op fz =>
          cases op with
          | some _ => cases hm
          | none =>
            have : fz = 1 := by simpa using hm
            subst this; rfl
      · rfl
    · rfl
  have hlk : ∀ b, lk S.melt.heap b = (lk S.heap b).map fun o => o.map (meltB S.heap) := fun b => lk_map (fun o => o.map (meltB S.heap)) S.heap b
  have back : ∀ b B, lk S.melt.heap b = some (some B) → ∃ B0, lk S.heap b = some (some B0) ∧ B = meltB S.heap B0 := by
    intro b B hb
    rw [hlk] at hb
    obtain ⟨o, ho, hb⟩ := Option.map_eq_some_iff.1 hb
    obtain ⟨B0, rfl, hB⟩ := Option.map_eq_some_iff.1 hb
    exact ⟨B0, ho, hB.symm⟩
  have hfz : ∀ B, (meltB S.heap B).fz = B.fz := fun B => by cases B <;> rfl
  refine ⟨hdr, inn, plusMem M S inn (stillIds S.heap), h1.ext, h1.nod, ?_, ?_, ?_, ?_, ?_, h1.ml, h1.mo, ?_⟩
  · show (S.tmps.map _).length = _
    rw [List.length_map]; exact h1.len
  · intro t
    have h2 := h.tm t
    have : (S.melt.tmps[t]?).getD .undef = meltAV S.heap ((S.tmps[t]?).getD .undef) := by
      show ((S.tmps.map (meltAV S.heap))[t]?).getD .undef = _
      rw [List.getElem?_map]
      cases S.tmps[t]? <;> rfl
    rw [this]
    have h3 := h1.tm t
    cases hx : (S.tmps[t]?).getD .undef with
    | undef => trivial
    | tup xs => rw [show (St.tmps ⟨S.tmps, setAll S.heap (Rx.freeze S.heap (stillIds S.heap))⟩) = S.tmps from rfl, hx] at h3; exact h3
    | v x =>
      rw [hx] at h2
      cases x with
      | one c => exact meltC_rep h h2
      | agg cs =>
        obtain ⟨vs, e, hc⟩ := h2
        exact ⟨vs, e, meltCs_rep h hc⟩
  · intro b B hb
    obtain ⟨B0, hb0, rfl⟩ := back b B hb
    obtain ⟨v, hv, hr⟩ := h1.hp b B0 (by rw [show (St.heap ⟨S.tmps, setAll S.heap (Rx.freeze S.heap (stillIds S.heap))⟩) = setAll S.heap (Rx.freeze S.heap (stillIds S.heap)) from rfl, hl1]; exact hb0)
    refine ⟨v, hv, ?_⟩
    cases B0 with
    | row t e xs fz => exact hr
    | deep t R xs op fz => exact hr
    | obj o x fz => exact hr
    | cells t cs fz =>
      obtain ⟨v0, hv0, hr0⟩ := h.hp b _ hb0
      rw [hv] at hv0; cases hv0
      obtain ⟨g, vs, e1, eg, e2, e3, e4, e5⟩ := hr
      obtain ⟨g0, vs0, f1, fg, f2, f3, f4, f5⟩ := hr0
      rw [e1] at f1
      cases f1
      rw [e3] at f3
      cases f3
      refine ⟨g, vs, e1, eg, e2, e3, meltCs_rep h f4, fun p hp e => ?_⟩
      have := e5 p hp e
      rw [List.length_map]; exact this
  · intro b hb
    rw [hlk] at hb
    exact h.un b (by
      cases ho : lk S.heap b with
      | none => rfl
      | some o => rw [ho] at hb; cases hb)
  · intro b b' B B' g hbb hb hb' hg
    obtain ⟨B0, hb0, _⟩ := back b B hb
    obtain ⟨B1, hb1, _⟩ := back b' B' hb'
    exact h.sep b b' B0 B1 g hbb hb0 hb1 hg
  · intro b B hb hf hf2
    obtain ⟨B0, hb0, rfl⟩ := back b B hb
    rw [hfz] at hf hf2 ⊢
    exact h.ag b B0 hb0 hf hf2

/-- THE CODE. -/
theorem mfrz_sound {id : Nat} {r : R} {k : St → Option R} (hG : G W M0 S a w) (h : mfrzK E id S k = some r) : ∃ S', k S' = some r ∧ G W M0 S' a w := by
  unfold mfrzK at h
  split at h
  · exact ⟨S, h, hG⟩
  · rename_i ts _
    rw [force_eq] at h
    exact ⟨_, h, G.mfrozen _ hG⟩
theorem frz_sound {id : Nat} {r : R} {k : St → Option R} (hG : G W M0 S a w) (h : frzK E id S k = some r) : ∃ S', k S' = some r ∧ G W M0 S' a w := by
  unfold frzK at h
  split at h
  · exact mfrz_sound hG h
  · rename_i ts _
    obtain ⟨hm, h⟩ := chk_some h
    rw [meltK_eq] at h
    obtain ⟨hdr, inn, M, g⟩ := hG
    exact mfrz_sound (melt_sound ⟨hdr, inn, _, g.freeze _ hm⟩) h
theorem exec_sound (hE : EnvOK P E) {n : Nat} {r : R} : ∀ (c : Code) (S : St) (k : Ex → St → Option R) (a : Act) (w : World) (Q : Exit → Act → World → Prop), (∀ b ∈ loopsOf c, ∀ L, E.loops.lookup (key b) = some L → LoopOK P n L b) →
    exec E n c S k = some r → G W M0 S a w → (∀ e S' a' w', k e S' = some r → G W M0 S' a' w' → Q (exOf e) a' w') → c.wp P Q a w := by
  intro c
  induction c with
  | skip =>
    intro S k a w Q _ h hG hQ
    exact wp_skip (hQ .normal S a w h hG)
  | region id ops d =>
    intro S k a w Q _ h hG hQ
    unfold exec at h
    obtain ⟨S, h, hG⟩ := frz_sound hG h
    cases d with
    | false => exact wp_region_list (runOps_sound hE (fun S' a' w' hk hg => hQ .normal S' a' w' hk hg) _ S a w h hG)
    | true => exact draw_sound hE (k := k .normal) h hG fun S' S2 a' w' hk hs hg => hQ .normal S' a' w' hk (hg.same hs)
  | seq x y ihx ihy =>
    intro S k a w Q hL h hG hQ
    refine wp_seq (ihx S _ a w _ (fun b hb => hL b (by simp only [loopsOf, List.mem_append]; exact .inl hb)) h hG fun e S' a' w' hk hg => ?_)
    cases e with
    | normal => exact ihy S' k a' w' Q (fun b hb => hL b (by simp only [loopsOf, List.mem_append]; exact .inr hb)) hk hg hQ
    | ret => exact hQ .ret S' a' w' hk hg
    | exit i => exact hQ (.exit i) S' a' w' hk hg
  | cond c x y ihx ihy =>
    intro S k a w Q hL h hG hQ
    unfold exec at h
    split at h
    · rename_i t
      split at h
      · rename_i b hb
        obtain ⟨hdr, inn, M, g⟩ := hG
        have hv : a.eval (.tmp t) = .bool b := g.bool hb
        have hs := refine_same hb
        rcases br_some h with ⟨rfl, h⟩ | ⟨rfl, h⟩
        · rw [hs] at h
          exact wp_cond_true hv (ihx S k a w Q (fun b hb => hL b (by simp only [loopsOf, List.mem_append]; exact .inl hb)) h ⟨hdr, inn, M, g⟩ hQ)
        · rw [hs] at h
          exact wp_cond_false hv (ihy S k a w Q (fun b hb => hL b (by simp only [loopsOf, List.mem_append]; exact .inr hb)) h ⟨hdr, inn, M, g⟩ hQ)
      · cases h
    · cases h
  | block id b ih =>
    intro S k a w Q hL h hG hQ
    refine wp_block (ih S _ a w _ hL h hG fun e S' a' w' hk hg => ?_)
    cases e with
    | normal => exact hQ .normal S' a' w' hk hg
    | ret => exact hQ .ret S' a' w' hk hg
    | exit i =>
      show (if i = id then Q .normal a' w' else Q (.exit i) a' w')
      dsimp only at hk
      split at hk
      · rename_i e; rw [if_pos e]; exact hQ .normal S' a' w' hk hg
      · rename_i e; rw [if_neg e]; exact hQ (.exit i) S' a' w' hk hg
  | loop b _ =>
    intro S k a w Q hL h hG hQ
    unfold exec at h
    split at h
    · rename_i L hl
      rw [meltK_eq] at h
      obtain ⟨hok, h⟩ := chk_some h
      obtain ⟨hnd, h⟩ := needK_some h
      obtain ⟨s, hs, h⟩ := Option.bind_eq_some_iff.1 h
      have hg := proj_sound (melt_sound hG) hok hnd hs
      have hlo := hL b (by simp [loopsOf]) L hl W M0 s a w Q hg
      cases hF : L.F with
      | plain F =>
        rw [hF] at hlo h
        obtain ⟨r1, h1, h2⟩ := ob_some h
        rw [embK_eq] at h2
        exact hlo r1 h1 fun a' w' hg' => hQ (.exit L.out) _ a' w' h2 hg'
      | two F =>
        rw [hF] at hlo h
        obtain ⟨r1, h1, h2⟩ := ob_some h
        refine hlo r1 h1 fun a' w' hg' => ?_
        rcases br_some h2 with ⟨hb, h2⟩ | ⟨hb, h2⟩
        · rw [embK_eq] at h2
          rw [hb]; exact hQ (.exit L.out) _ a' w' h2 hg'
        · rw [embK_eq] at h2
          rw [hb]; exact hQ .ret _ a' w' h2 hg'
      | alt rv F =>
        rw [hF] at hlo h
        obtain ⟨r1, h1, h2⟩ := ob_some h
        refine hlo r1 h1 fun a' w' hg' => ?_
        cases r1 with
        | inl r =>
          simp only [el] at h2
          rw [embK_eq] at h2
          exact hQ (.exit L.out) _ a' w' h2 hg'
        | inr r =>
          simp only [el] at h2
          rw [embK_eq] at h2
          exact hQ .ret _ a' w' h2 hg'
    · cases h
  | exit id =>
    intro S k a w Q _ h hG hQ
    exact wp_exit (hQ (.exit id) S a w h hG)
  | ret =>
    intro S k a w Q _ h hG hQ
    exact wp_ret (hQ .ret S a w h hG)
  | rangeFunc => intro S k a w Q _ h; simp [exec] at h
  | scope => intro S k a w Q _ h; simp [exec] at h
  | label => intro S k a w Q _ h; simp [exec] at h
  | goto => intro S k a w Q _ h; simp [exec] at h
  | refuse => intro S k a w Q _ h; simp [exec] at h

/-! ### Loops -/
theorem wp_loop_ind {c : Code} {Q : Exit → Act → World → Prop} (J : Nat → Act → World → Prop) (round : ∀ m a w, J m a w → c.wp P (Exit.then (fun a' w' => ∃ m', m' < m ∧ J m' a' w') Q) a w) :
    ∀ (m : Nat) (a : Act) (w : World), J m a w → (Code.loop c).wp P Q a w := by
  intro m a w hJ b k cs
  have key : ∀ m a w, J m a w → ∃ e a' w', Q e a' w' ∧ Arrives P (lone (b.at a (.code c :: .inLoop c :: k)) cs w) b k cs e a' w' := by
    intro m
    induction m using Nat.strongRecOn with
    | _ m ih =>
      intro a w hJ
      obtain ⟨e, a₁, w₁, hq, harr⟩ := round m a w hJ b (.inLoop c :: k) cs
      cases e with
      | normal =>
        obtain ⟨m', hlt, hJ'⟩ := hq
        obtain ⟨e₂, a₂, w₂, hq₂, harr₂⟩ := ih m' hlt a₁ w₁ hJ'
        exact ⟨e₂, a₂, w₂, hq₂, .of_steps (Steps.trans harr (.one step_inLoop)) harr₂⟩
      | exit id => exact ⟨_, a₁, w₁, hq, .pass (x := .inLoop c) rfl (fun _ _ => .inl (by simp)) harr⟩
      | goto l => exact ⟨_, a₁, w₁, hq, .pass (x := .inLoop c) rfl (fun _ _ => .inl (by simp)) harr⟩
      | ret => exact ⟨_, a₁, w₁, hq, .pass (x := .inLoop c) rfl (fun _ _ => .inl (by simp)) harr⟩
      | panic ch => exact ⟨_, a₁, w₁, hq, .pass (x := .inLoop c) rfl (fun _ _ => .inl (by simp)) harr⟩
      | outgrown => exact ⟨_, a₁, w₁, hq, .pass (x := .inLoop c) rfl (fun _ _ => .inl (by simp)) harr⟩
  obtain ⟨e, a', w', hq, harr⟩ := key m a w hJ
  exact ⟨e, a', w', hq, .of_steps (.one step_loop) harr⟩

/-- One round. -/
theorem step_sound (hE : EnvOK P E) {n : Nat} {vs : Vars} {out : Nat} {body : Code} {s s' : vs.den} {x : LRes} {Q : Exit → Act → World → Prop} (hl : AllLoops P E n (loopsOf body)) (h : stepOf E n vs out body s = some (x, s')) (hG : G W M0 (embSt n vs s) a w)
    (hQ : ∀ a' w', G W M0 (embSt n vs s') a' w' → Q (match x with | .next => .normal | .out => .exit out | .ret => .ret) a' w') : body.wp P Q a w := by
  unfold stepOf at h
  rw [force_eq, force_eq] at h
  refine exec_sound hE body (embSt n vs s) _ a w Q hl.get h hG fun e S' a' w' hk hg => ?_
  cases e with
  | normal =>
    obtain ⟨hok, hk⟩ := chk_some hk
    obtain ⟨hnd, hk⟩ := needK_some hk
    obtain ⟨s2, hs2, hk⟩ := Option.bind_eq_some_iff.1 hk
    cases hk
    exact hQ a' w' (proj_sound hg hok hnd hs2)
  | ret =>
    obtain ⟨hok, hk⟩ := chk_some hk
    obtain ⟨hnd, hk⟩ := needK_some hk
    obtain ⟨s2, hs2, hk⟩ := Option.bind_eq_some_iff.1 hk
    cases hk
    exact hQ a' w' (proj_sound hg hok hnd hs2)
  | exit i =>
    dsimp only at hk
    split at hk
    · rename_i e; subst e
      obtain ⟨hok, hk⟩ := chk_some hk
      obtain ⟨hnd, hk⟩ := needK_some hk
      obtain ⟨s2, hs2, hk⟩ := Option.bind_eq_some_iff.1 hk
      cases hk
      exact hQ a' w' (proj_sound hg hok hnd hs2)
    · cases hk

theorem iter_loop (hE : EnvOK P E) {n : Nat} {vs : Vars} {out : Nat} {body : Code} (step : vs.den → Option (LRes × vs.den)) (fuel : vs.den → Nat) (hl : AllLoops P E n (loopsOf body)) (hstep : ∀ s, stepOf E n vs out body s = step s) :
    LoopOK P n ⟨vs, out, .two fun s => iter step (fuel s) s⟩ body := by
  intro W M0 s a w Q hG r hr hQ
  refine wp_loop_ind (fun m a w => ∃ s, iter step m s = some r ∧ G W M0 (embSt n vs s) a w) ?_ (fuel s) a w ⟨s, hr, hG⟩
  rintro m a w ⟨s, hr, hG⟩
  cases m with
  | zero => cases hr
  | succ m =>
    simp only [iter] at hr
    obtain ⟨q, hq, hr⟩ := ob_some hr
    obtain ⟨x, s'⟩ := q
    refine step_sound hE hl ((hstep s).trans hq) hG fun a' w' hg => ?_
    cases x with
    | next => exact ⟨m, by omega, s', hr, hg⟩
    | out => cases hr; exact hQ a' w' hg
    | ret => cases hr; exact hQ a' w' hg
theorem iterA_loop (hE : EnvOK P E) {n : Nat} {vs rv : Vars} {out : Nat} {body : Code} (step : vs.den → Option (LS vs.den rv.den)) (fuel : vs.den → Nat) (hl : AllLoops P E n (loopsOf body)) (hstep : ∀ s, stepOfA E n vs rv out body s = step s) :
    LoopOK P n ⟨vs, out, .alt rv fun s => iterA step (fuel s) s⟩ body := by
  intro W M0 s a w Q hG r hr hQ
  refine wp_loop_ind (fun m a w => ∃ s, iterA step m s = some r ∧ G W M0 (embSt n vs s) a w) ?_ (fuel s) a w ⟨s, hr, hG⟩
  rintro m a w ⟨s, hr, hG⟩
  cases m with
  | zero => cases hr
  | succ m =>
    simp only [iterA] at hr
    obtain ⟨q, hq, hr⟩ := ob_some hr
    have h := (hstep s).trans hq
    unfold stepOfA at h
    rw [force_eq, force_eq] at h
    refine exec_sound hE body (embSt n vs s) _ a w _ hl.get h hG fun e S' a' w' hk hg => ?_
    cases e with
    | normal =>
      obtain ⟨hok, hk⟩ := chk_some hk
      obtain ⟨hnd, hk⟩ := needK_some hk
      obtain ⟨s2, hs2, hk⟩ := Option.bind_eq_some_iff.1 hk
      cases hk
      exact ⟨m, by omega, s2, hr, proj_sound hg hok hnd hs2⟩
    | ret =>
      dsimp only at hk
      rw [meltK_eq] at hk
      obtain ⟨hok, hk⟩ := chk_some hk
      obtain ⟨hnd, hk⟩ := needK_some hk
      obtain ⟨s2, hs2, hk⟩ := Option.bind_eq_some_iff.1 hk
      cases hk
      cases hr
      exact hQ a' w' (proj_sound (melt_sound hg) hok hnd hs2)
    | exit i =>
      dsimp only at hk
      split at hk
      · rename_i e; subst e
        obtain ⟨hok, hk⟩ := chk_some hk
        obtain ⟨hnd, hk⟩ := needK_some hk
        obtain ⟨s2, hs2, hk⟩ := Option.bind_eq_some_iff.1 hk
        cases hk
        cases hr
        exact hQ a' w' (proj_sound hg hok hnd hs2)
      · cases hk
theorem iterP_loop (hE : EnvOK P E) {n : Nat} {vs : Vars} {out : Nat} {body : Code} (step : vs.den → Option (LRes × vs.den)) (fuel : vs.den → Nat) (hl : AllLoops P E n (loopsOf body)) (hstep : ∀ s, stepOf E n vs out body s = step s) :
    LoopOK P n ⟨vs, out, .plain fun s => iterP step (fuel s) s⟩ body := by
  intro W M0 s a w Q hG r hr hQ
  refine wp_loop_ind (fun m a w => ∃ s, iterP step m s = some r ∧ G W M0 (embSt n vs s) a w) ?_ (fuel s) a w ⟨s, hr, hG⟩
  rintro m a w ⟨s, hr, hG⟩
  cases m with
  | zero => cases hr
  | succ m =>
    simp only [iterP] at hr
    obtain ⟨q, hq, hr⟩ := ob_some hr
    obtain ⟨x, s'⟩ := q
    refine step_sound hE hl ((hstep s).trans hq) hG fun a' w' hg => ?_
    cases x with
    | next => exact ⟨m, by omega, s', hr, hg⟩
    | out => cases hr; exact hQ a' w' hg
    | ret => cases hr
end
end Rx
end Go.Proofs.YthfgpnpoocepeaaGreat
