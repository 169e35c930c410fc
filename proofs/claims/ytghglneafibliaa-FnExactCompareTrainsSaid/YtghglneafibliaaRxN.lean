/- The evaluator is true of a function's code: from its run to the function's contract. No conditions. -/
import Derived.Test.YtghglneafibliaaRxM
namespace Go.Proofs.Ytghglneafibliaa
open Go.RowKit
namespace Rx

def exOf : Ex → Exit
  | .normal => .normal
  | .ret => .ret
  | .exit i => .exit i
def loopsOf : Code → List Code
  | .seq a b => loopsOf a ++ loopsOf b
  | .cond _ a b => loopsOf a ++ loopsOf b
  | .block _ b => loopsOf b
  | .loop b => [b]
  | _ => []
def embSt (n : Nat) (vs : Vars) (s : vs.den) : St := emb vs s (St.empty n)
def LoopOK (P : Program) (n : Nat) (L : LoopC) (body : Code) : Prop := ∀ (W : WX) (M0 : Mem) (s : L.vars.den) (a : Act) (w : World) (Q : Exit → Act → World → Prop), G W M0 (embSt n L.vars s) a w →
  match L.F with
  | .plain F => ∀ r, F s = some r → (∀ a' w', G W M0 (embSt n L.vars r) a' w' → Q (.exit L.out) a' w') → (Code.loop body).wp P Q a w
  | .two F => ∀ r, F s = some r → (∀ a' w', G W M0 (embSt n L.vars r.2) a' w' → Q (match r.1 with | true => .exit L.out | false => .ret) a' w') → (Code.loop body).wp P Q a w
def AllLoops (P : Program) (E : Env) (n : Nat) : List Code → Prop
  | [] => True
  | b :: bs => (match E.loops.lookup (key b) with | some L => LoopOK P n L b | none => True) ∧ AllLoops P E n bs

section
variable {P : Program} {W : WX} {M0 : Mem} {S : St} {hdr : Nat → Option Value} {M : Mem} {a : Act} {w : World} {E : Env} {R : Type}

theorem AllLoops.get {n : Nat} : ∀ {l : List Code}, AllLoops P E n l → ∀ b ∈ l, ∀ L, E.loops.lookup (key b) = some L → LoopOK P n L b
  | [], _, b, hb, _, _ => by cases hb
  | c :: l, h, b, hb, L, hL => by
    rcases List.mem_cons.1 hb with rfl | hb
    · have := h.1
      rw [hL] at this; exact this
    · exact AllLoops.get h.2 b hb L hL

/-! ### A loop's variables out of a state -/
theorem Good.setT (h : Good W M0 S hdr M a w) {t : Nat} {v : AV} (hv : RepAV w M hdr v (a.tmps.getD t undef)) : Good W M0 { S with tmps := S.tmps.set t v } hdr M a w := by
  refine ⟨h.ext, h.nod, by simp [h.len], fun t' => ?_, h.hp, h.un, h.sep, h.ml, h.mo, h.ag⟩
  by_cases e : t = t'
  · subst e
    by_cases hlt : t < S.tmps.length
    · simp [hlt]; simpa using hv
    · simp [hlt]; trivial
  · simp only [List.getElem?_set_ne e]; exact h.tm t'
theorem Good.addBlk (h : Good W M0 S hdr M a w) {t id : Nat} {x : AV} {B : Blk} {v : Value} (hid : lk S.heap id = none) (hag : 2 ≤ B.fz → some v = W.arg (B.fz - 2)) (hB : ∀ hdr', RepBlk w M hdr' W.fresh B v)
    (hsep : ∀ b' B' v' g, lk S.heap b' = some (some B') → hdr b' = some v' → own v = some g → own v' ≠ some g)
    (hx : ∀ hdr' : Nat → Option Value, hdr' id = some v → RepAV w M hdr' x (a.tmps.getD t undef)) :
    ∃ hdr', Good W M0 { tmps := S.tmps.set t x, heap := (id, some B) :: S.heap } hdr' M a w ∧ (∀ b u, hdr' b = some u → (b = id ∧ u = v) ∨ hdr b = some u) := by
  have hne := h.un id hid
  have hh : ∀ b u, hdr b = some u → (fun b => if b = id then some v else hdr b) b = some u := fun b u hb => by
    have : b ≠ id := fun e => by rw [e, hne] at hb; cases hb
    simpa [this] using hb
  refine ⟨fun b => if b = id then some v else hdr b, ⟨h.ext, h.nod, by simp [h.len], fun t' => ?_, ?_, ?_, ?_, h.ml, h.mo, ?_⟩, ?_⟩
  · by_cases e : t = t'
    · subst e
      by_cases hlt : t < S.tmps.length
      · have := hx (fun b => if b = id then some v else hdr b) (by simp)
        simp [hlt]; simpa using this
      · simp [hlt]; trivial
    · simp only [List.getElem?_set_ne e]; exact (h.tm t').keep (fun _ _ => rfl) (fun _ h => h) hh
  · intro b C hb
    simp only [lk_cons] at hb
    split at hb
    · rename_i e; subst e; cases hb
      exact ⟨v, by simp, hB _⟩
    · obtain ⟨u, hu, hr⟩ := h.hp b C hb
      exact ⟨u, hh b u hu, hr.keep (fun _ _ => rfl) (fun _ h => h) hh fun g _ => ⟨rfl, fun p hp _ => hp⟩⟩
  · intro b hb
    simp only [lk_cons] at hb
    split at hb
    · cases hb
    · rename_i e
      have : b ≠ id := fun e' => e e'.symm
      simp [this, h.un b hb]
  · intro b b' C C' u u' g hbb hb hb' hu hu' hg
    simp only [lk_cons] at hb hb'
    split at hb
    · rename_i e; subst e
      simp at hu; subst hu
      rw [if_neg hbb] at hb'
      have hu2 : hdr b' = some u' := by simpa [Ne.symm hbb] using hu'
      exact hsep b' C' u' g hb' hu2 hg
    · rename_i e
      have e1 : b ≠ id := fun e' => e e'.symm
      have hu1 : hdr b = some u := by simpa [e1] using hu
      split at hb'
      · rename_i e2; subst e2
        simp at hu'; subst hu'
        intro hg'
        exact hsep b C u g hb hu1 hg' hg
      · rename_i e2
        have e3 : b' ≠ id := fun e' => e2 e'.symm
        exact h.sep b b' C C' u u' g hbb hb hb' hu1 (by simpa [e3] using hu') hg
  · intro b C hb hf
    simp only [lk_cons] at hb
    split at hb
    · rename_i e; subst e; cases hb
      simpa using hag hf
    · rename_i e
      have e1 : b ≠ id := fun e' => e e'.symm
      simp only [e1, if_false]
      exact h.ag b C hb hf
  · intro b u hu
    by_cases e : b = id
    · simp [e] at hu; exact .inl ⟨e, hu.symm⟩
    · simp [e] at hu; exact .inr hu

def Used (S : St) (hdr hdr1 : Nat → Option Value) (used : List Nat) : Prop := ∀ b v g, hdr1 b = some v → own v = some g → ∃ b0 ∈ used, hdr b0 = some v ∧ ∃ B0, lk S.heap b0 = some (some B0)
def OneOut (W : WX) (M0 : Mem) (S : St) (hdr : Nat → Option Value) (M : Mem) (a : Act) (w : World) (t : Nat) (D : Desc) (d : D.den) (S1 : St) (used : List Nat) : Prop :=
  ∃ hdr', Good W M0 (embOne t D d S1) hdr' M a w ∧ Used S hdr hdr' (used ++ projIds S [(t, D)]) ∧ ∀ b, b ≠ 4 * t + 3 → lk (embOne t D d S1).heap b = lk S1.heap b

theorem one_val (h : Good W M0 S hdr M a w) {t : Nat} {T : Ty} {d : T.den} {S1 : St} {hdr1 : Nat → Option Value} {used : List Nat} (g1 : Good W M0 S1 hdr1 M a w) (hu : Used S hdr hdr1 used) (hp : projVal S t T = some d) :
    OneOut W M0 S hdr M a w t (.val T) d S1 used := by
  unfold OneOut
  unfold projVal at hp
  split at hp
  · rename_i v hv
    have hrep := h.tm t
    rw [hv] at hrep
    refine ⟨hdr1, g1.setT (v := .v (v1Of T d)) ?_, fun b v g hb hg => ?_, fun b _ => rfl⟩
    · unfold takeV at hp
      split at hp
      · rename_i hs
        exact v1Of_of hs hrep (takeAll_nil hp (RepV1.cells hrep))
      · cases hp
    · obtain ⟨b0, h1, h2⟩ := hu b v g hb hg
      exact ⟨b0, List.mem_append.2 (.inl h1), h2⟩
  · cases hp

theorem one_row (h : Good W M0 S hdr M a w) {t fl : Nat} {et : TypeId} {T : Ty} {d : List T.den} {S1 : St} {hdr1 : Nat → Option Value} {used : List Nat} (g1 : Good W M0 S1 hdr1 M a w) (hu : Used S hdr hdr1 used) (hp : projRow S t fl et T = some d)
    (hn : (used ++ projIds S [(t, .row fl et T)]).Nodup) (hnew : lk S1.heap (4 * t + 3) = none) : OneOut W M0 S hdr M a w t (.row fl et T) d S1 used := by
  unfold OneOut
  unfold projRow at hp
  have hrep := h.tm t
  split at hp
  · rename_i hv
    split at hp
    case isFalse => cases hp
    rename_i hfl
    subst hfl
    cases hp
    rw [hv] at hrep
    have hv0 : a.tmps.getD t undef = .slice none 0 0 := hrep
    obtain ⟨hdr', k1, k2⟩ := g1.addBlk (t := t) (id := 4 * t + 3) (x := .v (.one (.row (4 * t + 3)))) (B := .row et T [] 0) (v := .slice none 0 0) hnew (fun h => by cases h) (fun _ => .inl ⟨rfl, rfl⟩) (fun _ _ _ _ _ _ hg => by cases hg)
      (fun hdr' h0 => ⟨by rw [hv0]; exact h0, by rw [hv0]; exact ⟨_, _, _, rfl⟩⟩)
    refine ⟨hdr', k1, fun b v g hb hg => ?_, fun b hb => by show (if _ then _ else _) = _; rw [if_neg (Ne.symm hb)]⟩
    rcases k2 b v hb with ⟨_, rfl⟩ | hb
    · cases hg
    · obtain ⟨b0, h1, h2⟩ := hu b v g hb hg
      exact ⟨b0, List.mem_append.2 (.inl h1), h2⟩
  · rename_i c hv
    split at hp
    · rename_i et' T' xs fz hb
      split at hp
      · rename_i hT
        split at hp
        · rename_i he
          cases hp
          obtain ⟨he, hfl, hf1⟩ := he
          subst hT; subst he; subst hfl
          rw [hv] at hrep
          have hb' := blkAt_some hb
          obtain ⟨v0, hv0, hB⟩ := h.hp c _ hb'
          obtain ⟨hh, hsl⟩ := hrep
          rw [hh] at hv0
          injection hv0 with hv0
          have hids : projIds S [(t, Desc.row fz et' T')] = [c] := by simp [projIds, hv]
          rw [hids] at hn ⊢
          have hcu : c ∉ used := fun hm => by
            rw [List.nodup_append] at hn
            exact hn.2.2 c hm c (by simp) rfl
          obtain ⟨hdr', k1, k2⟩ := g1.addBlk (t := t) (id := 4 * t + 3) (x := .v (.one (.row (4 * t + 3)))) (B := .row et' T' xs fz) (v := v0) hnew (fun hf => by rw [← h.ag c _ hb' hf, hh, hv0]) (fun _ => hB)
            (fun b' B' v' g hb2 hv2 hg hg2 => by
              obtain ⟨b0, m1, m2, B0, m3⟩ := hu b' v' g hv2 hg2
              exact h.sep c b0 _ B0 v0 v' g (fun e => hcu (by rw [e]; exact m1)) hb' m3 (by rw [hh, hv0]) m2 hg hg2)
            (fun hdr' h0 => ⟨by rw [hv0]; exact h0, hsl⟩)
          refine ⟨hdr', k1, fun b v g hb2 hg => ?_, fun b hb => by show (if _ then _ else _) = _; rw [if_neg (Ne.symm hb)]⟩
          rcases k2 b v hb2 with ⟨_, rfl⟩ | hb2
          · exact ⟨c, by simp, by rw [hh, hv0], _, hb'⟩
          · obtain ⟨b0, h1, h2⟩ := hu b v g hb2 hg
            exact ⟨b0, List.mem_append.2 (.inl h1), h2⟩
        · cases hp
      · cases hp
    · cases hp
  · cases hp

theorem one_box (h : Good W M0 S hdr M a w) {t fl : Nat} {et : TypeId} {T : Ty} {d : T.den} {S1 : St} {hdr1 : Nat → Option Value} {used : List Nat} (g1 : Good W M0 S1 hdr1 M a w) (hu : Used S hdr hdr1 used) (hp : projBox S t fl et T = some d)
    (hn : (used ++ projIds S [(t, .box fl et T)]).Nodup) (hnew : lk S1.heap (4 * t + 3) = none) : OneOut W M0 S hdr M a w t (.box fl et T) d S1 used := by
  unfold OneOut
  unfold projBox at hp
  have hrep := h.tm t
  split at hp
  · rename_i c hv
    split at hp
    · rename_i et' cs fz hb
      split at hp
      · rename_i he
        obtain ⟨he, hfl, hf1⟩ := he
        subst he; subst hfl
        rw [hv] at hrep
        have hb' := blkAt_some hb
        obtain ⟨v0, hv0, hB⟩ := h.hp c _ hb'
        obtain ⟨g0, hh, hval⟩ := hrep
        rw [hh] at hv0
        injection hv0 with hv0
        subst hv0
        obtain ⟨g', vs, e1, k1, k2, k3, k4⟩ := hB
        simp at e1; subst e1
        have hD := takeAll_nil hp k3
        have hids : projIds S [(t, Desc.box fz et' T)] = [c] := by simp [projIds, hv]
        rw [hids] at hn ⊢
        have hcu : c ∉ used := fun hm => by
          rw [List.nodup_append] at hn
          exact hn.2.2 c hm c (by simp) rfl
        obtain ⟨hdr', l1, l2⟩ := g1.addBlk (t := t) (id := 4 * t + 3) (x := .v (.one (.ptr (4 * t + 3) 0))) (B := .cells et' (cellsOf T d) fz) (v := .pointer (some ⟨g0, 0, none⟩)) hnew (fun hf => by have := h.ag c _ hb' hf; rw [hh] at this; exact this) (fun _ => ⟨g0, vs, rfl, k1, k2, hD.cells, fun p hp e => absurd (k4 p hp e).1 hf1⟩)
          (fun b' B' v' g hb2 hv2 hg hg2 => by
            obtain ⟨b0, m1, m2, B0, m3⟩ := hu b' v' g hv2 hg2
            exact h.sep c b0 _ B0 _ v' g (fun e => hcu (by rw [e]; exact m1)) hb' m3 hh m2 hg hg2)
          (fun hdr' h0 => ⟨g0, h0, hval⟩)
        refine ⟨hdr', l1, fun b v g hb2 hg => ?_, fun b hb => by show (if _ then _ else _) = _; rw [if_neg (Ne.symm hb)]⟩
        rcases l2 b v hb2 with ⟨_, rfl⟩ | hb2
        · exact ⟨c, by simp, hh, _, hb'⟩
        · obtain ⟨b0, h1, h2⟩ := hu b v g hb2 hg
          exact ⟨b0, List.mem_append.2 (.inl h1), h2⟩
      · cases hp
    · cases hp
  · cases hp

/-- The variables of a loop, laid out anew. -/
theorem emb_good (h : Good W M0 S hdr M a w) : ∀ (vs : Vars) (s : vs.den) (S1 : St) (hdr1 : Nat → Option Value) (used : List Nat), Good W M0 S1 hdr1 M a w → Used S hdr hdr1 used → proj S vs = some s → (used ++ projIds S vs).Nodup →
    (∀ x ∈ vs, lk S1.heap (4 * x.1 + 3) = none) → (vs.map (·.1)).Nodup → ∃ hdr', Good W M0 (emb vs s S1) hdr' M a w := by
  -- one variable
  have one : ∀ (t : Nat) (D : Desc) (d : D.den) (S1 : St) (hdr1 : Nat → Option Value) (used : List Nat), Good W M0 S1 hdr1 M a w → Used S hdr hdr1 used → projOne S t D = some d → (used ++ projIds S [(t, D)]).Nodup → lk S1.heap (4 * t + 3) = none →
      OneOut W M0 S hdr M a w t D d S1 used := by
    intro t D d S1 hdr1 used g1 hu hp hn hnew
    cases D with
    | val T => exact one_val h g1 hu hp
    | row fl et T => exact one_row h g1 hu hp hn hnew
    | box fl et T => exact one_box h g1 hu hp hn hnew
  intro vs
  induction vs with
  | nil => intro s S1 hdr1 used g1 _ _ _ _ _; exact ⟨hdr1, g1⟩
  | cons x vs ih =>
    intro s S1 hdr1 used g1 hu hp hn hnew hnd
    have hn1 : (used ++ projIds S [x]).Nodup := by
      refine hn.sublist (List.Sublist.append (List.Sublist.refl _) ?_)
      show (_ ++ []).Sublist (_ ++ projIds S vs)
      exact List.Sublist.append (List.Sublist.refl _) (List.nil_sublist _)
    cases vs with
    | nil =>
      obtain ⟨hdr', k1, _⟩ := one x.1 x.2 s S1 hdr1 used g1 hu hp hn1 (hnew x (by simp))
      exact ⟨hdr', k1⟩
    | cons y vs =>
      have hp' : ((projOne S x.1 x.2).bind fun a => (proj S (y :: vs)).bind fun b => some (a, b)) = some s := hp
      obtain ⟨d, hd, hp'⟩ := Option.bind_eq_some_iff.1 hp'
      obtain ⟨ds, hds, hp'⟩ := Option.bind_eq_some_iff.1 hp'
      cases hp'
      obtain ⟨hdr', k1, k2, k3⟩ := one x.1 x.2 d S1 hdr1 used g1 hu hd hn1 (hnew x (by simp))
      simp only [List.map_cons, List.nodup_cons] at hnd
      refine ih ds _ hdr' (used ++ projIds S [x]) k1 k2 hds ?_ ?_ (by simpa using hnd.2)
      · have e : projIds S [x] ++ projIds S (y :: vs) = projIds S (x :: y :: vs) := by
          show (_ ++ []) ++ projIds S (y :: vs) = _ ++ projIds S (y :: vs)
          rw [List.append_nil]
        rw [List.append_assoc, e]; exact hn
      · intro z hz
        rw [k3 _ (fun e => ?_)]
        · exact hnew z (by simp [List.mem_cons.1 hz])
        · have hzx : z.1 = x.1 := by omega
          have : x.1 ∈ (y :: vs).map (·.1) := by rw [← hzx]; exact List.mem_map_of_mem hz
          simp only [List.map_cons] at this
          exact hnd.1 this

theorem proj_sound {n : Nat} {vs : Vars} {s : vs.den} (hG : G W M0 S a w) (hok : projOk n vs S = true) (hp : proj S vs = some s) : G W M0 (embSt n vs s) a w := by
  obtain ⟨hdr, M, h⟩ := hG
  unfold projOk at hok
  simp only [Bool.and_eq_true, beq_iff_eq] at hok
  obtain ⟨⟨h1, h2⟩, h3⟩ := hok
  have h0 : Good W M0 (St.empty n) (fun _ => none) M a w :=
    ⟨h.ext, h.nod, by simp [St.empty, ← h1, h.len], fun t => by
      have : (((St.empty n).tmps[t]?).getD AV.undef) = .undef := by
        simp [St.empty, List.getElem?_replicate]
        split <;> rfl
      rw [this]; trivial, fun b B hb => none_some hb, fun _ _ => rfl, fun b b' B B' v v' g _ hb => none_some hb, h.ml, h.mo, fun b B hb => none_some hb⟩
  obtain ⟨hdr', g⟩ := emb_good h vs s (St.empty n) (fun _ => none) [] h0 (fun b v g hb => none_some hb) hp (by simpa using noDup_spec h3) (fun _ _ => rfl) (noDup_spec h2)
  exact ⟨hdr', M, g⟩

theorem embK_eq {α : Type} (vs : Vars) (x : vs.den) (n : Nat) (k : St → α) : embK vs x n k = k (embSt n vs x) := by
  unfold embK
  rw [force_eq, force_eq]
  rfl

/-- THE CODE. -/
theorem exec_sound (hE : EnvOK P E) {n : Nat} {r : R} : ∀ (c : Code) (S : St) (k : Ex → St → Option R) (a : Act) (w : World) (Q : Exit → Act → World → Prop), (∀ b ∈ loopsOf c, ∀ L, E.loops.lookup (key b) = some L → LoopOK P n L b) →
    exec E n c S k = some r → G W M0 S a w → (∀ e S' a' w', k e S' = some r → G W M0 S' a' w' → Q (exOf e) a' w') → c.wp P Q a w := by
  intro c
  induction c with
  | skip =>
    intro S k a w Q _ h hG hQ
    exact wp_skip (hQ .normal S a w h hG)
  | region id ops d =>
    intro S k a w Q _ h hG hQ
    cases d with
    | false => exact wp_region_list (runOps_sound hE (fun S' a' w' hk hg => hQ .normal S' a' w' hk hg) _ S a w h hG)
    | true => exact draw_sound hE (k := k .normal) h hG fun S' S2 a' w' hk hs hg => hQ .normal S' a' w' hk (hg.same hs)
  | seq x y ihx ihy =>
    intro S k a w Q hL h hG hQ
    refine wp_seq (ihx S _ a w _ (fun b hb => hL b (by simp only [loopsOf, List.mem_append]; exact .inl hb)) h hG fun e S' a' w' hk hg => ?_)
    cases e with
    | normal => exact ihy S' k a' w' Q (fun b hb => hL b (by simp only [loopsOf, List.mem_append]; exact .inr hb)) hk hg hQ
    | ret => exact hQ .ret S' a' w' hk hg
    | exit i => exact hQ (.exit i) S' a' w' hk hg
  | cond c x y ihx ihy =>
    intro S k a w Q hL h hG hQ
    unfold exec at h
    split at h
    · rename_i t
      split at h
      · rename_i b hb
        obtain ⟨hdr, M, g⟩ := hG
        have hv : a.eval (.tmp t) = .bool b := g.bool hb
        have hs := refine_same hb
        rcases br_some h with ⟨rfl, h⟩ | ⟨rfl, h⟩
        · rw [hs] at h
          exact wp_cond_true hv (ihx S k a w Q (fun b hb => hL b (by simp only [loopsOf, List.mem_append]; exact .inl hb)) h ⟨hdr, M, g⟩ hQ)
        · rw [hs] at h
          exact wp_cond_false hv (ihy S k a w Q (fun b hb => hL b (by simp only [loopsOf, List.mem_append]; exact .inr hb)) h ⟨hdr, M, g⟩ hQ)
      · cases h
    · cases h
  | block id b ih =>
    intro S k a w Q hL h hG hQ
    refine wp_block (ih S _ a w _ hL h hG fun e S' a' w' hk hg => ?_)
    cases e with
    | normal => exact hQ .normal S' a' w' hk hg
    | ret => exact hQ .ret S' a' w' hk hg
    | exit i =>
      show (if i = id then Q .normal a' w' else Q (.exit i) a' w')
      dsimp only at hk
      split at hk
      · rename_i e; rw [if_pos e]; exact hQ .normal S' a' w' hk hg
      · rename_i e; rw [if_neg e]; exact hQ (.exit i) S' a' w' hk hg
  | loop b _ =>
    intro S k a w Q hL h hG hQ
    unfold exec at h
    split at h
    · rename_i L hl
      obtain ⟨hok, h⟩ := chk_some h
      obtain ⟨s, hs, h⟩ := Option.bind_eq_some_iff.1 h
      have hg := proj_sound hG hok hs
      have hlo := hL b (by simp [loopsOf]) L hl W M0 s a w Q hg
      cases hF : L.F with
      | plain F =>
        rw [hF] at hlo h
        obtain ⟨r1, h1, h2⟩ := ob_some h
        rw [embK_eq] at h2
        exact hlo r1 h1 fun a' w' hg' => hQ (.exit L.out) _ a' w' h2 hg'
      | two F =>
        rw [hF] at hlo h
        obtain ⟨r1, h1, h2⟩ := ob_some h
        refine hlo r1 h1 fun a' w' hg' => ?_
        rcases br_some h2 with ⟨hb, h2⟩ | ⟨hb, h2⟩
        · rw [embK_eq] at h2
          rw [hb]; exact hQ (.exit L.out) _ a' w' h2 hg'
        · rw [embK_eq] at h2
          rw [hb]; exact hQ .ret _ a' w' h2 hg'
    · cases h
  | exit id =>
    intro S k a w Q _ h hG hQ
    exact wp_exit (hQ (.exit id) S a w h hG)
  | ret =>
    intro S k a w Q _ h hG hQ
    exact wp_ret (hQ .ret S a w h hG)
  | rangeFunc => intro S k a w Q _ h; simp [exec] at h
  | scope => intro S k a w Q _ h; simp [exec] at h
  | label => intro S k a w Q _ h; simp [exec] at h
  | goto => intro S k a w Q _ h; simp [exec] at h
  | refuse => intro S k a w Q _ h; simp [exec] at h

/-! ### Loops -/
theorem wp_loop_ind {c : Code} {Q : Exit → Act → World → Prop} (J : Nat → Act → World → Prop) (round : ∀ m a w, J m a w → c.wp P (Exit.then (fun a' w' => ∃ m', m' < m ∧ J m' a' w') Q) a w) :
    ∀ (m : Nat) (a : Act) (w : World), J m a w → (Code.loop c).wp P Q a w := by
  intro m a w hJ b k cs
  have key : ∀ m a w, J m a w → ∃ e a' w', Q e a' w' ∧ Arrives P (lone (b.at a (.code c :: .inLoop c :: k)) cs w) b k cs e a' w' := by
    intro m
    induction m using Nat.strongRecOn with
    | _ m ih =>
      intro a w hJ
      obtain ⟨e, a₁, w₁, hq, harr⟩ := round m a w hJ b (.inLoop c :: k) cs
      cases e with
      | normal =>
        obtain ⟨m', hlt, hJ'⟩ := hq
        obtain ⟨e₂, a₂, w₂, hq₂, harr₂⟩ := ih m' hlt a₁ w₁ hJ'
        exact ⟨e₂, a₂, w₂, hq₂, .of_steps (Steps.trans harr (.one step_inLoop)) harr₂⟩
      | exit id => exact ⟨_, a₁, w₁, hq, .pass (x := .inLoop c) rfl (fun _ _ => .inl (by simp)) harr⟩
      | goto l => exact ⟨_, a₁, w₁, hq, .pass (x := .inLoop c) rfl (fun _ _ => .inl (by simp)) harr⟩
      | ret => exact ⟨_, a₁, w₁, hq, .pass (x := .inLoop c) rfl (fun _ _ => .inl (by simp)) harr⟩
      | panic ch => exact ⟨_, a₁, w₁, hq, .pass (x := .inLoop c) rfl (fun _ _ => .inl (by simp)) harr⟩
      | outgrown => exact ⟨_, a₁, w₁, hq, .pass (x := .inLoop c) rfl (fun _ _ => .inl (by simp)) harr⟩
  obtain ⟨e, a', w', hq, harr⟩ := key m a w hJ
  exact ⟨e, a', w', hq, .of_steps (.one step_loop) harr⟩

/-- One round. -/
theorem step_sound (hE : EnvOK P E) {n : Nat} {vs : Vars} {out : Nat} {body : Code} {s s' : vs.den} {x : LRes} {Q : Exit → Act → World → Prop} (hl : AllLoops P E n (loopsOf body)) (h : stepOf E n vs out body s = some (x, s')) (hG : G W M0 (embSt n vs s) a w)
    (hQ : ∀ a' w', G W M0 (embSt n vs s') a' w' → Q (match x with | .next => .normal | .out => .exit out | .ret => .ret) a' w') : body.wp P Q a w := by
  unfold stepOf at h
  rw [force_eq, force_eq] at h
  refine exec_sound hE body (embSt n vs s) _ a w Q hl.get h hG fun e S' a' w' hk hg => ?_
  cases e with
  | normal =>
    obtain ⟨hok, hk⟩ := chk_some hk
    obtain ⟨s2, hs2, hk⟩ := Option.bind_eq_some_iff.1 hk
    cases hk
    exact hQ a' w' (proj_sound hg hok hs2)
  | ret =>
    obtain ⟨hok, hk⟩ := chk_some hk
    obtain ⟨s2, hs2, hk⟩ := Option.bind_eq_some_iff.1 hk
    cases hk
    exact hQ a' w' (proj_sound hg hok hs2)
  | exit i =>
    dsimp only at hk
    split at hk
    · rename_i e; subst e
      obtain ⟨hok, hk⟩ := chk_some hk
      obtain ⟨s2, hs2, hk⟩ := Option.bind_eq_some_iff.1 hk
      cases hk
      exact hQ a' w' (proj_sound hg hok hs2)
    · cases hk

theorem iter_loop (hE : EnvOK P E) {n : Nat} {vs : Vars} {out : Nat} {body : Code} (step : vs.den → Option (LRes × vs.den)) (fuel : vs.den → Nat) (hl : AllLoops P E n (loopsOf body)) (hstep : ∀ s, stepOf E n vs out body s = step s) :
    LoopOK P n ⟨vs, out, .two fun s => iter step (fuel s) s⟩ body := by
  intro W M0 s a w Q hG r hr hQ
  refine wp_loop_ind (fun m a w => ∃ s, iter step m s = some r ∧ G W M0 (embSt n vs s) a w) ?_ (fuel s) a w ⟨s, hr, hG⟩
  rintro m a w ⟨s, hr, hG⟩
  cases m with
  | zero => cases hr
  | succ m =>
    simp only [iter] at hr
    obtain ⟨q, hq, hr⟩ := ob_some hr
    obtain ⟨x, s'⟩ := q
    refine step_sound hE hl ((hstep s).trans hq) hG fun a' w' hg => ?_
    cases x with
    | next => exact ⟨m, by omega, s', hr, hg⟩
    | out => cases hr; exact hQ a' w' hg
    | ret => cases hr; exact hQ a' w' hg
theorem iterP_loop (hE : EnvOK P E) {n : Nat} {vs : Vars} {out : Nat} {body : Code} (step : vs.den → Option (LRes × vs.den)) (fuel : vs.den → Nat) (hl : AllLoops P E n (loopsOf body)) (hstep : ∀ s, stepOf E n vs out body s = step s) :
    LoopOK P n ⟨vs, out, .plain fun s => iterP step (fuel s) s⟩ body := by
  intro W M0 s a w Q hG r hr hQ
  refine wp_loop_ind (fun m a w => ∃ s, iterP step m s = some r ∧ G W M0 (embSt n vs s) a w) ?_ (fuel s) a w ⟨s, hr, hG⟩
  rintro m a w ⟨s, hr, hG⟩
  cases m with
  | zero => cases hr
  | succ m =>
    simp only [iterP] at hr
    obtain ⟨q, hq, hr⟩ := ob_some hr
    obtain ⟨x, s'⟩ := q
    refine step_sound hE hl ((hstep s).trans hq) hG fun a' w' hg => ?_
    cases x with
    | next => exact ⟨m, by omega, s', hr, hg⟩
    | out => cases hr; exact hQ a' w' hg
    | ret => cases hr
end
end Rx
end Go.Proofs.Ytghglneafibliaa
