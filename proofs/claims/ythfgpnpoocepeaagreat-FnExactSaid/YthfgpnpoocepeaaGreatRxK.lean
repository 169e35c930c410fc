/- The evaluator's calls are true of the program's; all operations together. No conditions. -/
import Derived.Test.YthfgpnpoocepeaaGreatRxMap
namespace Go.Proofs.YthfgpnpoocepeaaGreat
open Go.RowKit
namespace Rx

section
variable {P : Program} {W : WX} {M0 : Mem} {S : St} {hdr : Nat → Option Value} {inn : Nat → List Nat} {M : Mem} {a : Act} {w : World} {o : Oper} {e : Eff} {id : Nat} {E : Env}

def BlkAt (w : World) (M : Mem) (hdr : Nat → Option Value) (base : Nat → Prop) (q : Nat × Option Blk) (v : Hd) : Prop := ∃ B, q.2 = some B ∧ B.fz = 0 ∧ RepBlk w M hdr (fun _ => base) B v.1 v.2

theorem shift_hs {hs1 hs2 : List Hd} {n : Nat} (hh : ∀ (j : Nat) v, (hs1 ++ hs2)[j]? = some v → hdr (n + j) = some v.1) : (∀ (j : Nat) v, hs1[j]? = some v → hdr (n + j) = some v.1) ∧ (∀ (j : Nat) v, hs2[j]? = some v → hdr (n + hs1.length + j) = some v.1) := shift_hd hh

theorem RepBlk.isSlice {base : Nat → Nat → Prop} {t : TypeId} {T : RTy} {xs : List T.den} {op : Option (Nat × List Cell)} {fz : Nat} {v : Value} {gs : List Nat} (h : RepBlk w M hdr base (.deep t T xs op fz) v gs) : ∃ A n c, v = .slice A n c := by
  rcases h with ⟨_, _, rfl, _⟩ | ⟨g, cap, vs, gi, rfl, _⟩ <;> exact ⟨_, _, _, rfl⟩
theorem RepBlk.deepNone {hdr hdr' : Nat → Option Value} {base : Nat → Nat → Prop} {t : TypeId} {T : RTy} {xs : List T.den} {fz : Nat} {v : Value} {gs : List Nat} (h : RepBlk w M hdr base (.deep t T xs none fz) v gs) : RepBlk w M hdr' base (.deep t T xs none fz) v gs := by
  rcases h with h | ⟨g, cap, vs, gi, h1, h2, h3, h4, h5, h6, h7, h8, h9, h10⟩
  · exact .inl h
  · exact .inr ⟨g, cap, vs, gi, h1, h2, h3, h4, h5, h6, h7, h8, h9, h10⟩
theorem RepBlk.isMap {base : Nat → Nat → Prop} {fr : Bool} {t : TypeId} {e : Ty} {x : (OK.mp fr t e).den} {fz : Nat} {v : Value} {gs : List Nat} (h : RepBlk w M hdr base (.obj (.mp fr t e) x fz) v gs) : ∃ g, v = .map g := by
  rcases h.1 with ⟨_, _, h1, _⟩ | ⟨g, es, cl, gi, h1, _⟩
  · exact ⟨_, h1⟩
  · exact ⟨_, h1⟩
/-- A row that is nil or not, as a row. -/
theorem RepBlk.ofNrow {base : Nat → Nat → Prop} {t : TypeId} {e : Ty} {x : (OK.nrow t e).den} {v : Value} {gs : List Nat} (h : RepBlk w M hdr base (.obj (.nrow t e) x 0) v gs) : RepBlk w M hdr base (.row t e (OK.olist x) 0) v gs := by
  obtain ⟨hO, hb, hm⟩ := h
  rcases hO with ⟨h0, h1, h2⟩ | ⟨xs, g, cap, us, h0, h1, rfl, h2, h3, h4, h5, h6⟩
  · exact .inl ⟨by unfold OK.olist; rw [h0]; rfl, h1, h2⟩
  · have : OK.olist x = xs := by unfold OK.olist; rw [h0]; rfl
    rw [this]
    exact .inr ⟨g, cap, us, h1, rfl, hb g (by simp), h2, h3, h4, h5, h6, fun p hp he => by have := hm p hp (by simp [he]); omega⟩
theorem resCells_rep {base : Nat → Prop} : ∀ {T : RTy} {x : T.den} {vs : List Value} {hs : List Hd} {n : Nat}, RepR base w M T x vs hs → (∀ (j : Nat) v, hs[j]? = some v → hdr (n + j) = some v.1) →
    All2 (RepC w M hdr) (resCells T x n).1 vs ∧ (resCells T x n).2.2 = n + hs.length ∧ All2 (BlkAt w M hdr base) (resCells T x n).2.1 hs ∧ (resCells T x n).2.1.map (·.1) = List.range' n hs.length
  | .d T, x, vs, hs, n, h, hh => by
    obtain ⟨h1, rfl⟩ := h
    exact ⟨h1.cells, rfl, trivial, rfl⟩
  | .row t T, xs, vs, hs, n, h, hh => by
    obtain ⟨v, gs, rfl, rfl, hB⟩ := h
    have := hh 0 (v, gs) rfl
    refine ⟨.one ⟨this, ?_⟩, rfl, .one ⟨_, rfl, rfl, hB⟩, rfl⟩
    rcases hB with ⟨_, rfl, _⟩ | ⟨g, cap, vs, rfl, _⟩ <;> exact ⟨_, _, _, rfl⟩
  | .deep t T, xs, vs, hs, n, h, hh => by
    obtain ⟨v, gs, rfl, rfl, hB⟩ := h
    have := hh 0 (v, gs) rfl
    refine ⟨.one ⟨this, hB.isSlice⟩, rfl, .one ⟨_, rfl, rfl, hB.deepNone⟩, rfl⟩
  | .mp fr t e, x, vs, hs, n, h, hh => by
    obtain ⟨v, gs, rfl, rfl, hB⟩ := h
    have := hh 0 (v, gs) rfl
    refine ⟨.one ⟨this, hB.isMap⟩, rfl, .one ⟨_, rfl, rfl, hB⟩, rfl⟩
  | .pair A B, x, vs, hs, n, h, hh => by
    obtain ⟨v1, v2, h1, h2, rfl, rfl, ha, hb⟩ := h
    obtain ⟨s1, s2⟩ := shift_hs hh
    obtain ⟨a1, a2, a3, a4⟩ := resCells_rep ha s1
    obtain ⟨b1, b2, b3, b4⟩ := resCells_rep (n := (resCells A x.1 n).2.2) hb (by rw [a2]; exact s2)
    refine ⟨a1.append b1, ?_, a3.append b3, ?_⟩
    · show (resCells B x.2 _).2.2 = _
      rw [b2, a2, List.length_append]; omega
    · show List.map _ ((resCells A x.1 n).2.1 ++ (resCells B x.2 _).2.1) = _
      rw [List.map_append, a4, b4, a2, List.length_append, List.range'_append_1]
  | .box t T, x, vs, hs, n, h, hh => by
    obtain ⟨v, gs, rfl, rfl, hB⟩ := h
    have h0 := hh 0 (v, gs) rfl
    refine ⟨.one ?_, rfl, .one ⟨_, rfl, rfl, hB.boxNone⟩, rfl⟩
    obtain ⟨g, us, rfl, _⟩ := hB
    exact ⟨g, h0, rfl⟩

theorem resV1_rep {base : Nat → Prop} {T : RTy} {x : T.den} {v : Value} {hs : List Hd} {n : Nat} (hS : ShapeR T v) (h : RepR base w M T x v.cells.toList hs) (hh : ∀ (j : Nat) v, hs[j]? = some v → hdr (n + j) = some v.1) :
    RepV1 w M hdr (resV1 T x n).1 v ∧ (resV1 T x n).2.2 = n + hs.length ∧ All2 (BlkAt w M hdr base) (resV1 T x n).2.1 hs ∧ (resV1 T x n).2.1.map (·.1) = List.range' n hs.length := by
  have one : v.oneCell' = true → v.cells = #[v] := fun h1 => by cases v <;> first | rfl | (simp [Value.oneCell'] at h1)
  cases T with
  | d T =>
    obtain ⟨h1, rfl⟩ := h
    refine ⟨?_, rfl, trivial, rfl⟩
    have hc := h1.cells (hdr := hdr)
    cases T with
    | pair A B =>
      obtain ⟨cs, rfl⟩ : ∃ cs : List Value, v = .agg cs.toArray := by simpa [ShapeR, aggR] using hS
      exact ⟨cs, rfl, by simpa only [Value.cells] using hc⟩
    | unit =>
      obtain ⟨cs, rfl⟩ : ∃ cs : List Value, v = .agg cs.toArray := by simpa [ShapeR, aggR] using hS
      have hc' : All2 (RepC w M hdr) (cellsOf .unit x) cs := by simpa only [Value.cells] using hc
      exact ⟨cs, rfl, hc'⟩
    | int k => have h2 : v.oneCell' = true := by simpa [ShapeR, aggR] using hS
               rw [one h2] at hc; exact hc.1
    | bool => have h2 : v.oneCell' = true := by simpa [ShapeR, aggR] using hS
              rw [one h2] at hc; exact hc.1
    | str => have h2 : v.oneCell' = true := by simpa [ShapeR, aggR] using hS
             rw [one h2] at hc; exact hc.1
    | slice T => have h2 : v.oneCell' = true := by simpa [ShapeR, aggR] using hS
                 rw [one h2] at hc; exact hc.1
    | ref T => rw [one (by simpa [ShapeR, aggR] using hS)] at hc; exact hc.1
    | clo f T => rw [one (by simpa [ShapeR, aggR] using hS)] at hc; exact hc.1
  | row t T =>
    have h2 : v.oneCell' = true := by simpa [ShapeR, aggR] using hS
    rw [one h2] at h
    obtain ⟨a1, a2, a3, a4⟩ := resCells_rep h hh
    exact ⟨a1.1, a2, a3, a4⟩
  | pair A B =>
    obtain ⟨cs, rfl⟩ : ∃ cs : List Value, v = .agg cs.toArray := by simpa [ShapeR, aggR] using hS
    obtain ⟨a1, a2, a3, a4⟩ := resCells_rep h hh
    exact ⟨⟨cs, rfl, by simpa only [Value.cells] using a1⟩, a2, a3, a4⟩
  | box t T =>
    rw [one (by simpa [ShapeR, aggR] using hS)] at h
    obtain ⟨a1, a2, a3, a4⟩ := resCells_rep h hh
    exact ⟨a1.1, a2, a3, a4⟩
  | deep t T =>
    have h2 : v.oneCell' = true := by simpa [ShapeR, aggR] using hS
    rw [one h2] at h
    obtain ⟨a1, a2, a3, a4⟩ := resCells_rep h hh
    exact ⟨a1.1, a2, a3, a4⟩
  | mp fr t e =>
    have h2 : v.oneCell' = true := by simpa [ShapeR, aggR] using hS
    rw [one h2] at h
    obtain ⟨a1, a2, a3, a4⟩ := resCells_rep h hh
    exact ⟨a1.1, a2, a3, a4⟩

theorem resAll_rep {base : Nat → Prop} : ∀ {Ts : List RTy} {x : RDens Ts} {rs : List Value} {hs : List Hd} {n : Nat}, RepRs base w M Ts x rs hs → (∀ (j : Nat) v, hs[j]? = some v → hdr (n + j) = some v.1) →
    All2 (RepV1 w M hdr) (resAll Ts x n).1 rs ∧ All2 (BlkAt w M hdr base) (resAll Ts x n).2 hs ∧ (resAll Ts x n).2.map (·.1) = List.range' n hs.length
  | [], x, rs, hs, n, h, hh => by
    obtain ⟨rfl, rfl⟩ := h
    exact ⟨trivial, trivial, rfl⟩
  | [T], x, rs, hs, n, h, hh => by
    obtain ⟨v, rfl, hS, h⟩ := h
    obtain ⟨a1, a2, a3, a4⟩ := resV1_rep hS h hh
    exact ⟨.one a1, a3, a4⟩
  | T :: U :: Ts, x, rs, hs, n, h, hh => by
    obtain ⟨v, r, h1, h2, rfl, rfl, hS, ha, hb⟩ := h
    obtain ⟨s1, s2⟩ := shift_hs hh
    obtain ⟨a1, a2, a3, a4⟩ := resV1_rep hS ha s1
    obtain ⟨b1, b2, b3⟩ := resAll_rep (n := (resV1 T x.1 n).2.2) hb (by rw [a2]; exact s2)
    refine ⟨⟨a1, b1⟩, a3.append b2, ?_⟩
    show List.map _ ((resV1 T x.1 n).2.1 ++ (resAll (U :: Ts) x.2 _).2) = _
    rw [List.map_append, a4, b3, a2, List.length_append, List.range'_append_1]

theorem resAV_rep {xs : List V1} {rs : List Value} (h : All2 (RepV1 w M hdr) xs rs) : RepAV w M hdr (tupAV xs) (retOf rs) := by
  match xs, rs, h with
  | [], [], h => exact ⟨[], rfl, h⟩
  | [x], [r], h => exact h.1
  | x :: y :: xs, r :: s :: rs, h => exact ⟨_, rfl, h⟩
  | [x], _ :: _ :: _, h => exact h.2.elim
  | _ :: _ :: _, [r], h => exact h.2.elim

theorem lookup_of_range {l : List (Nat × Option Blk)} {hs : List Hd} {n b : Nat} {base : Nat → Prop} (hA : All2 (BlkAt w M hdr base) l hs) (hr : l.map (·.1) = List.range' n hs.length) :
    (∀ x, l.lookup b = some x → ∃ j v B, b = n + j ∧ hs[j]? = some v ∧ x = some B ∧ B.fz = 0 ∧ RepBlk w M hdr (fun _ => base) B v.1 v.2) ∧ (l.lookup b = none → ¬ (n ≤ b ∧ b < n + hs.length)) :=
  lookup_range (R := fun B v => B.fz = 0 ∧ RepBlk w M hdr (fun _ => base) B v.1 v.2) hA hr

/-- Another world, with what some blocks hold now. -/
theorem Good.move {M2 : Mem} {w' : World} {H' : Heap} {inn' : Nat → List Nat} (h : Good W M0 S hdr inn M a w) (hE : ExtW W w') (hc : ∀ p, M p → w'.cell? p = w.cell? p) (hM : ∀ p, M p → M2 p) (hM2 : ∀ p, M2 p → p.block < w'.heap.size ∧ (M0 p ∨ W.nw p.block))
    (hn : ∀ b, lk H' b = none → lk S.heap b = none) (hB : ∀ b B', lk H' b = some (some B') → ∃ B v, lk S.heap b = some (some B) ∧ hdr b = some v ∧ B'.fz = B.fz ∧ RepBlk w' M2 hdr W.fresh B' v (inn' b))
    (hS : ∀ b b' B B' g, b ≠ b' → lk H' b = some (some B) → lk H' b' = some (some B') → g ∈ inn' b → g ∉ inn' b') : Good W M0 ⟨S.tmps, H'⟩ hdr inn' M2 a w' := by
  refine ⟨hE, h.nod, h.len, fun t => (h.tm t).keep hc hM (fun _ _ h => h), ?_, fun b hb => h.un b (hn b hb), hS, fun p hp => (hM2 p hp).1, fun p hp => (hM2 p hp).2, ?_⟩
  · intro b B' hb
    obtain ⟨B, v, _, k2, _, k4⟩ := hB b B' hb
    exact ⟨v, k2, k4⟩
  · intro b C hb hf hf2
    obtain ⟨B, v, k1, k2, k3, _⟩ := hB b C hb
    rw [k3] at hf hf2 ⊢
    exact h.ag b B k1 hf hf2

/-- Results are taken over that lie in blocks of their own. -/
theorem Good.addRes {cod : List RTy} {y : RDens cod} {rs : List Value} {hs : List Hd} {dst : Option Tmp} {rd : List Nat} {base : Nat → Prop} (h : Good W M0 S hdr inn M a w) (hR : RepRs base w M cod y rs hs) (hbs : ∀ g, base g → W.w.heap.size ≤ g)
    (hnd : (gsOf hs).Nodup) (hsp : ∀ g ∈ gsOf hs, ∀ b B, lk S.heap b = some (some B) → g ∉ inn b) (hnew : ((resAV cod y id).2.map (·.1)).all (isNew S.heap) = true) :
    ∃ hdr' inn', Good W M0 (S.app dst ⟨(resAV cod y id).1, (resAV cod y id).2, rd⟩) hdr' inn' M (a.put dst (retOf rs)) w := by
  let hdr' : Nat → Option Value := fun b => if id ≤ b ∧ b < id + hs.length then (hs[b - id]?).map (·.1) else hdr b
  let inn' : Nat → List Nat := fun b => if id ≤ b ∧ b < id + hs.length then ((hs[b - id]?).map (·.2)).getD [] else inn b
  have hin : ∀ (j : Nat) v, hs[j]? = some v → hdr' (id + j) = some v.1 := fun j v hv => by
    have hj := (List.getElem?_eq_some_iff.1 hv).1
    show (if _ then _ else _) = _
    rw [if_pos ⟨by omega, by omega⟩, show id + j - id = j by omega, hv]
    rfl
  have hii : ∀ (j : Nat) v, hs[j]? = some v → inn' (id + j) = v.2 := fun j v hv => by
    have hj := (List.getElem?_eq_some_iff.1 hv).1
    show (if _ then _ else _) = _
    rw [if_pos ⟨by omega, by omega⟩, show id + j - id = j by omega, hv]
    rfl
  obtain ⟨a1, a2, a3⟩ := resAll_rep (hdr := hdr') hR hin
  have hwr : (resAV cod y id).2 = (resAll cod y id).2 := rfl
  have hnl : ∀ b, id ≤ b → b < id + hs.length → lk S.heap b = none := by
    intro b h1 h2
    rw [hwr, a3, List.all_eq_true] at hnew
    have := hnew b (by rw [List.mem_range'_1]; exact ⟨h1, h2⟩)
    simpa [isNew] using this
  have hout : ∀ b v, hdr b = some v → ¬ (id ≤ b ∧ b < id + hs.length) := fun b v hv hb => by
    rw [h.un b (hnl b hb.1 hb.2)] at hv; cases hv
  have hh : ∀ b v, hdr b = some v → hdr' b = some v := fun b v hv => by
    show (if _ then _ else _) = _
    rw [if_neg (hout b v hv)]; exact hv
  have hnd' : ((resAll cod y id).2.map (·.1)).Nodup := by rw [a3]; exact List.nodup_range'
  have hlk : ∀ b, lk (setAll S.heap (resAV cod y id).2) b = (match (resAll cod y id).2.lookup b with | some x => some x | none => lk S.heap b) := fun b => lk_setAll _ _ _ hnd'
  have cases_of : ∀ b B, lk (setAll S.heap (resAV cod y id).2) b = some (some B) → (∃ j v, b = id + j ∧ hs[j]? = some v ∧ B.fz = 0 ∧ RepBlk w M hdr' (fun _ => base) B v.1 v.2) ∨ (lk S.heap b = some (some B) ∧ ¬ (id ≤ b ∧ b < id + hs.length) ∧ inn' b = inn b ∧ ∃ v, hdr b = some v ∧ RepBlk w M hdr W.fresh B v (inn b)) := by
    intro b B hb
    rw [hlk] at hb
    obtain ⟨c1, c2⟩ := lookup_of_range (b := b) a2 a3
    split at hb
    · rename_i x hx
      cases hb
      obtain ⟨j, v, B', rfl, k1, k2, kz, k3⟩ := c1 _ hx
      cases k2
      exact .inl ⟨j, v, rfl, k1, kz, k3⟩
    · rename_i hx
      obtain ⟨v, hv, hr⟩ := h.hp b B hb
      exact .inr ⟨hb, c2 hx, if_neg (c2 hx), v, hv, hr⟩
  have bm : ∀ {B : Blk} {v : Value} {gs : List Nat}, B.fz = 0 → RepBlk w M hdr' (fun _ => base) B v gs → RepBlk w M hdr' W.fresh B v gs := by
    intro B v gs hz hB
    have e : B.held 0 = B := by rw [← hz]; exact Blk.held_self B
    have := hB.see (base' := W.fresh) (fz := 0) (fun _ h => h) (fun g hg hb => .new (hbs g hb) (by decide)) fun p hp hm => by
      have := (hB.seen p hp hm).1
      omega
    rwa [e] at this
  have mem_own : ∀ {j : Nat} {v : Hd} {g : Nat}, hs[j]? = some v → g ∈ v.2 → g ∈ gsOf hs := fun hj hg => mem_gsOf.2 ⟨_, List.mem_of_getElem? hj, hg⟩
  refine ⟨hdr', inn', h.step h.ext (Nat.le_refl _) (fun _ _ => rfl) (fun _ h => h) hh (fun p hp => ⟨h.ml p hp, h.mo p hp⟩) ?_ ?_ ?_ (resAV_rep a1)⟩
  · intro b hb
    rw [hlk] at hb
    split at hb
    · cases hb
    · rename_i hx
      have := (lookup_of_range (b := b) a2 a3).2 hx
      show (if _ then _ else _) = _
      rw [if_neg this]
      exact h.un b hb
  · intro b B hb
    rcases cases_of b B hb with ⟨j, v, rfl, k1, kz, k2⟩ | ⟨hb0, hr, hi, v, k1, k2⟩
    · exact ⟨⟨v.1, hin j v k1, by rw [hii j v k1]; exact bm kz k2⟩, fun hf => by omega⟩
    · refine ⟨⟨v, hh _ _ k1, by rw [hi]; exact k2.keep (fun _ _ => rfl) (fun _ h => h) hh fun g hg => ⟨rfl, fun p hp e => hp⟩⟩, fun f1 f2 => ?_⟩
      show (if _ then _ else _) = _
      rw [if_neg hr]; exact h.ag b B hb0 f1 f2
  · intro b b' B B' g hbb hb hb' hg
    rcases cases_of b B hb with ⟨j, u, rfl, k1, kz, k3⟩ | ⟨l1, l0, li, u, k0, k2⟩
    · rw [hii j u k1] at hg
      rcases cases_of b' B' hb' with ⟨j', u', rfl, m1, mz, m3⟩ | ⟨l1, l0, li, u', m0, m2⟩
      · rw [hii j' u' m1]
        exact gs_sep hnd (fun e => hbb (by rw [e])) k1 m1 hg
      · rw [li]
        exact hsp g (mem_own k1 hg) b' B' l1
    · rw [li] at hg
      rcases cases_of b' B' hb' with ⟨j', u', rfl, m1, mz, m3⟩ | ⟨l1', l0', li', u', m0, m2⟩
      · rw [hii j' u' m1]
        intro hg'
        exact hsp g (mem_own m1 hg') b B l1 hg
      · rw [li']
        exact h.sep b b' B B' g hbb l1 l1' hg

/-- The results of a call are taken over. -/
theorem Good.result {M2 : Mem} {w' : World} {cod : List RTy} {y : RDens cod} {rs : List Value} {hs : List Hd} {dst : Option Tmp} {rd : List Nat} (h : Good W M0 S hdr inn M a w) (hE : Ext w w') (hR : RepRs (fun g => w.heap.size ≤ g) w' M2 cod y rs hs) (hge : ∀ g ∈ gsOf hs, w.heap.size ≤ g)
    (hnd : (gsOf hs).Nodup) (hM : ∀ p, M p → M2 p) (hM2 : ∀ p, M2 p → (M p ∨ w.heap.size ≤ p.block) ∧ p.block < w'.heap.size) (hnew : ((resAV cod y id).2.map (·.1)).all (isNew S.heap) = true) :
    ∃ hdr' inn', Good W M0 (S.app dst ⟨(resAV cod y id).1, (resAV cod y id).2, rd⟩) hdr' inn' M2 (a.put dst (retOf rs)) w' := by
  have hc : ∀ p, M p → w'.cell? p = w.cell? p := fun p hp => hE.cell (h.ml p hp)
  have h1 : Good W M0 ⟨S.tmps, S.heap⟩ hdr inn M2 a w' := h.move (h.ext.trans hE) hc hM (fun p hp => ⟨(hM2 p hp).2, (hM2 p hp).1.elim (h.mo p) fun h1 => .inr (.inl (Nat.le_trans h.ext.size h1))⟩) (fun _ h => h) (fun b B hb => by
    obtain ⟨v, hv, hr⟩ := h.hp b B hb
    exact ⟨B, v, hb, hv, rfl, hr.keep hc hM (fun _ _ h => h) fun g hg => ⟨hE.block g (hr.lt hg).1, fun p hp e => (hM2 p hp).1.resolve_right fun h1 => by have := (hr.lt hg).1; omega⟩⟩) h.sep
  exact h1.addRes hR (fun g hg => Nat.le_trans h.ext.size hg) hnd (fun g hg b B hb hg' => by
    obtain ⟨v, hv, hr⟩ := h.hp b B hb
    have := (hr.lt hg').1
    have := hge g hg
    omega) hnew

/-! ### Data that lie in the value alone -/
theorem RepD.flat {w w' : World} {M M' : Mem} : ∀ {T : Ty} {x : T.den} {vs : List Value}, T.far = false → RepD w M T x vs → RepD w' M' T x vs
  | .int _, _, _, _, h => by simp only [RepD] at h ⊢; exact h
  | .bool, _, _, _, h => by simp only [RepD] at h ⊢; exact h
  | .str, _, _, _, h => by simp only [RepD] at h ⊢; exact h
  | .unit, _, _, _, h => by simp only [RepD] at h ⊢; exact h
  | .pair A B, _, _, hf, ⟨v1, v2, e, h1, h2⟩ => by
    simp only [Ty.far, Bool.or_eq_false_iff] at hf
    exact ⟨v1, v2, e, RepD.flat hf.1 h1, RepD.flat hf.2 h2⟩
  | .slice _, _, _, hf, _ => by simp [Ty.far] at hf
theorem RepO.flat {w : World} {M M' : Mem} : ∀ {T : RTy} {x : T.den} {vs : List Value} {gs : List Nat}, T.far = false → RepO w M T x vs gs → RepO w M' T x vs gs
  | .d T, _, _, _, hf, ⟨h1, h2⟩ => ⟨RepD.flat hf h1, h2⟩
  | .row t e, _, _, _, hf, ⟨v, e1, h⟩ => by
    refine ⟨v, e1, ?_⟩
    rcases h with h | ⟨g, cap, us, e2, e3, k2, k3, k4, k5, k6⟩
    · exact .inl h
    · exact .inr ⟨g, cap, us, e2, e3, k2, k3, k4, k5, k6.mono fun _ _ h => RepD.flat hf h⟩
  | .pair A B, _, _, _, hf, ⟨v1, v2, g1, g2, e1, e2, h1, h2⟩ => by
    simp only [RTy.far, Bool.or_eq_false_iff] at hf
    exact ⟨v1, v2, g1, g2, e1, e2, RepO.flat hf.1 h1, RepO.flat hf.2 h2⟩
  | .box _ _, _, _, _, _, h => h.elim
  | .deep _ _, _, _, _, _, h => h.elim
  | .mp _ _ _, _, _, _, _, h => h.elim
theorem RepM.flat {w : World} {M M' : Mem} {t : TypeId} {e : Ty} (hf : e.far = false) : ∀ {x : List (Int × List e.den)} {es : List MapEntry} {gs : List Nat}, RepM w M t e false x es gs → RepM w M' t e false x es gs
  | [], _, _, h => h
  | _ :: _, _, _, ⟨en, es', g1, g2, h1, h2, h3, h4, h5⟩ => by
    refine ⟨en, es', g1, g2, h1, h2, h3, ?_, RepM.flat hf h5⟩
    rcases h4 with h | ⟨g, cap, us, e2, e3, k2, k3, k4, k5, k6⟩
    · exact .inl h
    · exact .inr ⟨g, cap, us, e2, e3, k2, k3, k4, k5, k6.mono fun _ _ h => RepD.flat hf h⟩
theorem RepR.flat {w : World} {M M' : Mem} {base : Nat → Prop} : ∀ {T : RTy} {x : T.den} {vs : List Value} {hs : List Hd}, T.far = false → (∀ p, M' p → p.block ∉ gsOf hs) → RepR base w M T x vs hs → RepR base w M' T x vs hs
  | .d T, x, vs, hs, hf, _, ⟨h1, h2⟩ => ⟨RepD.flat hf h1, h2⟩
  | .row t T, xs, vs, hs, hf, hM, ⟨v, gs, h1, h2, hB⟩ => by
    subst h2
    refine ⟨v, gs, h1, rfl, ?_⟩
    rcases hB with hB | ⟨g, cap, us, rfl, rfl, k1, k2, k3, k4, k5, k6, k7⟩
    · exact .inl hB
    · exact .inr ⟨g, cap, us, rfl, rfl, k1, k2, k3, k4, k5, k6.mono fun _ _ h => RepD.flat hf h, fun p hp e => absurd (by rw [gsOf_one]; simp [e]) (hM p hp)⟩
  | .pair A B, x, vs, hs, hf, hM, ⟨v1, v2, h1, h2, e1, e2, ha, hb⟩ => by
    simp only [RTy.far, Bool.or_eq_false_iff] at hf
    subst e2
    exact ⟨v1, v2, h1, h2, e1, rfl, RepR.flat hf.1 (fun p hp hm => hM p hp (by rw [gsOf_append]; exact List.mem_append.2 (.inl hm))) ha, RepR.flat hf.2 (fun p hp hm => hM p hp (by rw [gsOf_append]; exact List.mem_append.2 (.inr hm))) hb⟩
  | .box t T, x, vs, hs, hf, hM, ⟨v, gs, h1, h2, g, us, e, e', k1, k2, k3, k4⟩ => by
    subst h2; subst e'
    exact ⟨v, _, h1, rfl, g, us, e, rfl, k1, k2, (RepD.flat (w := w) (M := M) hf (RepD.ofCells k3)).cells, fun p hp hg => absurd (by rw [gsOf_one]; simp [hg]) (hM p hp)⟩
  | .deep t T, xs, vs, hs, hf, hM, ⟨v, gs, h1, h2, hB⟩ => by
    subst h2
    refine ⟨v, gs, h1, rfl, ?_⟩
    rcases hB with hB | ⟨g, cap, us, gi, rfl, rfl, hn, k1, k2, k3, k4, k5, k6, k7⟩
    · exact .inl hB
    · exact .inr ⟨g, cap, us, gi, rfl, rfl, hn, k1, k2, k3, k4, k5, RepOL.mono (fun x vs gs' _ h => RepO.flat hf h) (show RepOL (RepO w M T) _ _ _ from k6), fun p hp e => absurd (by rw [gsOf_one]; exact e) (hM p hp)⟩
  | .mp true t e, x, vs, hs, hf, hM, _ => by simp [RTy.far] at hf
  | .mp false t e, x, vs, hs, hf, hM, ⟨v, gs, h1, h2, hB⟩ => by
    subst h2
    refine ⟨v, gs, h1, rfl, ?_, hB.2.1, fun p hp e => absurd (by rw [gsOf_one]; exact e) (hM p hp)⟩
    rcases hB.1 with ⟨q, _⟩ | ⟨g, es, cl, gi, k1, k2, k3, k4, k5⟩
    · cases q
    · exact .inr ⟨g, es, cl, gi, k1, k2, k3, k4, RepM.flat (by simpa [RTy.far] using hf) k5⟩
theorem RepRs.flat {w : World} {M M' : Mem} {base : Nat → Prop} : ∀ {Ts : List RTy} {x : RDens Ts} {rs : List Value} {hs : List Hd}, Ts.any (·.far) = false → (∀ p, M' p → p.block ∉ gsOf hs) → RepRs base w M Ts x rs hs → RepRs base w M' Ts x rs hs
  | [], _, _, _, _, _, h => h
  | [T], x, rs, hs, hf, hM, ⟨v, h1, h2, h3⟩ => ⟨v, h1, h2, RepR.flat (by simpa using hf) hM h3⟩
  | T :: U :: Ts, x, rs, hs, hf, hM, ⟨v, r, h1, h2, e1, e2, h3, ha, hb⟩ => by
    rw [List.any_cons, Bool.or_eq_false_iff] at hf
    subst e2
    exact ⟨v, r, h1, h2, e1, rfl, h3, RepR.flat hf.1 (fun p hp hm => hM p hp (by rw [gsOf_append]; exact List.mem_append.2 (.inl hm))) ha, RepRs.flat hf.2 (fun p hp hm => hM p hp (by rw [gsOf_append]; exact List.mem_append.2 (.inr hm))) hb⟩
theorem RepR.keepM {w : World} {M M' : Mem} {base : Nat → Prop} : ∀ {T : RTy} {x : T.den} {vs : List Value} {hs : List Hd}, (∀ p, M p → M' p) → (∀ p, M' p → p.block ∉ gsOf hs) → RepR base w M T x vs hs → RepR base w M' T x vs hs
  | .d T, x, vs, hs, hm, _, ⟨h1, h2⟩ => ⟨RepD.keep (fun _ _ => rfl) hm h1, h2⟩
  | .row t T, xs, vs, hs, hm, hM, ⟨v, gs, h1, h2, hB⟩ => by
    subst h2
    exact ⟨v, gs, h1, rfl, hB.keep (fun _ _ => rfl) hm (fun _ _ h => h) fun g hg => ⟨rfl, fun p hp e => absurd (by rw [gsOf_one, e]; exact hg) (hM p hp)⟩⟩
  | .pair A B, x, vs, hs, hm, hM, ⟨v1, v2, h1, h2, e1, e2, ha, hb⟩ => by
    subst e2
    exact ⟨v1, v2, h1, h2, e1, rfl, RepR.keepM hm (fun p hp hm => hM p hp (by rw [gsOf_append]; exact List.mem_append.2 (.inl hm))) ha, RepR.keepM hm (fun p hp hm => hM p hp (by rw [gsOf_append]; exact List.mem_append.2 (.inr hm))) hb⟩
  | .box t T, x, vs, hs, hm, hM, ⟨v, gs, h1, h2, hB⟩ => by
    subst h2
    exact ⟨v, gs, h1, rfl, hB.keep (fun _ _ => rfl) hm (fun _ _ h => h) fun g hg => ⟨rfl, fun p hp e => absurd (by rw [gsOf_one, e]; exact hg) (hM p hp)⟩⟩
  | .deep t T, x, vs, hs, hm, hM, ⟨v, gs, h1, h2, hB⟩ => by
    subst h2
    exact ⟨v, gs, h1, rfl, hB.keep (fun _ _ => rfl) hm (fun _ _ h => h) fun g hg => ⟨rfl, fun p hp e => absurd (by rw [gsOf_one, e]; exact hg) (hM p hp)⟩⟩
  | .mp fr t e, x, vs, hs, hm, hM, ⟨v, gs, h1, h2, hB⟩ => by
    subst h2
    exact ⟨v, gs, h1, rfl, hB.keep (fun _ _ => rfl) hm (fun _ _ h => h) fun g hg => ⟨rfl, fun p hp e => absurd (by rw [gsOf_one, e]; exact hg) (hM p hp)⟩⟩
theorem RepRs.keepM {w : World} {M M' : Mem} {base : Nat → Prop} : ∀ {Ts : List RTy} {x : RDens Ts} {rs : List Value} {hs : List Hd}, (∀ p, M p → M' p) → (∀ p, M' p → p.block ∉ gsOf hs) → RepRs base w M Ts x rs hs → RepRs base w M' Ts x rs hs
  | [], _, _, _, _, _, h => h
  | [T], x, rs, hs, hm, hM, ⟨v, h1, h2, h3⟩ => ⟨v, h1, h2, RepR.keepM hm hM h3⟩
  | T :: U :: Ts, x, rs, hs, hm, hM, ⟨v, r, h1, h2, e1, e2, h3, ha, hb⟩ => by
    subst e2
    exact ⟨v, r, h1, h2, e1, rfl, h3, RepR.keepM hm (fun p hp hm => hM p hp (by rw [gsOf_append]; exact List.mem_append.2 (.inl hm))) ha, RepRs.keepM hm (fun p hp hm => hM p hp (by rw [gsOf_append]; exact List.mem_append.2 (.inr hm))) hb⟩
theorem RepR.ge {w : World} {M : Mem} {base : Nat → Prop} : ∀ {T : RTy} {x : T.den} {vs : List Value} {hs : List Hd}, RepR base w M T x vs hs → ∀ g ∈ gsOf hs, base g
  | .d T, x, vs, hs, ⟨_, e⟩, g, hg => by subst e; cases hg
  | .row t T, x, vs, hs, ⟨v, gs, _, e, hB⟩, g, hg => by
    subst e
    rw [gsOf_one] at hg
    exact (hB.lt hg).2
  | .pair A B, x, vs, hs, ⟨v1, v2, h1, h2, _, e, ha, hb⟩, g, hg => by
    subst e
    rw [gsOf_append] at hg
    rcases List.mem_append.1 hg with hg | hg
    · exact RepR.ge ha g hg
    · exact RepR.ge hb g hg
  | .box t T, x, vs, hs, ⟨v, gs, _, e, hB⟩, g, hg => by
    subst e
    rw [gsOf_one] at hg
    exact (hB.lt hg).2
  | .deep t T, x, vs, hs, ⟨v, gs, _, e, hB⟩, g, hg => by
    subst e
    rw [gsOf_one] at hg
    exact (hB.lt hg).2
  | .mp fr t T, x, vs, hs, ⟨v, gs, _, e, hB⟩, g, hg => by
    subst e
    rw [gsOf_one] at hg
    exact (hB.lt hg).2
theorem RepRs.ge {w : World} {M : Mem} {base : Nat → Prop} : ∀ {Ts : List RTy} {x : RDens Ts} {rs : List Value} {hs : List Hd}, RepRs base w M Ts x rs hs → ∀ g ∈ gsOf hs, base g
  | [], x, rs, hs, ⟨_, e⟩, g, hg => by subst e; cases hg
  | [T], x, rs, hs, ⟨v, _, _, h⟩, g, hg => RepR.ge h g hg
  | T :: U :: Ts, x, rs, hs, ⟨v, r, h1, h2, _, e, _, ha, hb⟩, g, hg => by
    subst e
    rw [gsOf_append] at hg
    rcases List.mem_append.1 hg with hg | hg
    · exact RepR.ge ha g hg
    · exact RepRs.ge hb g hg

theorem evs_rep (h : Good W M0 S hdr inn M a w) : ∀ (l : List Operand), All2 (RepAV w M hdr) (l.map S.ev) (l.map a.eval)
  | [] => trivial
  | x :: r => ⟨h.ev x, evs_rep h r⟩

theorem sound_callX {c : Call} {f : FuncId} {con : Con} {x : Operand} {ex : List AV} {caps : List Value} (h : Good W M0 S hdr inn M a w) (hcon : con.ok P f) (ho : o.op = .call c) (hc : c.callee = .value x) (hx : a.eval x = .func (.func f) #[] caps.toArray) (hex : All2 (RepAV w M hdr) ex caps)
    (hk : callK S con (c.args.toList.map S.ev ++ ex) id some = some e) : Sound P W M0 S a w o e := by
  have hval := hx
  unfold callK at hk
  obtain ⟨x, hx, hk⟩ := Option.bind_eq_some_iff.1 hk
  obtain ⟨y, hy, hk⟩ := ob_some hk
  dsimp only at hk
  obtain ⟨hnew, hk⟩ := chk_some hk
  rw [Bool.and_eq_true] at hnew
  obtain ⟨hnew, hmf⟩ := hnew
  obtain ⟨⟨fn, cd, hf, hname, hbody⟩, hcalls⟩ := hcon
  let rows := argRows S.heap (c.args.toList.map S.ev ++ ex)
  have hargs := argsD_rep h (rows := rows) hx ((evs_rep h c.args.toList).append hex) fun b hb => ⟨List.mem_append.2 (.inl hb), fun d hd => List.mem_append.2 (.inr (List.mem_flatMap.2 ⟨b, hb, hd⟩))⟩
  have hrun : (execOp a.eval o).run P w = .ok (.enter f (c.args.toList.map a.eval ++ caps).toArray) w := by
    have e1 : (c.args.map a.eval ++ caps.toArray : Array Value) = (c.args.toList.map a.eval ++ caps).toArray := by
      apply Array.ext'; simp
    simp only [execOp, ho, resolve, hc, hval, Deferred.ofValue, invoke]
    simp only [Sem.run_bind, Sem.run_pure, Result.andThen_ok, Array.empty_append]
    rw [e1, MuLone.run_callFunc_enter hf hname hbody]
  intro K Q hK
  unfold Oper.wp
  rw [hrun]
  show Calls P f _ w _
  refine (hcalls w (plusMem M S inn rows) _ x y h.ext.laid (h.plus_ml rows) hargs hy).mono ?_
  rintro en w' ⟨rs, hs, M', rfl, hE, hR, hnd, hM'⟩
  show K (a.put o.dst (retOf rs)) w'
  apply hK
  have hge := RepRs.ge hR
  cases hfar : con.cod.any (·.far) with
  | false =>
    rw [hfar] at hk
    simp only [Bool.false_eq_true, if_false, List.nil_append] at hk
    cases hk
    have hMn : ∀ p, M p → p.block ∉ gsOf hs := fun p hp hm => by
      have := h.ml p hp
      have := hge _ hm
      omega
    obtain ⟨hdr', inn', hg⟩ := h.result (id := id) (dst := o.dst) (rd := (resAV con.cod y id).2.map (·.1) ++ rows) hE (RepRs.flat hfar hMn hR) hge hnd (fun _ h => h) (fun p hp => ⟨.inl hp, Nat.lt_of_lt_of_le (h.ml p hp) hE.size⟩) hnew
    exact ⟨hdr', inn', M, hg⟩
  | true =>
    rw [hfar] at hk hmf
    simp only [if_true] at hk
    cases hk
    have hfz := h.freeze rows (by simpa only [Bool.not_true, Bool.false_or] using hmf)
    have hMn : ∀ p, plusMem M S inn rows p → p.block ∉ gsOf hs := fun p hp hm => by
      have := hfz.ml p hp
      have := hge _ hm
      omega
    have hnew' : ((resAV con.cod y id).2.map (·.1)).all (isNew (setAll S.heap (Rx.freeze S.heap rows))) = true := by
      rw [List.all_eq_true] at hnew ⊢
      intro b hb
      have := hnew b hb
      simp only [isNew, Option.isNone_iff_eq_none] at this ⊢
      rw [lk_freeze]
      unfold blkAt
      rw [this]
      rfl
    obtain ⟨hdr', inn', hg⟩ := hfz.result (id := id) (dst := o.dst) (rd := (resAV con.cod y id).2.map (·.1) ++ rows) (M2 := fun p => plusMem M S inn rows p ∨ M' p) hE
      (RepRs.keepM (fun _ h => .inr h) (fun p hp => hp.elim (hMn p) fun h => (hM' p h).2.2) hR) hge hnd (fun _ h => .inl h)
      (fun p hp => hp.elim (fun h1 => ⟨.inl h1, Nat.lt_of_lt_of_le (hfz.ml p h1) hE.size⟩) fun h1 => ⟨(hM' p h1).1, (hM' p h1).2.1⟩) hnew'
    refine ⟨hdr', inn', (fun p => plusMem M S inn rows p ∨ M' p), ?_⟩
    simp only [St.app, setAll_append] at hg ⊢
    exact hg

theorem sound_call {c : Call} {f : FuncId} {con : Con} (h : Good W M0 S hdr inn M a w) (hcon : con.ok P f) (ho : o.op = .call c) (hc : c.callee = .value (.func f)) (hk : callK S con (c.args.toList.map S.ev) id some = some e) : Sound P W M0 S a w o e :=
  sound_callX (ex := []) (caps := []) h hcon ho hc rfl trivial (by rw [List.append_nil]; exact hk)
theorem sound_makeFunc {fn : Fn} {first caps : Array Operand} {E : Env} (h : Good W M0 S hdr inn M a w) (ho : o.op = .makeFunc fn first caps) (hk : opK E o.op id S some = some e) : Sound P W M0 S a w o e := by
  rw [ho] at hk
  simp only [opK] at hk
  split at hk
  · rename_i f h1 h2
    cases hk
    have e1 : first = #[] := by apply Array.ext'; simpa using h1
    have e2 : caps = #[] := by apply Array.ext'; simpa using h2
    subst e1; subst e2
    exact sound_val h (v := .func (.func f) #[] #[]) (by simp [execOp, ho, Instr.makeFunc]) ⟨#[], rfl, .inl ⟨rfl, rfl⟩⟩
  · rename_i f x h1 h2
    have e1 : first = #[] := by apply Array.ext'; simpa using h1
    have e2 : caps = #[x] := by apply Array.ext'; simpa using h2
    subst e1; subst e2
    have hr : (execOp a.eval o).run P w = .ok (.value (.func (.func f) #[] #[a.eval x])) w := by simp [execOp, ho, Instr.makeFunc]
    split at hk
    · rename_i b hx
      cases hk
      obtain ⟨g, k1, k2⟩ := h.one hx
      exact sound_val h hr ⟨g, k1, by rw [k2]⟩
    · rename_i T y hx
      split at hk
      · rename_i hu
        cases hk
        obtain ⟨ad, us, k1, k2, k3⟩ := h.one hx
        exact sound_val h hr ⟨#[a.eval x], rfl, .inr ⟨hu, ad, us, by rw [k1]; rfl, k2, k3⟩⟩
      · cases hk
    · cases hk
  · cases hk
theorem sound_min {c : Call} {E : Env} (h : Good W M0 S hdr inn M a w) (ho : o.op = .call c) (hc : c.callee = .builtin .min) (hk : opK E o.op id S some = some e) : Sound P W M0 S a w o e := by
  rw [ho] at hk
  simp only [opK, hc] at hk
  split at hk
  · rename_i kd n r hm
    cases hk
    have hrest : ∀ (l : List Operand) (q : List (IntKind × Int)), l.mapM (fun x => intOfAV (S.ev x)) = some q → l.map a.eval = q.map fun y => Value.int y.1 y.2 := by
      intro l
      induction l with
      | nil => intro q hq; simp at hq; subst hq; rfl
      | cons x l ih =>
        intro q hq
        rw [List.mapM_cons] at hq
        obtain ⟨y, hy, hq⟩ := Option.bind_eq_some_iff.1 hq
        obtain ⟨ys, hys, hq⟩ := Option.bind_eq_some_iff.1 hq
        cases hq
        rw [List.map_cons, List.map_cons, ih ys hys]
        congr 1
        unfold intOfAV at hy
        split at hy
        · rename_i k m hx
          cases hy
          exact h.int hx
        · cases hy
    have hargs := hrest _ _ hm
    have hfold : ∀ (r : List (IntKind × Int)) (n : Int), (r.map fun y => Value.int y.1 y.2).foldlM Builtin.min2 (.int kd n) = (pure (.int kd (r.foldl (fun m y => br (decide (y.2 < m)) y.2 m) n)) : Sem Value) := by
      intro r
      induction r with
      | nil => intro n; rfl
      | cons y r ih =>
        intro n
        rw [List.map_cons, List.foldlM_cons]
        have : Builtin.min2 (.int kd n) (.int y.1 y.2) = (pure (.int kd (br (decide (y.2 < n)) y.2 n)) : Sem Value) := by
          unfold Builtin.min2
          by_cases hlt : y.2 < n <;> simp [hlt, br]
        rw [this, pure_bind, ih]
        rfl
    have e1 : (c.args.map a.eval).toList = .int kd n :: r.map fun y => Value.int y.1 y.2 := by
      rw [Array.toList_map, hargs]; rfl
    refine sound_val h (v := Value.int kd (r.foldl (fun (m : Int) (y : IntKind × Int) => br (decide (y.2 < m)) y.2 m) n)) ?_ (by simp only [RepAV, RepV1, RepC])
    simp only [execOp, ho, resolve, hc, invoke, builtin]
    simp only [Sem.run_bind, Sem.run_pure, Result.andThen_ok, Builtin.min_, e1, hfold]
  · cases hk
theorem sound_max {c : Call} {E : Env} (h : Good W M0 S hdr inn M a w) (ho : o.op = .call c) (hc : c.callee = .builtin .max) (hk : opK E o.op id S some = some e) : Sound P W M0 S a w o e := by
  rw [ho] at hk
  simp only [opK, hc] at hk
  split at hk
  · rename_i kd n r hm
    cases hk
    have hrest : ∀ (l : List Operand) (q : List (IntKind × Int)), l.mapM (fun x => intOfAV (S.ev x)) = some q → l.map a.eval = q.map fun y => Value.int y.1 y.2 := by
      intro l
      induction l with
      | nil => intro q hq; simp at hq; subst hq; rfl
      | cons x l ih =>
        intro q hq
        rw [List.mapM_cons] at hq
        obtain ⟨y, hy, hq⟩ := Option.bind_eq_some_iff.1 hq
        obtain ⟨ys, hys, hq⟩ := Option.bind_eq_some_iff.1 hq
        cases hq
        rw [List.map_cons, List.map_cons, ih ys hys]
        congr 1
        unfold intOfAV at hy
        split at hy
        · rename_i k m hx
          cases hy
          exact h.int hx
        · cases hy
    have hargs := hrest _ _ hm
    have hfold : ∀ (r : List (IntKind × Int)) (n : Int), (r.map fun y => Value.int y.1 y.2).foldlM Builtin.max2 (.int kd n) = (pure (.int kd (r.foldl (fun m y => br (decide (m < y.2)) y.2 m) n)) : Sem Value) := by
      intro r
      induction r with
      | nil => intro n; rfl
      | cons y r ih =>
        intro n
        rw [List.map_cons, List.foldlM_cons]
        have : Builtin.max2 (.int kd n) (.int y.1 y.2) = (pure (.int kd (br (decide (n < y.2)) y.2 n)) : Sem Value) := by
          unfold Builtin.max2
          by_cases hlt : n < y.2 <;> simp [hlt, br]
        rw [this, pure_bind, ih]
        rfl
    have e1 : (c.args.map a.eval).toList = .int kd n :: r.map fun y => Value.int y.1 y.2 := by
      rw [Array.toList_map, hargs]; rfl
    refine sound_val h (v := Value.int kd (r.foldl (fun (m : Int) (y : IntKind × Int) => br (decide (m < y.2)) y.2 m) n)) ?_ (by simp only [RepAV, RepV1, RepC])
    simp only [execOp, ho, resolve, hc, invoke, builtin]
    simp only [Sem.run_bind, Sem.run_pure, Result.andThen_ok, Builtin.max_, e1, hfold]
  · cases hk
/-! ### Functions that write into what is handed to them -/
theorem Good.plus_not (h : Good W M0 S hdr inn M a w) {ds : List Nat} {b : Nat} {B : Blk} {g : Nat} (hb : lk S.heap b = some (some B)) (hf : B.fz ≠ 1) (hg : g ∈ inn b) (hn : b ∉ ds) :
    ∀ p, plusMem M S inn ds p → p.block ≠ g := by
  rintro p (hp | ⟨b', B', hm, hl, hpA, _, hoff⟩) e
  · obtain ⟨u, hu, hB⟩ := h.hp b B hb
    exact hf (hB.seen p hp (by rw [e]; exact hg)).1
  · exact absurd (show g ∈ inn b' by rw [← e]; exact hpA) (h.sep b b' _ _ g (fun e => hn (by rw [e]; exact hm)) hb hl hg)

/-- Rows, deep ones too. -/
def Blk.isRow : Blk → Bool
  | .cells _ _ _ => false
  | .row _ _ _ _ => true
  | .deep _ _ _ none _ => true
  | .deep _ _ _ (some _) _ => false
  | .obj _ _ _ => true
theorem RepBlk.rowNone {hdr hdr' : Nat → Option Value} {base base' : Nat → Nat → Prop} {B : Blk} {v : Value} {fz : Nat} {gs : List Nat} {M' : Mem} (hr : B.isRow = true) (h : RepBlk w M hdr base B v gs) (hM : ∀ p, M p → M' p) (hb : ∀ g ∈ gs, base B.fz g → base' fz g) (hn : ∀ p, M' p → p.block ∉ gs) : RepBlk w M' hdr' base' (B.held fz) v gs := by
  cases B with
  | cells t cs fz0 => cases hr
  | row t T xs fz0 =>
    rcases h with h | ⟨g, cap, vs, rfl, rfl, h1, h2, h3, h4, h5, h6, h7⟩
    · exact .inl h
    · exact .inr ⟨g, cap, vs, rfl, rfl, hb g (by simp) h1, h2, h3, h4, h5, h6.mono fun _ _ h => RepD.keep (fun _ _ => rfl) hM h, fun p hp e => absurd (by simp [e]) (hn p hp)⟩
  | deep t T xs op fz0 =>
    cases op with
    | some _ => cases hr
    | none =>
      rcases h with h | ⟨g, cap, vs, gi, rfl, rfl, hnd, h1, h2, h3, h4, h5, h6, h7⟩
      · exact .inl h
      · exact .inr ⟨g, cap, vs, gi, rfl, rfl, hnd, fun g' hg' => hb g' hg' (h1 g' hg'), h2, h3, h4, h5, RepOL.mono (fun x vs gs' _ h => RepO.keep (fun _ _ => rfl) hM (fun _ _ => rfl) h) (show RepOL (RepO w M T) _ _ _ from h6), fun p hp e => absurd e (hn p hp)⟩
  | obj o x fz0 => exact ⟨h.1.keep (fun _ _ => rfl) hM (fun _ _ => rfl), fun g hg => hb g hg (h.2.1 g hg), fun p hp hm => absurd hm (hn p hp)⟩
/-- A block by itself, as a callee sees it. -/
theorem Good.lend (h : Good W M0 S hdr inn M a w) {ds : List Nat} {b : Nat} {B : Blk} (hb : lk S.heap b = some (some B)) (hr : B.isRow = true) (hf : B.fz ≠ 1) (hn : b ∉ ds) :
    ∃ v, hdr b = some v ∧ RepBlk w (plusMem M S inn ds) (fun _ => none) (fun _ _ => True) (B.held 0) v (inn b) := by
  obtain ⟨v, hv, hB⟩ := h.hp b _ hb
  exact ⟨v, hv, hB.rowNone hr (fun _ h => .inl h) (fun _ _ _ => trivial) fun p hp hm => h.plus_not hb hf hm hn p hp rfl⟩

/-- The blocks that are handed over, one by one. -/
def HW (S : St) (hdr : Nat → Option Value) (inn : Nat → List Nat) : List Nat → List Hd → Prop := All2 fun b v => hdr b = some v.1 ∧ inn b = v.2 ∧ ∃ B, lk S.heap b = some (some B) ∧ B.fz ≠ 1

theorem takeW_rep (h : Good W M0 S hdr inn M a w) {idsA dsA : List Nat} (hdis : ∀ b ∈ idsA, b ∉ dsA) : ∀ {T : RTy} {cs r : List Cell} {x : T.den} {ids ds : List Nat} {vs : List Value}, takeW S.heap T cs = some (x, r, ids, ds) → All2 (RepC w M hdr) cs vs → (∀ b ∈ ids, b ∈ idsA) → (∀ b ∈ ds, b ∈ dsA) →
    ∃ v1 v2 hs, vs = v1 ++ v2 ∧ RepR (fun _ => True) w (plusMem M S inn dsA) T x v1 hs ∧ All2 (RepC w M hdr) r v2 ∧ HW S hdr inn ids hs
  | .d T, cs, r, x, ids, ds, vs, hk, hc, hr, hd => by
    unfold takeW at hk
    obtain ⟨y, hy, hk⟩ := Option.map_eq_some_iff.1 hk
    cases hk
    exact ⟨vs.take T.size, vs.drop T.size, [], (List.take_append_drop _ _).symm, ⟨takeAll_rep h hy hc.take hd, rfl⟩, hc.drop, trivial⟩
  | .row t T, cs, r, x, ids, ds, vs, hk, hc, hr, hd => by
    unfold takeW at hk
    split at hk
    · rename_i b r'
      split at hk
      · rename_i t' T' xs fz hb
        split at hk
        · rename_i hT
          split at hk
          · rename_i ht
            cases hk
            obtain ⟨ht, hfz⟩ := ht
            subst hT; subst ht
            obtain ⟨v, us, rfl, h1, h2⟩ := hc.cons'
            have hb' := blkAt_some hb
            obtain ⟨v0, hv0, hB⟩ := h.lend hb' rfl hfz (hdis b (hr b (by simp)))
            obtain ⟨hh, _⟩ := h1
            rw [hh] at hv0
            cases hv0
            exact ⟨[v], us, [(v, inn b)], rfl, ⟨v, inn b, rfl, rfl, hB⟩, h2, ⟨hh, rfl, _, hb', hfz⟩, trivial⟩
          · cases hk
        · cases hk
      · cases hk
    · cases hk
  | .deep t T, cs, r, x, ids, ds, vs, hk, hc, hr, hd => by
    unfold takeW at hk
    split at hk
    · rename_i b r'
      split at hk
      · rename_i t' T' xs fz hb
        split at hk
        · rename_i hT
          split at hk
          · rename_i ht
            cases hk
            obtain ⟨ht, hfz⟩ := ht
            subst hT; subst ht
            obtain ⟨v, us, rfl, h1, h2⟩ := hc.cons'
            have hb' := blkAt_some hb
            obtain ⟨v0, hv0, hB⟩ := h.lend hb' rfl hfz (hdis b (hr b (by simp)))
            obtain ⟨hh, _⟩ := h1
            rw [hh] at hv0
            cases hv0
            exact ⟨[v], us, [(v, inn b)], rfl, ⟨v, inn b, rfl, rfl, hB⟩, h2, ⟨hh, rfl, _, hb', hfz⟩, trivial⟩
          · cases hk
        · cases hk
      · cases hk
    · cases hk
  | .mp fr t e, cs, r, x, ids, ds, vs, hk, hc, hr, hd => by
    unfold takeW at hk
    cases hk
  | .pair A B, cs, r, x, ids, ds, vs, hk, hc, hr, hd => by
    unfold takeW at hk
    obtain ⟨y, hy, hk⟩ := Option.bind_eq_some_iff.1 hk
    obtain ⟨z, hz, hk⟩ := Option.bind_eq_some_iff.1 hk
    cases hk
    obtain ⟨v1, v2, h1, rfl, a1, a2, a3⟩ := takeW_rep h hdis (x := y.1) (r := y.2.1) (ids := y.2.2.1) (ds := y.2.2.2) hy hc (fun b hb => hr b (List.mem_append.2 (.inl hb))) (fun b hb => hd b (List.mem_append.2 (.inl hb)))
    obtain ⟨v3, v4, h2, rfl, b1, b2, b3⟩ := takeW_rep h hdis (x := z.1) (r := z.2.1) (ids := z.2.2.1) (ds := z.2.2.2) hz a2 (fun b hb => hr b (List.mem_append.2 (.inr hb))) (fun b hb => hd b (List.mem_append.2 (.inr hb)))
    exact ⟨v1 ++ v3, v4, h1 ++ h2, by simp, ⟨v1, v3, h1, h2, rfl, rfl, a1, b1⟩, b2, a3.append b3⟩
  | .box t T, cs, r, x, ids, ds, vs, hk, hc, hr, hd => by
    unfold takeW at hk
    split at hk
    · rename_i b r'
      split at hk
      · rename_i t' cs' fz hb
        split at hk
        · rename_i ht
          obtain ⟨y, hy, hk⟩ := Option.map_eq_some_iff.1 hk
          cases hk
          obtain ⟨ht, hfz⟩ := ht
          subst ht
          obtain ⟨v, us, rfl, ⟨g0, hh, hval⟩, h2⟩ := hc.cons'
          have hb' := blkAt_some hb
          obtain ⟨v0, hv0, hB⟩ := h.hp b _ hb'
          rw [hh] at hv0; injection hv0 with hv0; subst hv0
          obtain ⟨g', ws, e1, e2, k1, k2, k3, k4⟩ := hB
          simp at e1; subst e1
          have hnot := h.plus_not (ds := dsA) (g := g0) hb' hfz (by rw [e2]; simp) (hdis b (hr b (by simp)))
          have hD := takeAll_nil hy k3
          subst hval
          exact ⟨[_], us, [(_, inn b)], rfl, ⟨_, _, rfl, rfl, g0, ws, rfl, e2, trivial, k2, (RepD.keep (fun _ _ => rfl) (fun _ h => .inl h) hD).cells, fun p hp e => absurd e (hnot p hp)⟩, h2, ⟨hh, rfl, _, hb', hfz⟩, trivial⟩
        · cases hk
      · cases hk
    · cases hk

theorem shapeR_of {T : RTy} {y : V1} {v : Value} (hs : shapeR T y = true) (hv : RepV1 w M hdr y v) : ShapeR T v := by
  unfold ShapeR
  cases y with
  | one c =>
    have h1 := RepC.one hv
    have : aggR T = false := by
      cases T with
      | d T => cases T <;> simp_all [shapeR, shapeOk, aggR]
      | row t T => rfl
      | pair A B => simp [shapeR] at hs
      | box t T => rfl
      | deep t T => rfl
      | mp fr t T => rfl
    rw [this]; exact h1
  | agg cs =>
    obtain ⟨vs, rfl, _⟩ := hv
    have : aggR T = true := by
      cases T with
      | d T => cases T <;> simp_all [shapeR, shapeOk, aggR]
      | row t T => simp [shapeR] at hs
      | pair A B => rfl
      | box t T => simp [shapeR] at hs
      | deep t T => simp [shapeR] at hs
      | mp fr t T => simp [shapeR] at hs
    rw [this]; exact ⟨vs, rfl⟩

theorem takeA_rep (h : Good W M0 S hdr inn M a w) {idsA dsA : List Nat} (hdis : ∀ b ∈ idsA, b ∉ dsA) {A : ATy} {y : V1} {x : A.den} {ids ds : List Nat} {v : Value} (hk : takeA S.heap A y = some (x, ids, ds)) (hv : RepV1 w M hdr y v) (hr : ∀ b ∈ ids, b ∈ idsA) (hd : ∀ b ∈ ds, b ∈ dsA) :
    ∃ hs, RepA w (plusMem M S inn dsA) A x v hs ∧ HW S hdr inn ids hs := by
  cases A with
  | v R =>
    simp only [takeA] at hk
    split at hk
    · rename_i hs
      obtain ⟨q, hq, hk⟩ := Option.bind_eq_some_iff.1 hk
      split at hk
      · rename_i hn
        cases hk
        obtain ⟨q1, q2, q3, q4⟩ := q
        simp only at hn; subst hn
        obtain ⟨v1, v2, h1, e, a1, a2, a3⟩ := takeW_rep h hdis hq (RepV1.cells hv) hr hd
        cases a2.nil'
        rw [List.append_nil] at e
        refine ⟨h1, ⟨shapeR_of hs hv, ?_⟩, a3⟩
        rw [e]; exact a1
      · cases hk
    · cases hk
  | box t T =>
    simp only [takeA] at hk
    split at hk
    · rename_i b
      split at hk
      · rename_i t' cs fz hb
        split at hk
        · rename_i ht
          obtain ⟨ht, hfz⟩ := ht
          obtain ⟨d, hd', hk⟩ := Option.map_eq_some_iff.1 hk
          cases hk
          subst ht
          have hb' := blkAt_some hb
          obtain ⟨v0, hv0, hB⟩ := h.hp b _ hb'
          obtain ⟨g0, hh, hval⟩ := hv
          rw [hh] at hv0; injection hv0 with hv0; subst hv0
          obtain ⟨g', vs, e1, e2, k1, k2, k3, k4⟩ := hB
          simp at e1; subst e1
          have hnot := h.plus_not (ds := dsA) (g := g0) hb' hfz (by rw [e2]; simp) (hdis b (hr b (by simp)))
          have hD := takeAll_nil hd' k3
          subst hval
          refine ⟨[(_, inn b)], ⟨_, rfl, g0, vs, rfl, e2, trivial, k2, ?_, fun p hp e => absurd e (hnot p hp)⟩, ⟨hh, rfl, _, hb', hfz⟩, trivial⟩
          exact (RepD.keep (fun _ _ => rfl) (fun _ h => .inl h) hD).cells
        · cases hk
      · cases hk
    · cases hk

theorem argsA_rep (h : Good W M0 S hdr inn M a w) {idsA dsA : List Nat} (hdis : ∀ b ∈ idsA, b ∉ dsA) : ∀ {As : List ATy} {xs : List AV} {x : ADens As} {ids ds : List Nat} {vs : List Value}, argsA S.heap As xs = some (x, ids, ds) → All2 (RepAV w M hdr) xs vs → (∀ b ∈ ids, b ∈ idsA) → (∀ b ∈ ds, b ∈ dsA) →
    ∃ hs, RepAs w (plusMem M S inn dsA) As x vs hs ∧ HW S hdr inn ids hs
  | [], [], x, ids, ds, vs, hk, hc, _, _ => by
    have hk' : (some ((), ([] : List Nat), ([] : List Nat))) = some (x, ids, ds) := hk
    cases hk'
    exact ⟨[], ⟨hc.nil', rfl⟩, trivial⟩
  | [], _ :: _, _, _, _, _, hk, _, _, _ => none_some hk
  | [A], [], _, _, _, _, hk, _, _, _ => none_some hk
  | [A], .undef :: _, _, _, _, _, hk, _, _, _ => none_some hk
  | [A], .tup _ :: _, _, _, _, _, hk, _, _, _ => none_some hk
  | [A], .v y :: _ :: _, _, _, _, _, hk, _, _, _ => none_some hk
  | [A], [.v y], x, ids, ds, vs, hk, hc, hr, hd => by
    obtain ⟨v, rfl, hv⟩ := hc.one'
    obtain ⟨hs, h1, h2⟩ := takeA_rep h hdis hk hv hr hd
    exact ⟨hs, ⟨v, rfl, h1⟩, h2⟩
  | A :: B :: As, [], _, _, _, _, hk, _, _, _ => none_some hk
  | A :: B :: As, .undef :: _, _, _, _, _, hk, _, _, _ => none_some hk
  | A :: B :: As, .tup _ :: _, _, _, _, _, hk, _, _, _ => none_some hk
  | A :: B :: As, .v y :: r, x, ids, ds, vs, hk, hc, hr, hd => by
    have hk' : ((takeA S.heap A y).bind fun d => (argsA S.heap (B :: As) r).bind fun ds => some ((d.1, ds.1), d.2.1 ++ ds.2.1, d.2.2 ++ ds.2.2)) = some (x, ids, ds) := hk
    obtain ⟨v, us, rfl, hv, hu⟩ := hc.cons'
    obtain ⟨d, hd1, hk'⟩ := Option.bind_eq_some_iff.1 hk'
    obtain ⟨q, hq, hk'⟩ := Option.bind_eq_some_iff.1 hk'
    cases hk'
    obtain ⟨h1, s1, s2⟩ := takeA_rep h hdis (x := d.1) (ids := d.2.1) (ds := d.2.2) hd1 hv (fun b hb => hr b (List.mem_append.2 (.inl hb))) (fun b hb => hd b (List.mem_append.2 (.inl hb)))
    obtain ⟨h2, t1, t2⟩ := argsA_rep h hdis (x := q.1) (ids := q.2.1) (ds := q.2.2) hq hu (fun b hb => hr b (List.mem_append.2 (.inr hb))) (fun b hb => hd b (List.mem_append.2 (.inr hb)))
    exact ⟨h1 ++ h2, ⟨v, us, h1, h2, rfl, rfl, s1, t1⟩, s2.append t2⟩

/-! What comes back -/
def BW (w : World) (M : Mem) : List Blk → List Hd → Prop := All2 fun B v => RepBlk w M (fun _ => none) (fun _ _ => True) B v.1 v.2
theorem RepR.blks {w : World} {M : Mem} : ∀ {T : RTy} {x : T.den} {vs : List Value} {hs : List Hd}, RepR (fun _ => True) w M T x vs hs → BW w M (T.blks x) hs
  | .d _, _, _, _, ⟨_, e⟩ => by subst e; trivial
  | .row _ _, _, _, _, ⟨v, gs, _, e, hB⟩ => by subst e; exact ⟨hB, trivial⟩
  | .pair _ _, _, _, _, ⟨_, _, h1, h2, _, e, ha, hb⟩ => by subst e; exact (RepR.blks ha).append (RepR.blks hb)
  | .box _ _, _, _, _, ⟨v, gs, _, e, hB⟩ => by subst e; exact ⟨hB, trivial⟩
  | .deep _ _, _, _, _, ⟨v, gs, _, e, hB⟩ => by subst e; exact ⟨hB, trivial⟩
  | .mp _ _ _, _, _, _, ⟨v, gs, _, e, hB⟩ => by subst e; exact ⟨hB, trivial⟩
theorem RepA.blks {w : World} {M : Mem} {A : ATy} {x : A.den} {v : Value} {hs : List Hd} (h : RepA w M A x v hs) : BW w M (A.blks x) hs := by
  cases A with
  | v R => exact RepR.blks h.2
  | box t T => obtain ⟨gs, e, hB⟩ := h; subst e; exact ⟨hB, trivial⟩
theorem RepAs.blks {w : World} {M : Mem} : ∀ {As : List ATy} {x : ADens As} {vs : List Value} {hs : List Hd}, RepAs w M As x vs hs → BW w M (blksA As x) hs
  | [], _, _, _, ⟨_, e⟩ => by subst e; trivial
  | [A], _, _, _, ⟨v, _, h⟩ => RepA.blks h
  | A :: B :: As, _, _, _, ⟨v, r, h1, h2, _, e, ha, hb⟩ => by subst e; exact (RepA.blks ha).append (RepAs.blks hb)

theorem backs_spec {H0 : Heap} {p : Nat → Hd → Prop} {q : Blk → Hd → Prop} : ∀ {ids : List Nat} {hs : List Hd} {Bs : List Blk}, All2 p ids hs → All2 q Bs hs → (backs H0 ids Bs).map (·.1) = ids ∧ ∀ b, (∀ x, (backs H0 ids Bs).lookup b = some x → ∃ v B, b ∈ ids ∧ p b v ∧ q B v ∧ x = some (B.held (fzAt H0 b))) ∧ ((backs H0 ids Bs).lookup b = none → b ∉ ids)
  | [], [], [], _, _ => ⟨rfl, fun b => ⟨fun x hx => (none_some hx), fun _ => by simp⟩⟩
  | b0 :: ids, v :: hs, B :: Bs, h1, h2 => by
    obtain ⟨i1, i2⟩ := backs_spec (H0 := H0) h1.2 h2.2
    refine ⟨by simp [backs, i1], fun b => ?_⟩
    simp only [backs, List.lookup_cons]
    by_cases e : b = b0
    · subst e
      simp only [beq_self_eq_true]
      refine ⟨fun x hx => ?_, fun hx => by cases hx⟩
      cases hx
      exact ⟨v, B, by simp, h1.1, h2.1, rfl⟩
    · have he : (b == b0) = false := by simpa using e
      simp only [he]
      refine ⟨fun x hx => ?_, fun hx => ?_⟩
      · obtain ⟨v', B', k1, k2, k3, k4⟩ := (i2 b).1 x hx
        exact ⟨v', B', by simp [k1], k2, k3, k4⟩
      · simpa [e] using (i2 b).2 hx
  | [], [], _ :: _, _, h => h.elim
  | [], _ :: _, _, h, _ => h.elim
  | _ :: _, [], _, h, _ => h.elim
  | _ :: _, _ :: _, [], _, h => h.elim

theorem RepBlk.rehold {w : World} {M M2 : Mem} {hdr : Nat → Option Value} {base : Nat → Nat → Prop} {B : Blk} {v : Value} {fz : Nat} {gs : List Nat} (h : RepBlk w M (fun _ => none) (fun _ _ => True) B v gs) (hM : ∀ p, M p → M2 p) (hg : ∀ g ∈ gs, base fz g ∧ ∀ p, M2 p → p.block ≠ g) :
    RepBlk w M2 hdr base (B.held fz) v gs := by
  have h1 : RepBlk w M2 hdr (fun _ _ => True) B v gs := h.keep (fun _ _ => rfl) hM (fun _ _ h => by cases h) fun g hgs => ⟨rfl, fun p hp e => absurd e ((hg g hgs).2 p hp)⟩
  exact h1.see (fun _ h => h) (fun g hgs _ => (hg g hgs).1) fun p hp hm => absurd rfl ((hg _ hm).2 p hp)

theorem disj_mem {a b : List Nat} (h : disj a b = true) {x : Nat} (hx : x ∈ a) : x ∉ b := by
  unfold disj at h
  rw [List.all_eq_true] at h
  have := h x hx
  simpa using this
theorem All2.memR {α β : Type} {R : α → β → Prop} : ∀ {xs : List α} {ys : List β}, All2 R xs ys → All2 (fun x y => R x y ∧ y ∈ ys) xs ys
  | [], [], _ => trivial
  | x :: xs, y :: ys, h => ⟨⟨h.1, by simp⟩, (All2.memR h.2).mono fun _ _ h => ⟨h.1, by simp [h.2]⟩⟩
  | [], _ :: _, h => h.elim
  | _ :: _, [], h => h.elim
theorem All2.ofR {α β : Type} {R : α → β → Prop} : ∀ {xs : List α} {ys : List β}, All2 R xs ys → ∀ y ∈ ys, ∃ x ∈ xs, R x y
  | [], [], _, y, hy => by cases hy
  | x :: xs, z :: ys, h, y, hy => by
    rcases List.mem_cons.1 hy with rfl | hy
    · exact ⟨x, by simp, h.1⟩
    · obtain ⟨x', h1, h2⟩ := All2.ofR h.2 y hy
      exact ⟨x', by simp [h1], h2⟩
  | [], _ :: _, h, _, _ => h.elim
  | _ :: _, [], h, _, _ => h.elim
theorem HW.mem {ids : List Nat} {ms : List Hd} (h : HW S hdr inn ids ms) {g : Nat} (hg : g ∈ gsOf ms) : ∃ b ∈ ids, g ∈ inn b ∧ ∃ B, lk S.heap b = some (some B) ∧ B.fz ≠ 1 := by
  obtain ⟨v, hv, ho⟩ := mem_gsOf.1 hg
  obtain ⟨b, h1, h2, h3, h4⟩ := All2.ofR h v hv
  exact ⟨b, h1, by rw [h3]; exact ho, h4⟩
theorem HW.nodup (hG : Good W M0 S hdr inn M a w) : ∀ {ids : List Nat} {ms : List Hd}, HW S hdr inn ids ms → ids.Nodup → (gsOf ms).Nodup
  | [], [], _, _ => .nil
  | b :: ids, v :: ms, h, hn => by
    obtain ⟨⟨h1, hi, B, h2, h3⟩, h4⟩ := h
    have ⟨hb, hn'⟩ := List.nodup_cons.1 hn
    rw [gsOf_cons, List.nodup_append]
    obtain ⟨u, hu, hr⟩ := hG.hp b B h2
    refine ⟨by rw [← hi]; exact hr.nodup, HW.nodup hG h4 hn', fun g hg g' hg' e => ?_⟩
    subst e
    obtain ⟨b', m1, m3, B', m4, _⟩ := HW.mem h4 hg'
    exact hG.sep b b' _ _ g (fun e => hb (by rw [e]; exact m1)) h2 m4 (by rw [hi]; exact hg) m3
  | [], _ :: _, h, _ => h.elim
  | _ :: _, [], h, _ => h.elim
/-- The blocks' blocks, where some lie elsewhere now. -/
def innOf (inn : Nat → List Nat) : List Nat → List Hd → Nat → List Nat
  | b :: ids, v :: ms, c => if c = b then v.2 else innOf inn ids ms c
  | _, _, c => inn c
theorem innOf_out {inn : Nat → List Nat} : ∀ {ids : List Nat} {ms : List Hd} {c : Nat}, c ∉ ids → innOf inn ids ms c = inn c
  | [], [], _, _ => rfl
  | [], _ :: _, _, _ => rfl
  | _ :: _, [], _, _ => rfl
  | b :: ids, v :: ms, c, h => by
    simp only [List.mem_cons, not_or] at h
    rw [innOf, if_neg h.1, innOf_out h.2]
theorem innOf_in {inn : Nat → List Nat} {R : Nat → Hd → Prop} : ∀ {ids : List Nat} {ms : List Hd}, ids.Nodup → All2 R ids ms → All2 (fun b v => R b v ∧ innOf inn ids ms b = v.2) ids ms
  | [], [], _, _ => trivial
  | b :: ids, v :: ms, hn, h => by
    have hn' := List.nodup_cons.1 hn
    refine ⟨⟨h.1, by rw [innOf, if_pos rfl]⟩, ?_⟩
    have ih := innOf_in (inn := inn) hn'.2 h.2
    have key : ∀ {l : List Nat} {ms' : List Hd}, (∀ c ∈ l, c ≠ b) → All2 (fun c u => R c u ∧ innOf inn ids ms c = u.2) l ms' → All2 (fun c u => R c u ∧ innOf inn (b :: ids) (v :: ms) c = u.2) l ms' := by
      intro l
      induction l with
      | nil =>
        intro ms' _ h
        cases ms' with
        | nil => trivial
        | cons _ _ => exact h.elim
      | cons c l ihl =>
        intro ms' hc h
        cases ms' with
        | nil => exact h.elim
        | cons u ms' => exact ⟨⟨h.1.1, by rw [innOf, if_neg (hc c (by simp))]; exact h.1.2⟩, ihl (fun d hd => hc d (by simp [hd])) h.2⟩
    exact key (fun c hc e => hn'.1 (by rw [← e]; exact hc)) ih
  | [], _ :: _, _, h => h.elim
  | _ :: _, [], _, h => h.elim
theorem HW.of_map : ∀ {ids : List Nat} {ms ms' : List Hd}, HW S hdr inn ids ms → All2 (fun a b => a.1 = b.1 ∧ ∀ g ∈ a.2, g ∈ b.2) ms' ms → All2 (fun b v => (hdr b = some v.1 ∧ ∃ B, lk S.heap b = some (some B) ∧ B.fz ≠ 1) ∧ ∀ g ∈ v.2, g ∈ inn b) ids ms'
  | [], [], [], _, _ => trivial
  | [], [], _ :: _, _, h => h.elim
  | _ :: _, _ :: _, [], _, h => h.elim
  | b :: ids, v :: ms, v' :: ms', h, e => ⟨⟨⟨by rw [e.1.1]; exact h.1.1, h.1.2.2⟩, fun g hg => by rw [h.1.2.1]; exact e.1.2 g hg⟩, HW.of_map h.2 e.2⟩
  | [], _ :: _, _, h, _ => h.elim
  | _ :: _, [], _, h, _ => h.elim

theorem sound_mcall {c : Call} {f : FuncId} {con : MCon} (h : Good W M0 S hdr inn M a w) (hcon : con.ok P f) (ho : o.op = .call c) (hc : c.callee = .value (.func f)) (hk : mcallK S con (c.args.toList.map S.ev) id some = some e) : Sound P W M0 S a w o e := by
  unfold mcallK at hk
  obtain ⟨q, hq, hk⟩ := Option.bind_eq_some_iff.1 hk
  obtain ⟨y, hy, hk⟩ := ob_some hk
  dsimp only at hk
  obtain ⟨hck, hk⟩ := chk_some hk
  simp only [Bool.and_eq_true] at hck
  obtain ⟨⟨⟨hnew, hnd⟩, hdj⟩, hmf⟩ := hck
  cases hk
  obtain ⟨⟨fn, cd, hf, hname, hbody⟩, hcalls⟩ := hcon
  have hdis : ∀ b ∈ q.2.1, b ∉ q.2.2 := fun b hb => disj_mem hdj hb
  obtain ⟨ms, hargs, hW⟩ := argsA_rep h hdis (x := q.1) (ids := q.2.1) (ds := q.2.2) hq (evs_rep h c.args.toList) (fun _ h => h) (fun _ h => h)
  have hids := noDup_spec hnd
  have hms := HW.nodup h hW hids
  have hrun : (execOp a.eval o).run P w = .ok (.enter f (c.args.toList.map a.eval).toArray) w := by
    have e1 : (c.args.map a.eval ++ #[] : Array Value) = (c.args.toList.map a.eval).toArray := by
      apply Array.ext'; simp
    simp only [execOp, ho, resolve, hc, Act.eval, Deferred.ofValue, invoke]
    simp only [Sem.run_bind, Sem.run_pure, Result.andThen_ok, Array.empty_append]
    rw [e1, MuLone.run_callFunc_enter hf hname hbody]
  intro K Q hK
  unfold Oper.wp
  rw [hrun]
  show Calls P f _ w _
  have hgl : ∀ g, g ∈ gsOf ms → globs ≤ g := fun g hm => by
    obtain ⟨b, k1, k3, B, k4, k5⟩ := HW.mem hW hm
    obtain ⟨u, l1, l2⟩ := h.hp b B k4
    have := (l2.lt k3).2
    rcases Nat.lt_or_ge B.fz 2 with hf2 | hf2
    · have hld := W.ld.1
      rcases this.1 hf2 with h1 | h1
      · omega
      · exact W.no _ h1
    · exact W.nx _ g (this.2 hf2)
  refine (hcalls w (plusMem M S inn q.2.2) _ ms q.1 y.1 y.2 h.ext.laid hgl (h.plus_ml q.2.2) hargs hms hy).mono ?_
  rintro en w' ⟨rs, hs, ms', M', rfl, hE, hR, hA, hnd', ⟨hmm, hms'⟩, hM'⟩
  show K (a.put o.dst (retOf rs)) w'
  apply hK
  have hfz := h.freeze q.2.2 hmf
  have hXM : ∀ p, plusMem M S inn q.2.2 p → p.block ∉ gsOf ms := fun p hp hm => by
    obtain ⟨b, k1, k3, B, k4, k5⟩ := HW.mem hW hm
    exact h.plus_not k4 k5 k3 (hdis b k1) p hp rfl
  have hcell : ∀ p, plusMem M S inn q.2.2 p → w'.cell? p = w.cell? p := fun p hp => World.cell?_of_block (w := w) (hE.block _ (hfz.ml p hp) (fun hx => hXM p hp (lendW_X.1 hx)))
  have hExt : ExtW W w' := ⟨hE.os.trans h.ext.os, hE.tape.trans h.ext.tape, hE.output.trans h.ext.output, Nat.le_trans h.ext.size hE.size, fun k hk hx => by
    rw [hE.block k (Nat.lt_of_lt_of_le hk h.ext.size) fun hm => ?_]
    · exact h.ext.block k hk hx
    · obtain ⟨b, k1, k3, B, k4, k5⟩ := HW.mem hW (lendW_X.1 hm)
      obtain ⟨u, l1, l2⟩ := h.hp b B k4
      have := (l2.lt k3).2
      rcases Nat.lt_or_ge B.fz 2 with hf2 | hf2
      · rcases this.1 hf2 with h1 | h1
        · omega
        · exact hx (.inr h1)
      · exact hx (this.X hf2), Nat.le_trans h.ext.drawn hE.drawn⟩
  have hW2 := innOf_in (inn := inn) hids (HW.of_map hW hmm)
  obtain ⟨hbk1, hbk2⟩ := backs_spec (H0 := S.heap) hW2.memR (RepAs.blks hA)
  have hlkb : ∀ H b, lk (setAll H (backs S.heap q.2.1 (blksA con.dom y.2))) b = (match (backs S.heap q.2.1 (blksA con.dom y.2)).lookup b with | some x => some x | none => lk H b) := fun H b => lk_setAll _ _ _ (by rw [hbk1]; exact hids)
  have hfr : ∀ b, b ∉ q.2.2 → lk (setAll S.heap (Rx.freeze S.heap q.2.2)) b = lk S.heap b := fun b hb => by
    rw [lk_freeze]
    split
    · rw [if_neg hb]
    · rfl
  have hfn : ∀ b, lk S.heap b = none → lk (setAll S.heap (Rx.freeze S.heap q.2.2)) b = none := fun b hb => by
    rw [lk_freeze]
    unfold blkAt
    rw [hb]
    rfl
  have hfb : ∀ b B, lk (setAll S.heap (Rx.freeze S.heap q.2.2)) b = some (some B) → ∃ B0, lk S.heap b = some (some B0) := fun b B hb => by
    rw [lk_freeze] at hb
    split at hb
    · rename_i B0 hbl
      exact ⟨B0, blkAt_some hbl⟩
    · exact ⟨B, hb⟩
  -- every block behind the call
  have hB : ∀ b B', lk (setAll (setAll S.heap (Rx.freeze S.heap q.2.2)) (backs S.heap q.2.1 (blksA con.dom y.2))) b = some (some B') →
      (∃ B v, lk (setAll S.heap (Rx.freeze S.heap q.2.2)) b = some (some B) ∧ hdr b = some v ∧ B'.fz = B.fz ∧ RepBlk w' (fun p => plusMem M S inn q.2.2 p ∨ M' p) hdr W.fresh B' v (innOf inn q.2.1 ms' b)) ∧ (b ∈ q.2.1 ∨ (b ∉ q.2.1 ∧ ∃ B0, lk S.heap b = some (some B0))) := by
    intro b B' hb
    rw [hlkb] at hb
    obtain ⟨c1, c2⟩ := hbk2 b
    split at hb
    · rename_i x hx
      cases hb
      obtain ⟨v, B, m1, ⟨⟨⟨⟨m2, B0, m3, m4⟩, mg⟩, mi⟩, m5⟩, m6, m7⟩ := c1 _ hx
      cases m7
      have hfzb : fzAt S.heap b = B0.fz := by
        unfold fzAt blkAt
        rw [m3]; rfl
      refine ⟨⟨B0, v.1, by rw [hfr b (hdis b m1)]; exact m3, m2, by rw [Blk.held_fz, hfzb], ?_⟩, .inl m1⟩
      rw [mi]
      refine m6.rehold (fun _ h => .inr h) fun g hg => ⟨?_, fun p hp e => ?_⟩
      · obtain ⟨u, l1, l2⟩ := h.hp b B0 m3
        rw [hfzb]
        exact (l2.lt (mg g hg)).2
      · have hm : p.block ∈ gsOf ms' := mem_gsOf.2 ⟨v, m5, by rw [e]; exact hg⟩
        rcases hp with hp | hp
        · exact h.plus_not m3 m4 (mg g hg) (hdis b m1) p hp e
        · exact (hM' p hp).2.2.2 hm
    · rename_i hx
      have hni := c2 hx
      obtain ⟨v, hv, hr⟩ := hfz.hp b B' hb
      refine ⟨⟨B', v, hb, hv, rfl, ?_⟩, .inr ⟨hni, hfb b B' hb⟩⟩
      rw [innOf_out hni]
      refine hr.keep hcell (fun _ h => .inl h) (fun _ _ h => h) fun g hg => ⟨hE.block g (hr.lt hg).1 fun hm => ?_, fun p hp e => ?_⟩
      · obtain ⟨b', k1, k3, B, k4, k5⟩ := HW.mem hW (lendW_X.1 hm)
        exact hfz.sep b b' B' B g (fun e => hni (by rw [e]; exact k1)) hb (by rw [show (St.heap ⟨S.tmps, setAll S.heap (Rx.freeze S.heap q.2.2)⟩) = setAll S.heap (Rx.freeze S.heap q.2.2) from rfl, hfr b' (hdis b' k1)]; exact k4) hg k3
      · rcases hp with hp | hp
        · exact hp
        · rcases (hM' p hp).1 with h1 | h1
          · exact h1
          · have := (hr.lt hg).1; omega
  have hin2 : ∀ b ∈ q.2.1, ∃ (i : Nat) (v : Hd), q.2.1[i]? = some b ∧ ms'[i]? = some v ∧ innOf inn q.2.1 ms' b = v.2 ∧ (∀ g ∈ v.2, g ∈ inn b) ∧ ∃ B, lk S.heap b = some (some B) := fun b hb => by
    obtain ⟨i, hi⟩ := List.getElem?_of_mem hb
    obtain ⟨v, hv, ⟨⟨_, B, hB, _⟩, hr⟩, hr2⟩ := hW2.get hi
    exact ⟨i, v, hi, hv, hr2, hr, B, hB⟩
  have hmix : ∀ b b' B0 g, b ∈ q.2.1 → b' ∉ q.2.1 → lk S.heap b' = some (some B0) → g ∈ innOf inn q.2.1 ms' b → g ∉ innOf inn q.2.1 ms' b' := fun b b' B0 g hb hb' hl hg hg' => by
    rw [innOf_out hb'] at hg'
    obtain ⟨i, v, hi, hv, hvi, hvs, B1, n4⟩ := hin2 b hb
    rw [hvi] at hg
    exact h.sep b b' B1 B0 g (fun e => hb' (by rw [← e]; exact hb)) n4 hl (hvs g hg) hg'
  have hmove := hfz.move (M2 := fun p => plusMem M S inn q.2.2 p ∨ M' p) (w' := w') (H' := setAll (setAll S.heap (Rx.freeze S.heap q.2.2)) (backs S.heap q.2.1 (blksA con.dom y.2))) (inn' := innOf inn q.2.1 ms') hExt hcell (fun _ h => .inl h)
    (fun p hp => by
      rcases hp with hp | hp
      · exact ⟨Nat.lt_of_lt_of_le (hfz.ml p hp) hE.size, hfz.mo p hp⟩
      · refine ⟨(hM' p hp).2.1, ?_⟩
        rcases (hM' p hp).1 with h1 | h1
        · exact hfz.mo p h1
        · exact .inr (.inl (Nat.le_trans h.ext.size h1)))
    (fun b hb => by
      rw [hlkb] at hb
      split at hb
      · cases hb
      · exact hb) (fun b B' hb => (hB b B' hb).1)
    (fun b b' B B' g hbb hb hb' hg => by
      rcases (hB b B hb).2 with h1 | ⟨h1, B0, h2⟩
      · rcases (hB b' B' hb').2 with h3 | ⟨h3, B1, h4⟩
        · obtain ⟨i, v, hi, hv, hvi, _⟩ := hin2 b h1
          obtain ⟨j, u, hj, hu, huj, _⟩ := hin2 b' h3
          rw [hvi] at hg
          rw [huj]
          exact gs_sep hms' (fun e => hbb (by rw [e, hj] at hi; cases hi; rfl)) hv hu hg
        · exact hmix b b' B1 g h1 h3 h4 hg
      · rcases (hB b' B' hb').2 with h3 | ⟨h3, B1, h4⟩
        · exact fun hg' => hmix b' b B0 g h3 h1 h2 hg' hg
        · rw [innOf_out h1] at hg
          rw [innOf_out h3]
          exact h.sep b b' B0 B1 g hbb h2 h4 hg)
  have hge := RepRs.ge hR
  obtain ⟨hdr', inn', hg⟩ := hmove.addRes (id := id) (dst := o.dst) (rd := (resAV con.cod y.1 id).2.map (·.1) ++ q.2.1 ++ q.2.2) (RepRs.keepM (fun _ h => .inr h) (fun p hp hm => by
      rcases hp with hp | hp
      · have := hfz.ml p hp
        have := hge _ hm
        omega
      · exact (hM' p hp).2.2.1 hm) hR) (fun g hg => Nat.le_trans h.ext.size hg) hnd'
    (fun g hg b B hb hov => by
      rcases (hB b B hb).2 with h1 | ⟨h1, B0, h2⟩
      · obtain ⟨i, v, hi, hv, hvi, hvs, B1, n4⟩ := hin2 b h1
        rw [hvi] at hov
        obtain ⟨u, l1, l2⟩ := h.hp b B1 n4
        have := (l2.lt (hvs g hov)).1
        have := hge _ hg
        omega
      · rw [innOf_out h1] at hov
        obtain ⟨u, l1, l2⟩ := h.hp b B0 h2
        have := (l2.lt hov).1
        have := hge _ hg
        omega)
    (by
      rw [List.all_eq_true] at hnew ⊢
      intro b hb
      have hb' := hnew b hb
      simp only [isNew, Option.isNone_iff_eq_none] at hb' ⊢
      rw [hlkb]
      obtain ⟨c1, c2⟩ := hbk2 b
      split
      · rename_i x hx
        obtain ⟨v, B, m1, ⟨⟨⟨⟨m2, B0, m3, m4⟩, mg⟩, mi⟩, m5⟩, m6, m7⟩ := c1 _ hx
        rw [hb'] at m3; cases m3
      · exact hfn b hb')
  refine ⟨hdr', inn', (fun p => plusMem M S inn q.2.2 p ∨ M' p), ?_⟩
  simp only [St.app, setAll_append] at hg ⊢
  exact hg

/-- A part of a row of the call's own: the row stays as it is from now on. -/
theorem sound_sliceRow {t : TypeId} {x : Operand} {lo hi mx : Option Operand} {b : Nat} (h : Good W M0 S hdr inn M a w) (htab : ∀ t i, E.tab.lookup t = some i → TIOK P t i) (ho : o.op = .slice t x lo hi mx) (hx : S.ev x = .v (.one (.row b))) (hk : opK E o.op id S some = some e) : Sound P W M0 S a w o e := by
  rw [ho] at hk
  simp only [opK, hx] at hk
  split at hk
  case h_1 => rename_i h1; cases h1
  case h_2 => rename_i h1; cases h1
  case h_4 => cases hk
  rename_i ti b' hti hb'
  cases hb'
  split at hk
  · rename_i et hd
    split at hk
    · rename_i ei hei
      split at hk
      · rename_i rt e1 xs fz hbk
        split at hk
        · rename_i hsz
          obtain ⟨hsz, hfz⟩ := hsz
          split at hk
          · rename_i l hh hl hhi
            rcases br_some hk with ⟨hb, hk⟩ | ⟨hb, hk⟩
            · cases hk
              have hmf : mayFreeze S.heap [b] = true := by simp [mayFreeze, hbk, Blk.fz, Blk.shut, hfz]
              have hg := h.freeze [b] hmf
              have hfr : freeze S.heap [b] = [(b, some (.row rt e1 xs 1))] := by simp [freeze, hbk, Blk.held]
              rw [hfr] at hg
              have htk : takeD S.heap (.slice e1) [.row b] = some (xs, []) := by
                show (match blkAt S.heap b with
                  | some (.row _ e' xs _) => if h : e' = e1 then some (castL h xs, []) else none
                  | some (.deep _ R xs none _) => if h : R.data = e1 then some (castL h xs, []) else none
                  | some (.obj (.nrow _ e') x _) => if h : e' = e1 then some (castL h (OK.olist x), []) else none
                  | _ => none) = _
                rw [hbk]
                show (if h : e1 = e1 then some (castL h xs, ([] : List Cell)) else none) = _
                rw [dif_pos rfl]; rfl
              obtain ⟨v1, v2, e1', e2, e3, _⟩ := takeD_rep h (rows := [b]) (vs := [a.eval x]) htk (show All2 _ [_] [_] from ⟨h.one hx, trivial⟩) (by simp [rowsIn])
              have e3' : v2 = [] := e3.nil'
              subst e3'
              rw [List.append_nil] at e1'
              subst e1'
              obtain ⟨v, k1, k2⟩ := slice_run h htab ho hti hd hei hsz hl hhi (by simpa using hb) e2
              intro K Q hK
              exact wp_val k1 (hK _ _ ⟨hdr, inn, _, hg.val (rd := [b]) k2⟩)
            · cases hk
          · cases hk
        · cases hk
      · rename_i rt e1 xs fz hbk
        split at hk
        · split at hk
          · rename_i hsz
            obtain ⟨hsz, hfz⟩ := hsz
            subst hfz
            split at hk
            · rename_i l hl
              obtain ⟨hid, hk⟩ := chk_some hk
              rcases br_some hk with ⟨hb, hk⟩ | ⟨hb, hk⟩
              · cases hk
                obtain ⟨h0, h1⟩ : 0 ≤ l ∧ l ≤ (OK.list xs).length := by simpa using hb
                have hb1 := blkAt_some hbk
                obtain ⟨v0, hv0, hB, hfr, hMn⟩ := h.hp b _ hb1
                obtain ⟨hh, _⟩ := h.one hx
                rw [hh] at hv0
                obtain ⟨zs, hzs, hB⟩ := hB
                have hzs : zs = OK.list xs := hzs
                rw [← hzs] at h1 ⊢
                have hu := (htab _ _ hti).slice hd
                have fin : ∀ A n c A' n' c', a.eval x = .slice A n c → n ≤ c → (n : Int) = zs.length → A' = (if c = l.toNat then A else A.map (·.add (l.toNat * ei.size))) → n' = n - l.toNat → c' = c - l.toNat → RepObj w M (.que rt e1) (zs.drop l.toNat) (.slice A' n' c') (inn b) →
                    Sound P W M0 S a w o ⟨.v (.one (.row id)), [(b, none), (id, some (.obj (.que rt e1) (zs.drop l.toNat) 0))], [id, b]⟩ := by
                  intro A n c A' n' c' hv hnc hn hA' hn' hc' hrep K Q hK
                  have hbd := run_bounds (P := P) (w := w) (isS := true) (len := n) (cap := c) (hi := none) (hh := (n : Int)) (boundOf_rep h hl) (.inl ⟨rfl, rfl⟩) h0 (by omega) (by omega) hnc
                  have hex : (execOp a.eval o).run P w = .ok (.value (.slice A' n' c')) w := by
                    simp only [Option.map_none] at hbd
                    simp [execOp, ho, hv, Instr.sliceAt, Instr.slice, run_underlying hu, hbd, (htab _ _ hei).size, hA', hn', hc']
                  obtain ⟨hdr', inn', hg⟩ := h.merge (dst := o.dst) (v0 := .slice A' n' c') (rd := [id, b]) (ids := []) (rm := [b]) (gs := inn b) (B := .obj (.que rt e1) (zs.drop l.toNat) 0) hid (fun b' hb' => by
                      rw [List.mem_singleton] at hb'; subst hb'; exact ⟨_, hb1⟩) h.ext (Nat.le_refl _) rfl ⟨_, _, _, rfl⟩
                    (fun g hg => .inr ⟨b, by simp, hg⟩) (fun _ _ _ _ _ _ => rfl) (fun _ _ => rfl)
                    (fun hdr' _ => ⟨hrep, hfr, hMn⟩)
                  exact wp_val hex (hK _ _ ⟨_, _, _, hg⟩)
                rcases hB with ⟨hz0, h2, hgs0⟩ | ⟨g, off, cap, vs, h2, hgs0, k1, k2, k3, k4, k5⟩
                · subst hz0
                  have hl0 : l = 0 := by simp at h1; omega
                  subst hl0
                  have hv : a.eval x = .slice none 0 0 := by simpa [h2] using hv0
                  exact fin none 0 0 none 0 0 hv (Nat.le_refl _) (by simp) (by simp) rfl rfl ⟨[], rfl, .inl ⟨rfl, rfl, hgs0⟩⟩
                · have hv : a.eval x = .slice (some ⟨g, off, none⟩) zs.length cap := by simpa [h2] using hv0
                  have hlz : l.toNat ≤ zs.length := by omega
                  have hlen : (zs.drop l.toNat).length = zs.length - l.toNat := List.length_drop
                  have hus := RepL.len (fun x vs h => RepD.len h) k5
                  have hd := RepL.drop (k := l.toNat) (fun x vs h => RepD.len h) k5
                  by_cases hc : cap = l.toNat
                  · refine fin _ _ _ (some ⟨g, off, none⟩) (zs.length - l.toNat) (cap - l.toNat) hv k2 rfl (by rw [if_pos hc]) rfl rfl ⟨zs.drop l.toNat, rfl, .inr ⟨g, off, cap - l.toNat, vs, by rw [hlen], hgs0, k1, by rw [hlen]; omega, by omega, ?_, ?_⟩⟩
                    · rw [hc, Nat.sub_self, Nat.zero_mul]; omega
                    · have hn0 : zs.drop l.toNat = [] := List.eq_nil_of_length_eq_zero (by omega)
                      rw [hn0]
                      simp [RepL]
                  · refine fin _ _ _ (some ⟨g, off + l.toNat * ei.size, none⟩) (zs.length - l.toNat) (cap - l.toNat) hv k2 rfl (by rw [if_neg hc]; simp [add_off]) rfl rfl ⟨zs.drop l.toNat, rfl, .inr ⟨g, off + l.toNat * ei.size, cap - l.toNat, vs, by rw [hlen], hgs0, k1, by rw [hlen]; omega, by omega, ?_, ?_⟩⟩
                    · rw [← hsz, Nat.sub_mul]
                      have := Nat.mul_le_mul_right e1.size (show l.toNat ≤ cap by omega)
                      omega
                    · rw [← hsz, hlen, Nat.sub_mul]
                      rw [List.drop_take, List.drop_drop] at hd
                      exact hd
              · cases hk
            · cases hk
          · cases hk
        · cases hk
      · cases hk
    · cases hk
  · cases hk

/-! ### Rows and boxes that are laid anew -/
theorem Good.setT (h : Good W M0 S hdr inn M a w) {t : Nat} {v : AV} (hv : RepAV w M hdr v (a.tmps.getD t undef)) : Good W M0 { S with tmps := S.tmps.set t v } hdr inn M a w := by
  refine ⟨h.ext, h.nod, by simp [h.len], fun t' => ?_, h.hp, h.un, h.sep, h.ml, h.mo, h.ag⟩
  by_cases e : t = t'
  · subst e
    by_cases hlt : t < S.tmps.length
    · simp [hlt]; simpa using hv
    · simp [hlt]; trivial
  · simp only [List.getElem?_set_ne e]; exact h.tm t'
theorem Good.addBlkE (h : Good W M0 S hdr inn M a w) {t id : Nat} {x : AV} {B : Blk} {v : Value} {gs : List Nat} (hid : lk S.heap id = none) (hag : 2 ≤ B.fz → B.fz % 2 = 0 → some v = W.arg ((B.fz - 2) / 2)) (hB : ∀ hdr', (∀ b u, hdr b = some u → hdr' b = some u) → RepBlk w M hdr' W.fresh B v gs)
    (hsep : ∀ b' B' g, lk S.heap b' = some (some B') → g ∈ gs → g ∉ inn b')
    (hx : ∀ hdr' : Nat → Option Value, hdr' id = some v → RepAV w M hdr' x (a.tmps.getD t undef)) :
    Good W M0 { tmps := S.tmps.set t x, heap := (id, some B) :: S.heap } (fun b => if b = id then some v else hdr b) (fun b => if b = id then gs else inn b) M a w := by
  have hne := h.un id hid
  have hh : ∀ b u, hdr b = some u → (fun b => if b = id then some v else hdr b) b = some u := fun b u hb => by
    have : b ≠ id := fun e => by rw [e, hne] at hb; cases hb
    simpa [this] using hb
  refine ⟨h.ext, h.nod, by simp [h.len], fun t' => ?_, ?_, ?_, ?_, h.ml, h.mo, ?_⟩
  · by_cases e : t = t'
    · subst e
      by_cases hlt : t < S.tmps.length
      · have := hx (fun b => if b = id then some v else hdr b) (by simp)
        simp [hlt]; simpa using this
      · simp [hlt]; trivial
    · simp only [List.getElem?_set_ne e]; exact (h.tm t').keep (fun _ _ => rfl) (fun _ h => h) hh
  · intro b C hb
    simp only [lk_cons] at hb
    split at hb
    · rename_i e; subst e; cases hb
      exact ⟨v, by simp, by simpa using hB _ hh⟩
    · rename_i e
      have e1 : b ≠ id := fun e' => e e'.symm
      obtain ⟨u, hu, hr⟩ := h.hp b C hb
      simp only [e1, if_false]
      exact ⟨u, hu, hr.keep (fun _ _ => rfl) (fun _ h => h) hh fun g _ => ⟨rfl, fun p hp _ => hp⟩⟩
  · intro b hb
    simp only [lk_cons] at hb
    split at hb
    · cases hb
    · rename_i e
      have : b ≠ id := fun e' => e e'.symm
      simp [this, h.un b hb]
  · intro b b' C C' g hbb hb hb' hg
    simp only [lk_cons] at hb hb'
    split at hb
    · rename_i e; subst e
      simp only [if_true] at hg
      rw [if_neg hbb] at hb'
      simp only [Ne.symm hbb, if_false]
      exact hsep b' C' g hb' hg
    · rename_i e
      have e1 : b ≠ id := fun e' => e e'.symm
      simp only [e1, if_false] at hg
      split at hb'
      · rename_i e2; subst e2
        simp only [if_true]
        intro hg'
        exact hsep b C g hb hg' hg
      · rename_i e2
        have e3 : b' ≠ id := fun e' => e2 e'.symm
        simp only [e3, if_false]
        exact h.sep b b' C C' g hbb hb hb' hg
  · intro b C hb hf hf2
    simp only [lk_cons] at hb
    split at hb
    · rename_i e; subst e; cases hb
      simpa using hag hf hf2
    · rename_i e
      have e1 : b ≠ id := fun e' => e e'.symm
      simp only [e1, if_false]
      exact h.ag b C hb hf hf2
theorem Good.addBlk (h : Good W M0 S hdr inn M a w) {t id : Nat} {x : AV} {B : Blk} {v : Value} {gs : List Nat} (hid : lk S.heap id = none) (hag : 2 ≤ B.fz → B.fz % 2 = 0 → some v = W.arg ((B.fz - 2) / 2)) (hB : ∀ hdr', (∀ b u, hdr b = some u → hdr' b = some u) → RepBlk w M hdr' W.fresh B v gs)
    (hsep : ∀ b' B' g, lk S.heap b' = some (some B') → g ∈ gs → g ∉ inn b')
    (hx : ∀ hdr' : Nat → Option Value, hdr' id = some v → RepAV w M hdr' x (a.tmps.getD t undef)) :
    ∃ hdr' inn', Good W M0 { tmps := S.tmps.set t x, heap := (id, some B) :: S.heap } hdr' inn' M a w ∧ (∀ b g, g ∈ inn' b → g ∈ gs ∨ g ∈ inn b) ∧ (∀ b u, hdr b = some u → hdr' b = some u) ∧ hdr' id = some v := by
  have hne := h.un id hid
  refine ⟨_, _, h.addBlkE hid hag hB hsep hx, fun b g hg => ?_, fun b u hb => ?_, by simp⟩
  · by_cases e : b = id
    · simp only [e, if_true] at hg; exact .inl hg
    · simp only [e, if_false] at hg; exact .inr hg
  · have : b ≠ id := fun e => by rw [e, hne] at hb; cases hb
    simpa [this] using hb

/-- The slices that are handed out, row by row (nil ones are in no row). -/
def HS (S : St) (hdr : Nat → Option Value) (inn : Nat → List Nat) : List Nat → List Hd → Prop
  | rs, [] => rs = []
  | rs, v :: hs => (v.2 = [] ∧ HS S hdr inn rs hs) ∨ ∃ b r, rs = b :: r ∧ hdr b = some v.1 ∧ inn b = v.2 ∧ (∃ B, lk S.heap b = some (some B) ∧ B.fz = 0) ∧ HS S hdr inn r hs
theorem HS.append : ∀ {r1 r2 : List Nat} {h1 h2 : List Hd}, HS S hdr inn r1 h1 → HS S hdr inn r2 h2 → HS S hdr inn (r1 ++ r2) (h1 ++ h2)
  | r1, r2, [], h2, h, h' => by
    have : r1 = [] := h
    subst this; exact h'
  | r1, r2, v :: h1, h2, h, h' => by
    rcases h with ⟨e, h⟩ | ⟨b, r, rfl, e, i, k, h⟩
    · exact .inl ⟨e, HS.append h h'⟩
    · exact .inr ⟨b, r ++ r2, rfl, e, i, k, HS.append h h'⟩
theorem HS.mem : ∀ {rs : List Nat} {hs : List Hd}, HS S hdr inn rs hs → ∀ g ∈ gsOf hs, ∃ b ∈ rs, g ∈ inn b ∧ ∃ B, lk S.heap b = some (some B) ∧ B.fz = 0
  | rs, [], h, g, hg => by cases hg
  | rs, v :: hs, h, g, hg => by
    rw [gsOf_cons] at hg
    rcases h with ⟨e, h⟩ | ⟨b, r, rfl, e, i, k, h⟩
    · rw [e, List.nil_append] at hg
      exact HS.mem h g hg
    · rcases List.mem_append.1 hg with hg | hg
      · exact ⟨b, by simp, by rw [i]; exact hg, k⟩
      · obtain ⟨b', h1, h2⟩ := HS.mem h g hg
        exact ⟨b', by simp [h1], h2⟩
theorem HS.nodup (hG : Good W M0 S hdr inn M a w) : ∀ {rs : List Nat} {hs : List Hd}, HS S hdr inn rs hs → rs.Nodup → (gsOf hs).Nodup
  | rs, [], h, _ => .nil
  | rs, v :: hs, h, hn => by
    rw [gsOf_cons]
    rcases h with ⟨e, h⟩ | ⟨b, r, rfl, e, i, ⟨B, k, _⟩, h⟩
    · rw [e, List.nil_append]
      exact HS.nodup hG h hn
    · have ⟨hb, hn'⟩ := List.nodup_cons.1 hn
      obtain ⟨u, hu, hr⟩ := hG.hp b B k
      refine List.nodup_append.2 ⟨by rw [← i]; exact hr.nodup, HS.nodup hG h hn', fun g hg g' hg' e' => ?_⟩
      subst e'
      obtain ⟨b', h1, h3, B', h4, _⟩ := HS.mem h g hg'
      exact hG.sep b b' _ _ g (fun e => hb (by rw [e]; exact h1)) k h4 (by rw [i]; exact hg) h3

theorem rowsIn_take : ∀ (cs : List Cell) (n : Nat), ∀ b ∈ rowsIn (cs.take n), b ∈ rowsIn cs
  | [], n, b, hb => by simpa using hb
  | c :: cs, 0, b, hb => by simp [rowsIn] at hb
  | c :: cs, n + 1, b, hb => by
    rw [List.take_succ_cons] at hb
    cases c <;> simp only [rowsIn, List.mem_cons] at hb ⊢ <;> first
      | exact rowsIn_take cs n b hb
      | exact hb.imp id (rowsIn_take cs n b)

/-- A row that is handed out, beside data that lie in other rows. -/
theorem row_out (h : Good W M0 S hdr inn M a w) {ds : List Nat} {b : Nat} {B : Blk} (hb : lk S.heap b = some (some B)) (hr : B.isRow = true) (hf : B.fz = 0) (hn : b ∉ ds) : ∃ v, hdr b = some v ∧ RepBlk w (plusMem M S inn ds) (fun _ => none) (fun _ => W.fresh 0) B v (inn b) := by
  obtain ⟨v, hv, hB⟩ := h.hp b _ hb
  have e : B.held 0 = B := by rw [← hf]; exact Blk.held_self B
  have := hB.rowNone (M' := plusMem M S inn ds) (hdr' := fun _ => none) (base' := fun _ => W.fresh 0) (fz := 0) hr (fun _ h => .inl h) (fun g hg hb => by rw [hf] at hb; exact hb) fun p hp hm => h.plus_not hb (by omega) hm hn p hp rfl
  rw [e] at this
  exact ⟨v, hv, this⟩

theorem takeR_rep (h : Good W M0 S hdr inn M a w) {rsA dsA : List Nat} (hdis : ∀ b ∈ rsA, b ∉ dsA) : ∀ {T : RTy} {cs r : List Cell} {x : T.den} {rs ds : List Nat} {vs : List Value}, takeR S.heap T cs = some (x, r, rs, ds) → All2 (RepC w M hdr) cs vs → (∀ b ∈ rs, b ∈ rsA) → (∀ b ∈ ds, b ∈ dsA) →
    ∃ v1 v2 hs, vs = v1 ++ v2 ∧ RepR (W.fresh 0) w (plusMem M S inn dsA) T x v1 hs ∧ All2 (RepC w M hdr) r v2 ∧ HS S hdr inn rs hs
  | .d T, cs, r, x, rs, ds, vs, hk, hc, hr, hd => by
    unfold takeR at hk
    obtain ⟨y, hy, hk⟩ := Option.map_eq_some_iff.1 hk
    cases hk
    exact ⟨vs.take T.size, vs.drop T.size, [], (List.take_append_drop _ _).symm, ⟨takeAll_rep h hy hc.take hd, rfl⟩, hc.drop, rfl⟩
  | .row t T, cs, r, x, rs, ds, vs, hk, hc, hr, hd => by
    unfold takeR at hk
    split at hk
    · cases hk
      obtain ⟨v, us, rfl, h1, h2⟩ := hc.cons'
      have hv : v = .slice none 0 0 := h1
      exact ⟨[v], us, [(v, [])], rfl, ⟨v, [], rfl, rfl, .inl ⟨rfl, hv, rfl⟩⟩, h2, .inl ⟨rfl, rfl⟩⟩
    · rename_i b r'
      split at hk
      · rename_i t' T' xs fz hb
        split at hk
        · rename_i hT
          split at hk
          · rename_i ht
            cases hk
            obtain ⟨ht, hfz⟩ := ht
            subst hT; subst ht; subst hfz
            obtain ⟨v, us, rfl, h1, h2⟩ := hc.cons'
            have hb' := blkAt_some hb
            obtain ⟨v0, hv0, hB⟩ := row_out h hb' rfl rfl (hdis b (hr b (by simp)))
            obtain ⟨hh, _⟩ := h1
            rw [hh] at hv0
            cases hv0
            exact ⟨[v], us, [(v, inn b)], rfl, ⟨v, inn b, rfl, rfl, hB⟩, h2, .inr ⟨b, [], rfl, hh, rfl, ⟨_, hb', rfl⟩, rfl⟩⟩
          · cases hk
        · cases hk
      · rename_i t' T' x0 fz hb
        split at hk
        · rename_i hT
          split at hk
          · rename_i ht
            cases hk
            obtain ⟨ht, hfz⟩ := ht
            subst hT; subst ht; subst hfz
            obtain ⟨v, us, rfl, h1, h2⟩ := hc.cons'
            have hb' := blkAt_some hb
            obtain ⟨v0, hv0, hB⟩ := row_out h hb' rfl rfl (hdis b (hr b (by simp)))
            obtain ⟨hh, _⟩ := h1
            rw [hh] at hv0
            cases hv0
            exact ⟨[v], us, [(v, inn b)], rfl, ⟨v, inn b, rfl, rfl, hB.ofNrow⟩, h2, .inr ⟨b, [], rfl, hh, rfl, ⟨_, hb', rfl⟩, rfl⟩⟩
          · cases hk
        · cases hk
      · cases hk
    · cases hk
  | .mp fr t e, cs, r, x, rs, ds, vs, hk, hc, hr, hd => by
    unfold takeR at hk
    split at hk
    · rename_i b r'
      split at hk
      · rename_i o' x0 fz hb
        split at hk
        · rename_i hT
          split at hk
          · rename_i hfz
            cases hk
            subst hT; subst hfz
            obtain ⟨v, us, rfl, h1, h2⟩ := hc.cons'
            have hb' := blkAt_some hb
            obtain ⟨v0, hv0, hB⟩ := row_out h hb' rfl rfl (hdis b (hr b (by simp)))
            obtain ⟨hh, _⟩ := h1
            rw [hh] at hv0
            cases hv0
            exact ⟨[v], us, [(v, inn b)], rfl, ⟨v, inn b, rfl, rfl, hB⟩, h2, .inr ⟨b, [], rfl, hh, rfl, ⟨_, hb', rfl⟩, rfl⟩⟩
          · cases hk
        · cases hk
      · cases hk
    · cases hk
  | .deep t T, cs, r, x, rs, ds, vs, hk, hc, hr, hd => by
    unfold takeR at hk
    split at hk
    · cases hk
      obtain ⟨v, us, rfl, h1, h2⟩ := hc.cons'
      have hv : v = .slice none 0 0 := h1
      exact ⟨[v], us, [(v, [])], rfl, ⟨v, [], rfl, rfl, .inl ⟨rfl, rfl, hv, rfl⟩⟩, h2, .inl ⟨rfl, rfl⟩⟩
    · rename_i b r'
      split at hk
      · rename_i t' T' xs fz hb
        split at hk
        · rename_i hT
          split at hk
          · rename_i ht
            cases hk
            obtain ⟨ht, hfz⟩ := ht
            subst hT; subst ht; subst hfz
            obtain ⟨v, us, rfl, h1, h2⟩ := hc.cons'
            have hb' := blkAt_some hb
            obtain ⟨v0, hv0, hB⟩ := row_out h hb' rfl rfl (hdis b (hr b (by simp)))
            obtain ⟨hh, _⟩ := h1
            rw [hh] at hv0
            cases hv0
            exact ⟨[v], us, [(v, inn b)], rfl, ⟨v, inn b, rfl, rfl, hB⟩, h2, .inr ⟨b, [], rfl, hh, rfl, ⟨_, hb', rfl⟩, rfl⟩⟩
          · cases hk
        · cases hk
      · cases hk
    · cases hk
  | .box t T, cs, r, x, rs, ds, vs, hk, hc, hr, hd => by
    unfold takeR at hk
    split at hk
    · rename_i b r'
      split at hk
      · rename_i t' cs' fz hb
        split at hk
        · rename_i ht
          obtain ⟨y, hy, hk⟩ := Option.map_eq_some_iff.1 hk
          cases hk
          obtain ⟨ht, hfz⟩ := ht
          subst ht; subst hfz
          obtain ⟨v, us, rfl, ⟨g0, hh, hval⟩, h2⟩ := hc.cons'
          have hb' := blkAt_some hb
          obtain ⟨v0, hv0, hB⟩ := h.hp b _ hb'
          rw [hh] at hv0; injection hv0 with hv0; subst hv0
          obtain ⟨g', ws, e1, e2, k1, k2, k3, k4⟩ := hB
          simp at e1; subst e1
          have hnot := h.plus_not (ds := dsA) (g := g0) hb' (by show (0 : Nat) ≠ 1; decide) (by rw [e2]; simp) (hdis b (hr b (by simp)))
          have hD := takeAll_nil hy k3
          subst hval
          exact ⟨[_], us, [(_, inn b)], rfl, ⟨_, _, rfl, rfl, g0, ws, rfl, e2, k1, k2, (RepD.keep (fun _ _ => rfl) (fun _ h => .inl h) hD).cells, fun p hp e => absurd e (hnot p hp)⟩, h2, .inr ⟨b, [], rfl, hh, rfl, ⟨_, hb', rfl⟩, rfl⟩⟩
        · cases hk
      · cases hk
    · cases hk
  | .pair A B, cs, r, x, rs, ds, vs, hk, hc, hr, hd => by
    unfold takeR at hk
    obtain ⟨y, hy, hk⟩ := Option.bind_eq_some_iff.1 hk
    obtain ⟨z, hz, hk⟩ := Option.bind_eq_some_iff.1 hk
    cases hk
    obtain ⟨v1, v2, h1, rfl, a1, a2, a3⟩ := takeR_rep h hdis (x := y.1) (r := y.2.1) (rs := y.2.2.1) (ds := y.2.2.2) hy hc (fun b hb => hr b (List.mem_append.2 (.inl hb))) (fun b hb => hd b (List.mem_append.2 (.inl hb)))
    obtain ⟨v3, v4, h2, rfl, b1, b2, b3⟩ := takeR_rep h hdis (x := z.1) (r := z.2.1) (rs := z.2.2.1) (ds := z.2.2.2) hz a2 (fun b hb => hr b (List.mem_append.2 (.inr hb))) (fun b hb => hd b (List.mem_append.2 (.inr hb)))
    exact ⟨v1 ++ v3, v4, h1 ++ h2, by simp, ⟨v1, v3, h1, h2, rfl, rfl, a1, b1⟩, b2, a3.append b3⟩


theorem takeR_blk {H : Heap} : ∀ {T : RTy} {cs : List Cell} {q : T.den × List Cell × List Nat × List Nat}, takeR H T cs = some q → ∀ b ∈ q.2.2.1, ∃ B, lk H b = some (some B)
  | .d T, cs, q, h, b, hb => by
    unfold takeR at h
    obtain ⟨y, hy, h⟩ := Option.map_eq_some_iff.1 h
    cases h
    cases hb
  | .row t e, cs, q, h, b, hb => by
    unfold takeR at h
    split at h
    · cases h; cases hb
    · split at h
      · rename_i hbk
        split at h
        · split at h
          · cases h
            rw [List.mem_singleton] at hb
            subst hb
            exact ⟨_, blkAt_some hbk⟩
          · cases h
        · cases h
      · rename_i hbk
        split at h
        · split at h
          · cases h
            rw [List.mem_singleton] at hb
            subst hb
            exact ⟨_, blkAt_some hbk⟩
          · cases h
        · cases h
      · cases h
    · cases h
  | .mp fr t e, cs, q, h, b, hb => by
    unfold takeR at h
    split at h
    · split at h
      · rename_i hbk
        split at h
        · split at h
          · cases h
            rw [List.mem_singleton] at hb
            subst hb
            exact ⟨_, blkAt_some hbk⟩
          · cases h
        · cases h
      · cases h
    · cases h
  | .pair a c, cs, q, h, b, hb => by
    unfold takeR at h
    obtain ⟨y, hy, h⟩ := Option.bind_eq_some_iff.1 h
    obtain ⟨z, hz, h⟩ := Option.bind_eq_some_iff.1 h
    cases h
    rcases List.mem_append.1 hb with hb | hb
    · exact takeR_blk hy b hb
    · exact takeR_blk hz b hb
  | .box t T, cs, q, h, b, hb => by
    unfold takeR at h
    split at h
    · split at h
      · rename_i hbk
        split at h
        · obtain ⟨y, hy, h⟩ := Option.map_eq_some_iff.1 h
          cases h
          rw [List.mem_singleton] at hb
          subst hb
          exact ⟨_, blkAt_some hbk⟩
        · cases h
      · cases h
    · cases h
  | .deep t e, cs, q, h, b, hb => by
    unfold takeR at h
    split at h
    · cases h; cases hb
    · split at h
      · rename_i hbk
        split at h
        · split at h
          · cases h
            rw [List.mem_singleton] at hb
            subst hb
            exact ⟨_, blkAt_some hbk⟩
          · cases h
        · cases h
      · cases h
    · cases h
/-- A block that is known, laid anew in the same place. -/
theorem Good.putBlk (h : Good W M0 S hdr inn M a w) {id : Nat} {B : Blk} {v : Value} {gs : List Nat} (hv : hdr id = some v) (hag : 2 ≤ B.fz → B.fz % 2 = 0 → some v = W.arg ((B.fz - 2) / 2)) (hB : RepBlk w M hdr W.fresh B v gs)
    (hsep : ∀ b' B' g, b' ≠ id → lk S.heap b' = some (some B') → g ∈ gs → g ∉ inn b') : Good W M0 ⟨S.tmps, (id, some B) :: S.heap⟩ hdr (fun b => if b = id then gs else inn b) M a w := by
  refine ⟨h.ext, h.nod, h.len, h.tm, fun b C hb => ?_, fun b hb => ?_, fun b b' C C' g hbb hb hb' hg => ?_, h.ml, h.mo, fun b C hb hf hf2 => ?_⟩
  · simp only [lk_cons] at hb
    split at hb
    · rename_i e; subst e; cases hb
      exact ⟨v, hv, by simpa using hB⟩
    · rename_i e
      have e1 : b ≠ id := fun e' => e e'.symm
      simp only [e1, if_false]
      exact h.hp b C hb
  · simp only [lk_cons] at hb
    split at hb
    · cases hb
    · exact h.un b hb
  · simp only [lk_cons] at hb hb'
    split at hb
    · rename_i e; subst e
      simp only [if_true] at hg
      rw [if_neg hbb] at hb'
      simp only [Ne.symm hbb, if_false]
      exact hsep b' C' g (Ne.symm hbb) hb' hg
    · rename_i e
      have e1 : b ≠ id := fun e' => e e'.symm
      simp only [e1, if_false] at hg
      split at hb'
      · rename_i e2; subst e2
        simp only [if_true]
        intro hg'
        exact hsep b C g e1 hb hg' hg
      · rename_i e2
        have e3 : b' ≠ id := fun e' => e2 e'.symm
        simp only [e3, if_false]
        exact h.sep b b' C C' g hbb hb hb' hg
  · simp only [lk_cons] at hb
    split at hb
    · rename_i e; subst e; cases hb
      rw [hv]; exact hag hf hf2
    · exact h.ag b C hb hf hf2
theorem nestId_inj {t i j : Nat} (e : nestId t i = nestId t j) : i = j := by unfold nestId at e; omega
theorem nest_ids (t : Nat) : ∀ (R : RTy) (x : R.den) (k : Nat), k ≤ (nestCells t R x k).2.2 ∧ ∀ b ∈ (nestCells t R x k).2.1.map (·.1), ∃ j, k ≤ j ∧ j < (nestCells t R x k).2.2 ∧ b = nestId t j
  | .d T, x, k => ⟨Nat.le_refl _, fun b hb => by cases hb⟩
  | .row rt e, xs, k => ⟨Nat.le_succ _, fun b hb => by
    rw [show (nestCells t (.row rt e) xs k).2.1.map (·.1) = [nestId t k] from rfl, List.mem_singleton] at hb
    exact ⟨k, Nat.le_refl _, Nat.lt_succ_self _, hb⟩⟩
  | .box _ _, x, k => ⟨Nat.le_refl _, fun b hb => by cases hb⟩
  | .deep rt e, xs, k => ⟨Nat.le_succ _, fun b hb => by
    rw [show (nestCells t (.deep rt e) xs k).2.1.map (·.1) = [nestId t k] from rfl, List.mem_singleton] at hb
    exact ⟨k, Nat.le_refl _, Nat.lt_succ_self _, hb⟩⟩
  | .mp fr rt e, xs, k => ⟨Nat.le_succ _, fun b hb => by
    rw [show (nestCells t (.mp fr rt e) xs k).2.1.map (·.1) = [nestId t k] from rfl, List.mem_singleton] at hb
    exact ⟨k, Nat.le_refl _, Nat.lt_succ_self _, hb⟩⟩
  | .pair A B, x, k => by
    obtain ⟨a1, a2⟩ := nest_ids t A x.1 k
    obtain ⟨b1, b2⟩ := nest_ids t B x.2 (nestCells t A x.1 k).2.2
    refine ⟨Nat.le_trans a1 b1, fun b hb => ?_⟩
    have hb' : b ∈ ((nestCells t B x.2 (nestCells t A x.1 k).2.2).2.1 ++ (nestCells t A x.1 k).2.1).map (·.1) := hb
    rw [List.map_append, List.mem_append] at hb'
    rcases hb' with hb' | hb'
    · obtain ⟨j, h1, h2, h3⟩ := b2 b hb'
      exact ⟨j, Nat.le_trans a1 h1, h2, h3⟩
    · obtain ⟨j, h1, h2, h3⟩ := a2 b hb'
      exact ⟨j, h1, Nat.lt_of_lt_of_le h2 b1, h3⟩
theorem lk_append_out : ∀ {l H : Heap} {b : Nat}, b ∉ l.map (·.1) → lk (l ++ H) b = lk H b
  | [], _, _, _ => rfl
  | p :: l, H, b, hb => by
    simp only [List.map_cons, List.mem_cons, not_or] at hb
    show (if p.1 = b then some p.2 else lk (l ++ H) b) = _
    rw [if_neg (fun e => hb.1 e.symm)]
    exact lk_append_out hb.2
/-- The rows of a box, laid as blocks of the call's own. -/
theorem add_heads {t : Nat} : ∀ {R : RTy} {x : R.den} {vs : List Value} {hs : List Hd} {S1 : St} {hdr1 : Nat → Option Value} {inn1 : Nat → List Nat} {k : Nat}, R.noBox = true → RepR (fun _ => True) w M R x vs hs → Good W M0 S1 hdr1 inn1 M a w → (gsOf hs).Nodup → (∀ g ∈ gsOf hs, W.fresh 0 g) →
    (∀ b B g, lk S1.heap b = some (some B) → g ∈ gsOf hs → g ∉ inn1 b) → (∀ b ∈ (nestCells t R x k).2.1.map (·.1), lk S1.heap b = none) →
    ∃ hdr' inn', Good W M0 ⟨S1.tmps, (nestCells t R x k).2.1 ++ S1.heap⟩ hdr' inn' M a w ∧ (∀ b g, g ∈ inn' b → g ∈ gsOf hs ∨ (g ∈ inn1 b ∧ b ∉ (nestCells t R x k).2.1.map (·.1))) ∧ (∀ b u, hdr1 b = some u → hdr' b = some u) ∧ All2 (RepC w M hdr') (nestCells t R x k).1 vs := by
  -- one block, and a cell that names it
  have one : ∀ {S1 : St} {hdr1 : Nat → Option Value} {inn1 : Nat → List Nat} {k : Nat} {B : Blk} {c : Cell} {v : Value} {gs : List Nat}, Good W M0 S1 hdr1 inn1 M a w → lk S1.heap (nestId t k) = none → B.fz = 0 → (∀ hdr', RepBlk w M hdr' W.fresh B v gs) → (∀ hdr' : Nat → Option Value, hdr' (nestId t k) = some v → RepC w M hdr' c v) →
      (∀ b' B' g, lk S1.heap b' = some (some B') → g ∈ gs → g ∉ inn1 b') →
      ∃ hdr' inn', Good W M0 ⟨S1.tmps, (nestId t k, some B) :: S1.heap⟩ hdr' inn' M a w ∧ (∀ b g, g ∈ inn' b → g ∈ gs ∨ (g ∈ inn1 b ∧ b ∉ [nestId t k])) ∧ (∀ b u, hdr1 b = some u → hdr' b = some u) ∧ All2 (RepC w M hdr') [c] [v] := by
    intro S1 hdr1 inn1 k B c v gs g1 hnew hf hB hsl hsep
    have k1 := g1.addBlkE (t := S1.tmps.length) (id := nestId t k) (x := .undef) (B := B) (v := v) (gs := gs) hnew (fun h => by omega) (fun hdr' _ => hB hdr') hsep (fun _ _ => trivial)
    rw [List.set_eq_of_length_le (Nat.le_refl _)] at k1
    have hne := g1.un _ hnew
    refine ⟨_, _, k1, fun b g hg => ?_, fun b u hb => ?_, .one (hsl _ (by simp))⟩
    · by_cases e : b = nestId t k
      · simp only [e, if_true] at hg; exact .inl hg
      · simp only [e, if_false] at hg; exact .inr ⟨hg, by simpa using e⟩
    · have : b ≠ nestId t k := fun e => by rw [e, hne] at hb; cases hb
      simpa [this] using hb
  have own : ∀ {B : Blk} {v : Value} {gs : List Nat}, B.isRow = true → B.fz = 0 → RepBlk w M (fun _ => none) (fun _ _ => True) B v gs → (∀ g ∈ gs, W.fresh 0 g) → ∀ hdr', RepBlk w M hdr' W.fresh B v gs := by
    intro B v gs hr hz hB hfr hdr'
    have e : B.held 0 = B := by rw [← hz]; exact Blk.held_self B
    have := hB.rowNone (hdr' := hdr') (base' := W.fresh) (fz := 0) hr (fun _ h => h) (fun g hg _ => hfr g hg) fun p hp hm => by
      have := (hB.seen p hp hm).1
      omega
    rwa [e] at this
  intro R
  induction R with
  | d T =>
    intro x vs hs S1 hdr1 inn1 k _ hR g1 _ _ _ _
    obtain ⟨hD, _⟩ := hR
    exact ⟨hdr1, inn1, g1, fun b g h => .inr ⟨h, by simp [nestCells]⟩, fun _ _ h => h, hD.cells⟩
  | row rt T =>
    intro x vs hs S1 hdr1 inn1 k _ hR g1 hnd hfr hsep hnew
    obtain ⟨v, gs, rfl, rfl, hB⟩ := hR
    rw [gsOf_one] at hfr hsep ⊢
    exact one g1 (hnew _ (by simp [nestCells])) rfl (own rfl rfl hB hfr) (fun hdr' hh => ⟨hh, by
      rcases hB with ⟨_, h, _⟩ | ⟨g, cap, us, h, _⟩
      · exact ⟨_, _, _, h⟩
      · exact ⟨_, _, _, h⟩⟩) hsep
  | deep rt T _ =>
    intro x vs hs S1 hdr1 inn1 k _ hR g1 hnd hfr hsep hnew
    obtain ⟨v, gs, rfl, rfl, hB⟩ := hR
    rw [gsOf_one] at hfr hsep ⊢
    exact one g1 (hnew _ (by simp [nestCells])) rfl (own rfl rfl hB hfr) (fun hdr' hh => ⟨hh, by
      rcases hB with ⟨_, _, h, _⟩ | ⟨g, cap, us, gi, h, _⟩
      · exact ⟨_, _, _, h⟩
      · exact ⟨_, _, _, h⟩⟩) hsep
  | mp fr rt T =>
    intro x vs hs S1 hdr1 inn1 k _ hR g1 hnd hfr hsep hnew
    obtain ⟨v, gs, rfl, rfl, hB⟩ := hR
    rw [gsOf_one] at hfr hsep ⊢
    exact one g1 (hnew _ (by simp [nestCells])) rfl (own rfl rfl hB hfr) (fun hdr' hh => ⟨hh, hB.isMap⟩) hsep
  | box t T =>
    intro x vs hs S1 hdr1 inn1 k hb
    cases hb
  | pair A B ihA ihB =>
    intro x vs hs S1 hdr1 inn1 k hb hR g1 hnd hfr hsep hnew
    obtain ⟨v1, v2, h1, h2, rfl, rfl, r1, r2⟩ := hR
    have hb' : A.noBox = true ∧ B.noBox = true := by simpa [RTy.noBox] using hb
    rw [gsOf_append] at hnd hfr hsep
    obtain ⟨n1, n2, n3⟩ := List.nodup_append.1 hnd
    have hnew' : ∀ b ∈ ((nestCells t B x.2 (nestCells t A x.1 k).2.2).2.1 ++ (nestCells t A x.1 k).2.1).map (·.1), lk S1.heap b = none := hnew
    simp only [List.map_append, List.mem_append] at hnew'
    obtain ⟨hdr2, inn2, a1, a2, a3, a4⟩ := ihA (k := k) hb'.1 r1 g1 n1 (fun g hg => hfr g (List.mem_append.2 (.inl hg))) (fun b B g hl hg => hsep b B g hl (List.mem_append.2 (.inl hg))) (fun b hb => hnew' b (.inr hb))
    have hout : ∀ b ∈ (nestCells t B x.2 (nestCells t A x.1 k).2.2).2.1.map (·.1), b ∉ (nestCells t A x.1 k).2.1.map (·.1) := fun b hb hb2 => by
      obtain ⟨j, j1, j2, j3⟩ := (nest_ids t B x.2 _).2 b hb
      obtain ⟨i, i1, i2, i3⟩ := (nest_ids t A x.1 k).2 b hb2
      have := nestId_inj (j3.symm.trans i3)
      omega
    obtain ⟨hdr3, inn3, b1, b2, b3, b4⟩ := ihB (k := (nestCells t A x.1 k).2.2) hb'.2 r2 a1 n2 (fun g hg => hfr g (List.mem_append.2 (.inr hg))) (fun b C g hl hg hg' => by
        by_cases hm : b ∈ (nestCells t A x.1 k).2.1.map (·.1)
        · rcases a2 b g hg' with h3 | h3
          · exact n3 g h3 g hg rfl
          · exact h3.2 hm
        · have hl' : lk ((nestCells t A x.1 k).2.1 ++ S1.heap) b = some (some C) := hl
          rw [lk_append_out hm] at hl'
          rcases a2 b g hg' with h3 | h3
          · exact n3 g h3 g hg rfl
          · exact hsep b C g hl' (List.mem_append.2 (.inr hg)) h3.1)
      (fun b hb => by
        show lk ((nestCells t A x.1 k).2.1 ++ S1.heap) b = none
        rw [lk_append_out (hout b hb)]
        exact hnew' b (.inl hb))
    refine ⟨hdr3, inn3, ?_, fun b g hg => ?_, fun b u hb => b3 b u (a3 b u hb), ?_⟩
    · show Good W M0 ⟨S1.tmps, ((nestCells t B x.2 _).2.1 ++ (nestCells t A x.1 k).2.1) ++ S1.heap⟩ hdr3 inn3 M a w
      rw [List.append_assoc]; exact b1
    · rw [gsOf_append]
      rcases b2 b g hg with h3 | ⟨h3, h5⟩
      · exact .inl (List.mem_append.2 (.inr h3))
      · rcases a2 b g h3 with h4 | ⟨h4, h6⟩
        · exact .inl (List.mem_append.2 (.inl h4))
        · refine .inr ⟨h4, fun hm => ?_⟩
          have hm' : b ∈ ((nestCells t B x.2 (nestCells t A x.1 k).2.2).2.1 ++ (nestCells t A x.1 k).2.1).map (·.1) := hm
          rw [List.map_append, List.mem_append] at hm'
          exact hm'.elim h5 h6
    · exact (a4.mono fun _ _ h => h.keep (fun _ _ => rfl) (fun _ h => h) b3).append b4

/-- A call of a builder's function. -/
theorem bld_old (h : Good W M0 S hdr inn M a w) {b : Nat} {t' e' : TypeId} {x : (OK.bld t' e').den} (hb : lk S.heap b = some (some (.obj (.bld t' e') x 0))) :
    ∃ g, hdr b = some (.pointer (some ⟨g, 0, none⟩)) ∧ BldAt w t' e' g (OK.text x) (inn b) ∧ (∀ g ∈ inn b, W.fresh 0 g) ∧ ∀ p, M p → p.block ∉ inn b := by
  obtain ⟨v0, hv0, ⟨g, rfl, hB⟩, hfr, hMn⟩ := h.hp b _ hb
  exact ⟨g, hv0, hB, hfr, fun p hp hm => by have := hMn p hp hm; cases this⟩
theorem ext_kept {w' : World} {gs : List Nat} (h : Good W M0 S hdr inn M a w) (hfr : ∀ g ∈ gs, W.fresh 0 g) (hk : Kept w w' gs) : ExtW W w' :=
  ⟨hk.os.trans h.ext.os, hk.tape.trans h.ext.tape, hk.output.trans h.ext.output, Nat.le_trans h.ext.size hk.size, fun k hk1 hx => by
    rw [hk.block k (Nat.lt_of_lt_of_le hk1 h.ext.size) (fun hm => by
      rcases (hfr k hm).1 (by decide) with h1 | h1
      · omega
      · exact hx (.inr h1))]
    exact h.ext.block k hk1 hx, Nat.le_trans h.ext.drawn hk.drawn⟩
theorem args_run {c : Call} {f : FuncId} (hcl : Callable P f) (ho : o.op = .call c) (hc : c.callee = .value (.func f)) : (execOp a.eval o).run P w = .ok (.enter f (c.args.toList.map a.eval).toArray) w := by
  obtain ⟨fn, cd, hf, hname, hbody⟩ := hcl
  have hval : a.eval (.func f) = .func (.func f) #[] ([] : List Value).toArray := rfl
  have e1 : (c.args.map a.eval ++ ([] : List Value).toArray : Array Value) = (c.args.toList.map a.eval).toArray := by
    apply Array.ext'; simp
  simp only [execOp, ho, resolve, hc, hval, Deferred.ofValue, invoke]
  simp only [Sem.run_bind, Sem.run_pure, Result.andThen_ok, Array.empty_append]
  rw [e1, MuLone.run_callFunc_enter hf hname hbody]
theorem sound_bldW {c : Call} {f : FuncId} {t e' : TypeId} (h : Good W M0 S hdr inn M a w) (hok : BlwOK P f t e') (ho : o.op = .call c) (hc : c.callee = .value (.func f)) (hk : bldW S.heap t e' (c.args.toList.map S.ev) some = some e) : Sound P W M0 S a w o e := by
  have hev := evs_rep h c.args.toList
  unfold bldW at hk
  split at hk
  · rename_i b s hargs
    rw [hargs] at hev
    obtain ⟨v1, r1, hr1, h1, hev⟩ := hev.cons'
    obtain ⟨v2, r2, hr2, h2, hev⟩ := hev.cons'
    cases hev.nil'
    split at hk
    · rename_i t' e1 x fz hbk
      split at hk
      · rename_i hcnd
        obtain ⟨rfl, rfl, rfl⟩ := hcnd
        rcases br_some hk with ⟨hb, hk⟩ | ⟨hb, hk⟩
        · cases hk
          have hb1 := blkAt_some hbk
          obtain ⟨g, hh, hB, hfr, hMn⟩ := bld_old h hb1
          obtain ⟨g', hh', hv1⟩ := h1
          rw [hh] at hh'
          cases hh'
          subst hv1
          have h2' : v2 = .string s := h2
          subst h2'
          intro K Q hK
          unfold Oper.wp
          rw [args_run hok.1 ho hc, hr1, hr2]
          refine (hok.2 g (OK.text x) s w (inn b) hB (of_decide_eq_true hb)).mono ?_
          rintro en w' ⟨v, gs', rfl, hB', hgs', hkp⟩
          apply hK
          obtain ⟨inn', hg⟩ := h.grow (dst := o.dst) (x := .undef) (u := v) (rd := [b]) (gs := gs') (B := .obj (.bld t' e1) (OK.text x ++ s) 0) hb1 hh rfl (ext_kept h hfr hkp) hkp.size (fun g hg hlt => hkp.block g hlt hg)
            (fun p hp => World.cell?_of_block (hkp.block _ (h.ml p hp) (hMn p hp))) hgs' ⟨⟨g, rfl, hB'⟩, fun g hg => by
              rcases hgs' g hg with h3 | h3
              · exact hfr g h3
              · exact .new (Nat.le_trans h.ext.size h3) (by decide), fun p hp hm => by
              rcases hgs' _ hm with h3 | h3
              · exact (hMn p hp h3).elim
              · have := h.ml p hp; omega⟩ trivial
          exact ⟨_, _, _, hg⟩
        · cases hk
      · cases hk
    · cases hk
  · cases hk
theorem sound_bldS {c : Call} {f : FuncId} {t e' : TypeId} (h : Good W M0 S hdr inn M a w) (hok : BlsOK P f t e') (ho : o.op = .call c) (hc : c.callee = .value (.func f)) (hk : bldS S.heap t e' (c.args.toList.map S.ev) some = some e) : Sound P W M0 S a w o e := by
  have hev := evs_rep h c.args.toList
  unfold bldS at hk
  split at hk
  · rename_i b hargs
    rw [hargs] at hev
    obtain ⟨v1, r1, hr1, h1, hev⟩ := hev.cons'
    cases hev.nil'
    split at hk
    · rename_i t' e1 x fz hbk
      split at hk
      · rename_i hcnd
        obtain ⟨rfl, rfl, rfl⟩ := hcnd
        cases hk
        have hb1 := blkAt_some hbk
        obtain ⟨g, hh, hB, hfr, hMn⟩ := bld_old h hb1
        obtain ⟨g', hh', hv1⟩ := h1
        rw [hh] at hh'
        cases hh'
        subst hv1
        intro K Q hK
        unfold Oper.wp
        rw [args_run hok.1 ho hc, hr1]
        refine (hok.2 g (OK.text x) w (inn b) hB).mono ?_
        rintro en w' ⟨rfl, hB', hkp⟩
        apply hK
        obtain ⟨inn', hg⟩ := h.grow (dst := o.dst) (x := .v (.one (.str (OK.text x)))) (u := .string (OK.text x)) (rd := [b]) (gs := inn b) (B := .obj (.bld t' e1) x 0) hb1 hh rfl (ext_kept h hfr hkp) hkp.size (fun g hg hlt => hkp.block g hlt hg)
          (fun p hp => World.cell?_of_block (hkp.block _ (h.ml p hp) (hMn p hp))) (fun g hg => .inl hg) ⟨⟨g, rfl, hB'⟩, hfr, fun p hp hm => (hMn p hp hm).elim⟩ rfl
        exact ⟨_, _, _, hg⟩
      · cases hk
    · cases hk
  · cases hk

theorem RepR.base {w : World} {M : Mem} {b b' : Nat → Prop} (hb : ∀ g, b g → b' g) : ∀ {T : RTy} {x : T.den} {vs : List Value} {hs : List Hd}, RepR b w M T x vs hs → RepR b' w M T x vs hs
  | .d T, x, vs, hs, h => h
  | .row t T, xs, vs, hs, ⟨v, gs, h1, h2, hB⟩ => ⟨v, gs, h1, h2, hB.see (fz := 0) (fun _ h => h) (fun g _ h => hb g h) (fun p hp hm => by cases (hB.seen p hp hm).1)⟩
  | .pair A B, x, vs, hs, ⟨v1, v2, h1, h2, e1, e2, ha, hb'⟩ => ⟨v1, v2, h1, h2, e1, e2, RepR.base hb ha, RepR.base hb hb'⟩
  | .box t T, x, vs, hs, ⟨v, gs, h1, h2, hB⟩ => ⟨v, gs, h1, h2, hB.see (fz := 0) (fun _ h => h) (fun g _ h => hb g h) (fun p hp hm => by cases (hB.seen p hp hm).1)⟩
  | .deep t T, x, vs, hs, ⟨v, gs, h1, h2, hB⟩ => ⟨v, gs, h1, h2, hB.see (fz := 0) (fun _ h => h) (fun g _ h => hb g h) (fun p hp hm => by cases (hB.seen p hp hm).1)⟩
  | .mp fr t T, x, vs, hs, ⟨v, gs, h1, h2, hB⟩ => ⟨v, gs, h1, h2, hB.see (fz := 0) (fun _ h => h) (fun g _ h => hb g h) (fun p hp hm => by cases (hB.seen p hp hm).1)⟩
theorem ValD.flat {w : World} {M M' : Mem} {T : Ty} {x : T.den} {v : Value} (hf : T.far = false) (h : ValD w M T x v) : ValD w M' T x v := by
  unfold ValD at h ⊢
  cases T with
  | pair a b =>
    obtain ⟨vs, rfl, h⟩ := h
    exact ⟨vs, rfl, (RepD.flat (T := .pair a b) (w := w) (M := M) hf (RepD.ofCells h)).cells⟩
  | unit =>
    obtain ⟨vs, rfl, h⟩ := h
    cases h.nil'
    exact ⟨[], rfl, trivial⟩
  | int k => exact h
  | bool => exact h
  | str => exact h
  | slice e => cases hf
  | ref e => cases hf
  | clo f e => cases hf
theorem setAll_reverse : ∀ (l H : Heap), setAll H l.reverse = l ++ H
  | [], _ => rfl
  | x :: l, H => by
    rw [List.reverse_cons, setAll_append, setAll_reverse l H]
    rfl
theorem sound_ncall {c : Call} {f : FuncId} {con : NCon} (h : Good W M0 S hdr inn M a w) (hcon : con.ok P f) (ho : o.op = .call c) (hc : c.callee = .value (.func f)) (hk : ncallK S.heap con (c.args.toList.map S.ev) id some = some e) : Sound P W M0 S a w o e := by
  have hev := evs_rep h c.args.toList
  unfold ncallK at hk
  split at hk
  · rename_i b rest hargs
    rw [hargs] at hev
    obtain ⟨v1, vs, hr1, h1, hev⟩ := hev.cons'
    split at hk
    · rename_i t' cs fz hbk
      obtain ⟨hc1, hk⟩ := chk_some hk
      obtain ⟨q, hq, hk⟩ := Option.bind_eq_some_iff.1 hk
      obtain ⟨hc2, hk⟩ := chk_some hk
      obtain ⟨x, hx, hk⟩ := Option.bind_eq_some_iff.1 hk
      obtain ⟨y, hy, hk⟩ := ob_some hk
      dsimp only at hk
      obtain ⟨hc3, hk⟩ := chk_some hk
      cases hk
      simp only [Bool.and_eq_true, decide_eq_true_eq, Bool.not_eq_true'] at hc1
      obtain ⟨⟨⟨ht, hz⟩, hRf⟩, hCf⟩ := hc1
      have hz : fz = 0 := Nat.eq_of_beq_eq_true hz
      subst hz
      simp only [Bool.and_eq_true, List.isEmpty_iff] at hc2
      obtain ⟨hq1, hq2⟩ := hc2
      simp only [Bool.and_eq_true] at hc3
      obtain ⟨⟨hnew, hnd⟩, hdj⟩ := hc3
      have hnd := noDup_spec hnd
      obtain ⟨hnb, hno⟩ := List.nodup_cons.1 hnd
      obtain ⟨g, hh, hv1⟩ := h1
      subst hv1
      have hb1 := blkAt_some hbk
      obtain ⟨v0, hv0, hB⟩ := h.hp b _ hb1
      rw [hh] at hv0
      injection hv0 with hv0
      subst hv0
      obtain ⟨g', ws, e1, e2, k1, k2, k3, k4⟩ := hB
      simp only [Value.pointer.injEq, Option.some.injEq, Addr.mk.injEq, and_true] at e1
      subst e1
      rw [ht] at k2
      let rows := argRows S.heap rest
      have hrow : ∀ c ∈ b :: q.2.2.1, c ∉ rows := fun c hc => disj_mem hdj hc
      have hargs' := argsD_rep h (rows := rows) hx hev fun c hc => ⟨List.mem_append.2 (.inl hc), fun d hd => List.mem_append.2 (.inr (List.mem_flatMap.2 ⟨c, hc, hd⟩))⟩
      obtain ⟨u1, u2, hs, e3, m1, m2, m3⟩ := takeR_rep h (rsA := q.2.2.1) (dsA := []) (fun _ _ h => by cases h) (x := q.1) (r := q.2.1) (rs := q.2.2.1) (ds := q.2.2.2) hq k3 (fun _ h => h) (fun c hc => by rw [hq2] at hc; cases hc)
      rw [hq1] at m2
      cases m2.nil'
      rw [List.append_nil] at e3
      have hgb : g ∈ inn b := by rw [e2]; simp
      have hMg : ∀ p, plusMem M S inn rows p → p.block ≠ g := fun p hp => h.plus_not hb1 (by show (0 : Nat) ≠ 1; decide) hgb (hrow b (by simp)) p hp
      have hMh : ∀ p, plusMem M S inn rows p → p.block ∉ gsOf hs := fun p hp hm => by
        obtain ⟨b', n1, n2, B', n3, n4⟩ := m3.mem _ hm
        exact h.plus_not n3 (by omega) n2 (hrow b' (List.mem_cons_of_mem _ n1)) p hp rfl
      have hR : RepR (fun _ => True) w (plusMem M S inn rows) con.R q.1 ws.toList hs := by
        rw [e3]
        exact RepR.flat hRf hMh (RepR.base (fun _ _ => trivial) m1)
      have hgh : g ∉ gsOf hs := fun hm => by
        obtain ⟨b', n1, n2, B', n3, n4⟩ := m3.mem _ hm
        exact h.sep b b' _ _ g (fun e => hnb (by rw [e]; exact n1)) hb1 n3 hgb n2
      have hnds : (g :: gsOf hs).Nodup := List.nodup_cons.2 ⟨hgh, m3.nodup h hno⟩
      have hfr : ∀ k ∈ g :: gsOf hs, W.fresh 0 k := fun k hk => by
        rcases List.mem_cons.1 hk with rfl | hk
        · exact k1
        · exact RepR.ge m1 k hk
      have hgl : ∀ k ∈ g :: gsOf hs, globs ≤ k := fun k hk => by
        have hld := W.ld.1
        rcases (hfr k hk).1 (by decide) with h1 | h1
        · omega
        · exact W.no _ h1
      have hMn : ∀ p, M p → p.block ∉ g :: gsOf hs := fun p hp hm => by
        rcases List.mem_cons.1 hm with e | hm
        · exact hMg p (.inl hp) e
        · exact hMh p (.inl hp) hm
      intro K Q hK
      unfold Oper.wp
      rw [args_run hcon.1 ho hc, hr1]
      refine (hcon.2.2 w (plusMem M S inn rows) vs g ws hs q.1 x y.1 y.2 h.ext.laid (h.plus_ml rows) k2 hR hnds hgl hMg hargs' hy).mono ?_
      rintro en w' ⟨v, cs', hs', rfl, hV, hbx, hR', hnds', hsub, hkp⟩
      apply hK
      have hExt := ext_kept h hfr hkp
      have hl1 : ∀ c, lk ((b, none) :: setAll S.heap (gone q.2.2.1)) c = if b = c then some none else if c ∈ q.2.2.1 then some none else lk S.heap c := fun c => by
        rw [lk_cons, lk_gone]
      have old : ∀ {c C}, lk ((b, none) :: setAll S.heap (gone q.2.2.1)) c = some (some C) → c ≠ b ∧ c ∉ q.2.2.1 ∧ lk S.heap c = some (some C) := by
        intro c C hc
        rw [hl1] at hc
        split at hc
        · cases hc
        · rename_i e1
          split at hc
          · cases hc
          · rename_i e2
            exact ⟨fun e => e1 e.symm, e2, hc⟩
      have lt : ∀ {c C k}, lk S.heap c = some (some C) → k ∈ inn c → k < w.heap.size := fun hc hk => by
        obtain ⟨u, hu, hr⟩ := h.hp _ _ hc
        exact (hr.lt hk).1
      have apart : ∀ {c C k}, c ≠ b → c ∉ q.2.2.1 → lk S.heap c = some (some C) → k ∈ inn c → k ∉ g :: gsOf hs := fun {c C k} n1 n2 n3 n4 hm => by
        rcases List.mem_cons.1 hm with rfl | hm
        · exact h.sep c b C _ _ n1 n3 hb1 n4 hgb
        · obtain ⟨b', l1, l2, B', l3, l4⟩ := m3.mem _ hm
          exact h.sep c b' C B' k (fun e => n2 (by rw [e]; exact l1)) n3 l3 n4 l2
      have g1 : Good W M0 ⟨S.tmps, (b, none) :: setAll S.heap (gone q.2.2.1)⟩ hdr inn M a w' := h.move (M2 := M) hExt (fun p hp => World.cell?_of_block (hkp.block _ (h.ml p hp) (hMn p hp))) (fun _ h => h) (fun p hp => ⟨Nat.lt_of_lt_of_le (h.ml p hp) hkp.size, h.mo p hp⟩)
        (fun c hc => by
          rw [hl1] at hc
          split at hc
          · cases hc
          · split at hc
            · cases hc
            · exact hc)
        (fun c C hc => by
          obtain ⟨n1, n2, n3⟩ := old hc
          obtain ⟨u, hu, hr⟩ := h.hp c C n3
          exact ⟨C, u, n3, hu, rfl, hr.keep (fun p hp => World.cell?_of_block (hkp.block _ (h.ml p hp) (hMn p hp))) (fun _ h => h) (fun _ _ h => h) fun k hk => ⟨hkp.block k (lt n3 hk) (apart n1 n2 n3 hk), fun p hp _ => hp⟩⟩)
        (fun c c' C C' k hcc hc hc' hk => by
          obtain ⟨_, _, n3⟩ := old hc
          obtain ⟨_, _, n3'⟩ := old hc'
          exact h.sep c c' C C' k hcc n3 n3' hk)
      obtain ⟨hgh', hnh'⟩ := List.nodup_cons.1 hnds'
      have hMh' : ∀ p, M p → p.block ∉ gsOf hs' := fun p hp hm => by
        rcases hsub _ hm with h1 | h1
        · exact hMn p hp (List.mem_cons_of_mem _ h1)
        · have := h.ml p hp; omega
      have hR2 : RepR (fun _ => True) w' M con.R y.2 cs'.toList hs' := RepR.flat hRf hMh' hR'
      have hnew' : ∀ c ∈ (nestCells id con.R y.2 0).2.1.map (·.1), lk S.heap c = none := fun c hc => by
        have := List.all_eq_true.1 hnew c hc
        simpa [isNew] using this
      obtain ⟨hdr2, inn2, a1, a2, a3, a4⟩ := add_heads (t := id) (k := 0) hcon.2.1 hR2 g1 hnh' (fun k hk => by
          rcases hsub k hk with h1 | h1
          · exact hfr k (List.mem_cons_of_mem _ h1)
          · exact .new (Nat.le_trans h.ext.size h1) (by decide))
        (fun c C k hc hk hk' => by
          obtain ⟨n1, n2, n3⟩ := old hc
          rcases hsub k hk with h1 | h1
          · exact apart n1 n2 n3 hk' (List.mem_cons_of_mem _ h1)
          · have := lt n3 hk'; omega)
        (fun c hc => by
          rw [hl1]
          have hn := hnew' c hc
          have e1 : ¬ b = c := fun e => by rw [← e, hb1] at hn; cases hn
          have e2 : c ∉ q.2.2.1 := fun hm => by
            obtain ⟨C, hC⟩ := takeR_blk hq c hm
            rw [hC] at hn; cases hn
          rw [if_neg e1, if_neg e2]
          exact hn)
      have g3 := a1.putBlk (id := b) (B := .cells con.t (nestCells id con.R y.2 0).1 0) (v := .pointer (some ⟨g, 0, none⟩)) (gs := [g]) (a3 _ _ hh) (fun hf => by cases hf) ⟨g, cs', rfl, rfl, hfr g (by simp), hbx, a4, fun p hp e => (hMg p (.inl hp) e).elim⟩
        (fun c C k hcb hc hk hk' => by
          rw [List.mem_singleton] at hk
          subst hk
          rcases a2 c k hk' with h1 | ⟨h1, h2⟩
          · exact hgh' h1
          · have hc' : lk ((nestCells id con.R y.2 0).2.1 ++ ((b, none) :: setAll S.heap (gone q.2.2.1))) c = some (some C) := hc
            rw [lk_append_out h2] at hc'
            obtain ⟨n1, n2, n3⟩ := old hc'
            exact apart n1 n2 n3 h1 (by simp))
      have g4 := g3.val (dst := o.dst) (x := .v (v1Of con.cod y.1)) (u := v) (rd := []) ((ValD.flat (M' := M) hCf hV).keep (fun _ _ => rfl) (fun _ h => h) (fun _ _ h => by cases h))
      have hheap : setAll S.heap (gone q.2.2.1 ++ ((b, none) :: ((nestCells id con.R y.2 0).2.1.reverse ++ [(b, some (.cells con.t (nestCells id con.R y.2 0).1 0))]))) = (b, some (.cells con.t (nestCells id con.R y.2 0).1 0)) :: ((nestCells id con.R y.2 0).2.1 ++ ((b, none) :: setAll S.heap (gone q.2.2.1))) := by
        rw [setAll_append]
        show setAll ((b, none) :: setAll S.heap (gone q.2.2.1)) ((nestCells id con.R y.2 0).2.1.reverse ++ [(b, some (.cells con.t (nestCells id con.R y.2 0).1 0))]) = _
        rw [setAll_append, setAll_reverse]
        rfl
      refine ⟨hdr2, fun c => if c = b then [g] else inn2 c, M, ?_⟩
      show Good W M0 ⟨putT S.tmps o.dst (.v (v1Of con.cod y.1)), setAll S.heap _⟩ hdr2 _ M _ w'
      rw [hheap]
      exact g4
    · cases hk
  · cases hk

/-- ALL OPERATIONS. -/
theorem op_sound (hE : EnvOK P E) (h : Good W M0 S hdr inn M a w) (hk : opK E o.op id S some = some e) : Sound P W M0 S a w o e := by
  cases ho : o.op
  case move => exact sound_move h (.inl ho) hk
  case assign => exact sound_move h (.inr ho) hk
  case pick => exact sound_pick h ho hk
  case alloc => exact sound_alloc h hE.tab hE.blt ho hk
  case box => exact sound_boxOp h ho hk
  case build => exact sound_build h hE.tab ho hk
  case buildSlice => exact sound_buildSlice h hE.tab ho hk
  case load => exact sound_load h hE.tab ho hk
  case store => exact sound_store h hE.tab ho hk
  case nilCheck => exact sound_nilCheck h ho hk
  case binOp => exact sound_bin h hE.tab hE.eqs ho hk
  case unOp => exact sound_un h ho hk
  case convert => exact sound_convert h hE.tab ho hk
  case makeSlice => exact sound_make h hE.tab ho hk
  case fieldAddr => exact sound_fieldAddr h hE.tab ho hk
  case field => exact sound_field h hE.tab ho hk
  case indexAddr => exact sound_indexAddr h hE.tab ho hk
  case index => exact sound_index h hE.tab ho hk
  case slice => exact sound_slice h hE.tab ho hk fun b hx => sound_sliceRow h hE.tab ho hx hk
  case extract => exact sound_extract h ho hk
  case makeMap => exact sound_makeMap h ho hk
  case lookup => exact sound_lookup h hE.tab ho hk
  case mapUpdate => exact sound_mapUpdate h hE.tab ho hk
  case makeFunc => exact sound_makeFunc h ho hk
  case call c =>
    have hk' := hk
    rw [ho] at hk'
    simp only [opK] at hk'
    split at hk'
    · rename_i f hc
      split at hk'
      · rename_i con hcon
        exact sound_call h (hE.cons f con hcon) ho hc hk'
      · split at hk'
        · rename_i con hcon
          exact sound_mcall h (hE.mcons f con hcon) ho hc hk'
        · split at hk'
          · rename_i p hp
            exact sound_bldW h (hE.blw f p hp) ho hc hk'
          · split at hk'
            · rename_i p hp
              exact sound_bldS h (hE.bls f p hp) ho hc hk'
            · split at hk'
              · rename_i con hp
                exact sound_ncall h (hE.ncons f con hp) ho hc hk'
              · cases hk'
    · rename_i x hc
      split at hk'
      · rename_i f T y hx
        obtain ⟨caps, hv, hcaps⟩ := h.one hx
        simp at hv
        split at hk'
        · rename_i con hcon
          rcases hcaps with ⟨hu, rfl⟩ | ⟨hu, ad, us, rfl, h1, h2⟩
          · simp only [hu, if_true] at hk'
            exact sound_callX (ex := []) (caps := []) h (hE.cons f con hcon) ho hc hv trivial hk'
          · simp only [hu, Bool.false_eq_true, if_false] at hk'
            exact sound_callX (ex := [.v (.one (.rptr T y 0))]) (caps := [.pointer (some ad)]) h (hE.cons f con hcon) ho hc hv (.one ⟨ad, us, rfl, h1, h2⟩) hk'
        · cases hk'
      · rename_i f b hx
        obtain ⟨g, h1, h2⟩ := h.one hx
        split at hk'
        · rename_i con hcon
          exact sound_callX (ex := [.v (.one (.ptr b 0))]) (caps := [.pointer (some ⟨g, 0, none⟩)]) h (hE.cons f con hcon) ho hc h2 (.one ⟨g, h1, rfl⟩) hk'
        · cases hk'
      · cases hk'
    · rename_i hc
      exact sound_len h hE.tab ho hc hk
    · rename_i hc
      exact sound_min h ho hc hk
    · rename_i hc
      exact sound_max h ho hc hk
    · rename_i hc
      exact sound_append h hE.tab ho hc hk
    · cases hk'
  all_goals
    rw [ho] at hk
    simp [opK] at hk
end
end Rx
end Go.Proofs.YthfgpnpoocepeaaGreat
