/- The evaluator's calls are true of the program's; all operations together. No conditions. -/
import Derived.Test.YtfapjkcmoefilaaGreatDoorRxJ
namespace Go.Proofs.YtfapjkcmoefilaaGreatDoor
open Go.RowKit
namespace Rx

section
variable {P : Program} {W : WX} {M0 : Mem} {S : St} {hdr : Nat → Option Value} {M : Mem} {a : Act} {w : World} {o : Oper} {e : Eff} {id : Nat} {E : Env}

def BlkAt (w : World) (M : Mem) (hdr : Nat → Option Value) (base : Nat → Prop) (q : Nat × Option Blk) (v : Value) : Prop := ∃ B, q.2 = some B ∧ B.fz = 0 ∧ RepBlk w M hdr (fun _ => base) B v

theorem shift_hs {hs1 hs2 : List Value} {n : Nat} (hh : ∀ (j : Nat) v, (hs1 ++ hs2)[j]? = some v → hdr (n + j) = some v) : (∀ (j : Nat) v, hs1[j]? = some v → hdr (n + j) = some v) ∧ (∀ (j : Nat) v, hs2[j]? = some v → hdr (n + hs1.length + j) = some v) := by
  refine ⟨fun j v hv => hh j v ?_, fun j v hv => ?_⟩
  · rw [List.getElem?_append_left (List.getElem?_eq_some_iff.1 hv).1]; exact hv
  · rw [Nat.add_assoc]
    refine hh _ v ?_
    rw [List.getElem?_append_right (by omega)]
    simpa using hv

theorem resCells_rep {base : Nat → Prop} : ∀ {T : RTy} {x : T.den} {vs hs : List Value} {n : Nat}, RepR base w M T x vs hs → (∀ (j : Nat) v, hs[j]? = some v → hdr (n + j) = some v) →
    All2 (RepC w M hdr) (resCells T x n).1 vs ∧ (resCells T x n).2.2 = n + hs.length ∧ All2 (BlkAt w M hdr base) (resCells T x n).2.1 hs ∧ (resCells T x n).2.1.map (·.1) = List.range' n hs.length
  | .d T, x, vs, hs, n, h, hh => by
    obtain ⟨h1, rfl⟩ := h
    exact ⟨h1.cells, rfl, trivial, rfl⟩
  | .row t T, xs, vs, hs, n, h, hh => by
    obtain ⟨v, rfl, rfl, hB⟩ := h
    have := hh 0 v rfl
    refine ⟨.one ⟨this, ?_⟩, rfl, .one ⟨_, rfl, rfl, hB⟩, rfl⟩
    rcases hB with ⟨_, rfl⟩ | ⟨g, cap, vs, rfl, _⟩ <;> exact ⟨_, _, _, rfl⟩
  | .pair A B, x, vs, hs, n, h, hh => by
    obtain ⟨v1, v2, h1, h2, rfl, rfl, ha, hb⟩ := h
    obtain ⟨s1, s2⟩ := shift_hs hh
    obtain ⟨a1, a2, a3, a4⟩ := resCells_rep ha s1
    obtain ⟨b1, b2, b3, b4⟩ := resCells_rep (n := (resCells A x.1 n).2.2) hb (by rw [a2]; exact s2)
    refine ⟨a1.append b1, ?_, a3.append b3, ?_⟩
    · show (resCells B x.2 _).2.2 = _
      rw [b2, a2, List.length_append]; omega
    · show List.map _ ((resCells A x.1 n).2.1 ++ (resCells B x.2 _).2.1) = _
      rw [List.map_append, a4, b4, a2, List.length_append, List.range'_append_1]
  | .box t T, x, vs, hs, n, h, hh => by
    obtain ⟨v, rfl, rfl, hB⟩ := h
    have h0 := hh 0 v rfl
    refine ⟨.one ?_, rfl, .one ⟨_, rfl, rfl, hB.boxNone⟩, rfl⟩
    obtain ⟨g, us, rfl, _⟩ := hB
    exact ⟨g, h0, rfl⟩

theorem resV1_rep {base : Nat → Prop} {T : RTy} {x : T.den} {v : Value} {hs : List Value} {n : Nat} (hS : ShapeR T v) (h : RepR base w M T x v.cells.toList hs) (hh : ∀ (j : Nat) v, hs[j]? = some v → hdr (n + j) = some v) :
    RepV1 w M hdr (resV1 T x n).1 v ∧ (resV1 T x n).2.2 = n + hs.length ∧ All2 (BlkAt w M hdr base) (resV1 T x n).2.1 hs ∧ (resV1 T x n).2.1.map (·.1) = List.range' n hs.length := by
  have one : v.oneCell' = true → v.cells = #[v] := fun h1 => by cases v <;> first | rfl | (simp [Value.oneCell'] at h1)
  cases T with
  | d T =>
    obtain ⟨h1, rfl⟩ := h
    refine ⟨?_, rfl, trivial, rfl⟩
    have hc := h1.cells (hdr := hdr)
    cases T with
    | pair A B =>
      obtain ⟨cs, rfl⟩ : ∃ cs : List Value, v = .agg cs.toArray := by simpa [ShapeR, aggR] using hS
      exact ⟨cs, rfl, by simpa only [Value.cells] using hc⟩
    | unit =>
      obtain ⟨cs, rfl⟩ : ∃ cs : List Value, v = .agg cs.toArray := by simpa [ShapeR, aggR] using hS
      have hc' : All2 (RepC w M hdr) (cellsOf .unit x) cs := by simpa only [Value.cells] using hc
      exact ⟨cs, rfl, hc'⟩
    | int k => have h2 : v.oneCell' = true := by simpa [ShapeR, aggR] using hS
               rw [one h2] at hc; exact hc.1
    | bool => have h2 : v.oneCell' = true := by simpa [ShapeR, aggR] using hS
              rw [one h2] at hc; exact hc.1
    | str => have h2 : v.oneCell' = true := by simpa [ShapeR, aggR] using hS
             rw [one h2] at hc; exact hc.1
    | slice T => have h2 : v.oneCell' = true := by simpa [ShapeR, aggR] using hS
                 rw [one h2] at hc; exact hc.1
    | ref T => rw [one (by simpa [ShapeR, aggR] using hS)] at hc; exact hc.1
    | clo f T => rw [one (by simpa [ShapeR, aggR] using hS)] at hc; exact hc.1
  | row t T =>
    have h2 : v.oneCell' = true := by simpa [ShapeR, aggR] using hS
    rw [one h2] at h
    obtain ⟨a1, a2, a3, a4⟩ := resCells_rep h hh
    exact ⟨a1.1, a2, a3, a4⟩
  | pair A B =>
    obtain ⟨cs, rfl⟩ : ∃ cs : List Value, v = .agg cs.toArray := by simpa [ShapeR, aggR] using hS
    obtain ⟨a1, a2, a3, a4⟩ := resCells_rep h hh
    exact ⟨⟨cs, rfl, by simpa only [Value.cells] using a1⟩, a2, a3, a4⟩
  | box t T =>
    rw [one (by simpa [ShapeR, aggR] using hS)] at h
    obtain ⟨a1, a2, a3, a4⟩ := resCells_rep h hh
    exact ⟨a1.1, a2, a3, a4⟩

theorem resAll_rep {base : Nat → Prop} : ∀ {Ts : List RTy} {x : RDens Ts} {rs hs : List Value} {n : Nat}, RepRs base w M Ts x rs hs → (∀ (j : Nat) v, hs[j]? = some v → hdr (n + j) = some v) →
    All2 (RepV1 w M hdr) (resAll Ts x n).1 rs ∧ All2 (BlkAt w M hdr base) (resAll Ts x n).2 hs ∧ (resAll Ts x n).2.map (·.1) = List.range' n hs.length
  | [], x, rs, hs, n, h, hh => by
    obtain ⟨rfl, rfl⟩ := h
    exact ⟨trivial, trivial, rfl⟩
  | [T], x, rs, hs, n, h, hh => by
    obtain ⟨v, rfl, hS, h⟩ := h
    obtain ⟨a1, a2, a3, a4⟩ := resV1_rep hS h hh
    exact ⟨.one a1, a3, a4⟩
  | T :: U :: Ts, x, rs, hs, n, h, hh => by
    obtain ⟨v, r, h1, h2, rfl, rfl, hS, ha, hb⟩ := h
    obtain ⟨s1, s2⟩ := shift_hs hh
    obtain ⟨a1, a2, a3, a4⟩ := resV1_rep hS ha s1
    obtain ⟨b1, b2, b3⟩ := resAll_rep (n := (resV1 T x.1 n).2.2) hb (by rw [a2]; exact s2)
    refine ⟨⟨a1, b1⟩, a3.append b2, ?_⟩
    show List.map _ ((resV1 T x.1 n).2.1 ++ (resAll (U :: Ts) x.2 _).2) = _
    rw [List.map_append, a4, b3, a2, List.length_append, List.range'_append_1]

theorem resAV_rep {xs : List V1} {rs : List Value} (h : All2 (RepV1 w M hdr) xs rs) : RepAV w M hdr (tupAV xs) (retOf rs) := by
  match xs, rs, h with
  | [], [], h => exact ⟨[], rfl, h⟩
  | [x], [r], h => exact h.1
  | x :: y :: xs, r :: s :: rs, h => exact ⟨_, rfl, h⟩
  | [x], _ :: _ :: _, h => exact h.2.elim
  | _ :: _ :: _, [r], h => exact h.2.elim

theorem lk_setAll : ∀ (l : List (Nat × Option Blk)) (H : Heap) (b : Nat), (l.map (·.1)).Nodup → lk (setAll H l) b = (match l.lookup b with | some x => some x | none => lk H b)
  | [], H, b, _ => rfl
  | (n, x) :: r, H, b, hn => by
    simp only [List.map_cons, List.nodup_cons] at hn
    rw [setAll, lk_setAll r _ b hn.2, List.lookup_cons, lk_cons]
    by_cases hb : b = n
    · subst hb
      have : r.lookup b = none := by
        rw [List.lookup_eq_none_iff]
        intro p hp
        simp
        intro e
        exact hn.1 (by rw [e]; exact List.mem_map_of_mem hp)
      simp [this]
    · have h1 : (b == n) = false := by simpa using hb
      have h2 : ¬ n = b := fun e => hb e.symm
      simp only [h1, h2, if_false]

theorem lookup_of_range {l : List (Nat × Option Blk)} {hs : List Value} {n b : Nat} {base : Nat → Prop} (hA : All2 (BlkAt w M hdr base) l hs) (hr : l.map (·.1) = List.range' n hs.length) :
    (∀ x, l.lookup b = some x → ∃ j v B, b = n + j ∧ hs[j]? = some v ∧ x = some B ∧ B.fz = 0 ∧ RepBlk w M hdr (fun _ => base) B v) ∧ (l.lookup b = none → ¬ (n ≤ b ∧ b < n + hs.length)) := by
  induction l generalizing n hs with
  | nil =>
    obtain rfl := hA.nil'
    exact ⟨fun x h => none_some h, fun _ => by simp⟩
  | cons q l ih =>
    obtain ⟨v, hs', rfl, h1, h2⟩ := hA.cons'
    obtain ⟨m, x0⟩ := q
    simp only [List.map_cons, List.length_cons, List.range'_succ, List.cons.injEq] at hr
    obtain ⟨rfl, hr⟩ := hr
    obtain ⟨i1, i2⟩ := ih h2 hr
    rw [List.lookup_cons]
    by_cases hb : b = m
    · subst hb
      simp only [beq_self_eq_true]
      refine ⟨fun x hx => ?_, fun h => by cases h⟩
      cases hx
      obtain ⟨B, hB, hZ, hR⟩ := h1
      exact ⟨0, v, B, rfl, rfl, hB, hZ, hR⟩
    · have hbe : (b == m) = false := by simpa using hb
      simp only [hbe]
      refine ⟨fun x hx => ?_, fun hx => ?_⟩
      · obtain ⟨j, v', B, rfl, k1, k2, kz, k3⟩ := i1 x hx
        exact ⟨j + 1, v', B, by omega, by simpa using k1, k2, kz, k3⟩
      · have := i2 hx
        simp only [List.length_cons]
        omega

/-- The results of a call are taken over. -/
theorem Good.result {M2 : Mem} {w' : World} {cod : List RTy} {y : RDens cod} {rs hs : List Value} {dst : Option Tmp} {rd : List Nat} (h : Good W M0 S hdr M a w) (hE : Ext w w') (hR : RepRs (fun g => w.heap.size ≤ g) w' M2 cod y rs hs)
    (hnd : (hs.filterMap own).Nodup) (hM : ∀ p, M p → M2 p) (hM2 : ∀ p, M2 p → (M p ∨ w.heap.size ≤ p.block) ∧ p.block < w'.heap.size ∧ p.block ∉ hs.filterMap own) (hnew : ((resAV cod y id).2.map (·.1)).all (isNew S.heap) = true) :
    ∃ hdr', Good W M0 (S.app dst ⟨(resAV cod y id).1, (resAV cod y id).2, rd⟩) hdr' M2 (a.put dst (retOf rs)) w' := by
  let hdr' : Nat → Option Value := fun b => if id ≤ b ∧ b < id + hs.length then hs[b - id]? else hdr b
  have hin : ∀ (j : Nat) v, hs[j]? = some v → hdr' (id + j) = some v := fun j v hv => by
    have hj := (List.getElem?_eq_some_iff.1 hv).1
    show (if _ then _ else _) = _
    rw [if_pos ⟨by omega, by omega⟩, show id + j - id = j by omega]
    exact hv
  obtain ⟨a1, a2, a3⟩ := resAll_rep (hdr := hdr') hR hin
  have hwr : (resAV cod y id).2 = (resAll cod y id).2 := rfl
  have hnl : ∀ b, id ≤ b → b < id + hs.length → lk S.heap b = none := by
    intro b h1 h2
    rw [hwr, a3, List.all_eq_true] at hnew
    have := hnew b (by rw [List.mem_range'_1]; exact ⟨h1, h2⟩)
    simpa [isNew] using this
  have hout : ∀ b v, hdr b = some v → ¬ (id ≤ b ∧ b < id + hs.length) := fun b v hv hb => by
    rw [h.un b (hnl b hb.1 hb.2)] at hv; cases hv
  have hh : ∀ b v, hdr b = some v → hdr' b = some v := fun b v hv => by
    show (if _ then _ else _) = _
    rw [if_neg (hout b v hv)]; exact hv
  have hc : ∀ p, M p → w'.cell? p = w.cell? p := fun p hp => hE.cell (h.ml p hp)
  have hnd' : ((resAll cod y id).2.map (·.1)).Nodup := by rw [a3]; exact List.nodup_range'
  have hlk : ∀ b, lk (setAll S.heap (resAV cod y id).2) b = (match (resAll cod y id).2.lookup b with | some x => some x | none => lk S.heap b) := fun b => lk_setAll _ _ _ hnd'
  -- own blocks of the results
  have hgs : ∀ (j : Nat) v g, hs[j]? = some v → own v = some g → g ∈ hs.filterMap own := fun j v g hv hg => List.mem_filterMap.2 ⟨v, List.mem_of_getElem? hv, hg⟩
  have hdis : ∀ (i j : Nat) u v g, i ≠ j → hs[i]? = some u → hs[j]? = some v → own u = some g → own v ≠ some g := by
    have gen : ∀ (l : List Value), (l.filterMap own).Nodup → ∀ (i j : Nat) u v g, i < j → l[i]? = some u → l[j]? = some v → own u = some g → own v ≠ some g := by
      intro l
      induction l with
      | nil => intro _ i j u v g _ hu; simp at hu
      | cons x l ih =>
        intro hn i j u v g hij hu hv hg hg'
        cases j with
        | zero => omega
        | succ j =>
          have hv' : l[j]? = some v := by simpa using hv
          cases i with
          | zero =>
            simp at hu; subst hu
            rw [List.filterMap_cons_some hg, List.nodup_cons] at hn
            exact hn.1 (List.mem_filterMap.2 ⟨v, List.mem_of_getElem? hv', hg'⟩)
          | succ i =>
            have hn' : (l.filterMap own).Nodup := by
              cases hx : own x with
              | none => rwa [List.filterMap_cons_none hx] at hn
              | some y => rw [List.filterMap_cons_some hx, List.nodup_cons] at hn; exact hn.2
            exact ih hn' i j u v g (by omega) (by simpa using hu) hv' hg hg'
    intro i j u v g hij hu hv hg hg'
    rcases Nat.lt_or_gt_of_ne hij with h1 | h1
    · exact gen hs hnd i j u v g h1 hu hv hg hg'
    · exact gen hs hnd j i v u g h1 hv hu hg' hg
  have cases_of : ∀ b B, lk (setAll S.heap (resAV cod y id).2) b = some (some B) → (∃ j v, b = id + j ∧ hs[j]? = some v ∧ hdr' b = some v ∧ B.fz = 0 ∧ RepBlk w' M2 hdr' (fun _ g => w.heap.size ≤ g) B v) ∨ (lk S.heap b = some (some B) ∧ ∃ v, hdr b = some v ∧ hdr' b = some v ∧ RepBlk w M hdr W.fresh B v) := by
    intro b B hb
    rw [hlk] at hb
    obtain ⟨c1, c2⟩ := lookup_of_range (b := b) a2 a3
    split at hb
    · rename_i x hx
      cases hb
      obtain ⟨j, v, B', rfl, k1, k2, kz, k3⟩ := c1 _ hx
      cases k2
      exact .inl ⟨j, v, rfl, k1, hin j v k1, kz, k3⟩
    · obtain ⟨v, hv, hr⟩ := h.hp b B hb
      exact .inr ⟨hb, v, hv, hh b v hv, hr⟩
  have hbase : ∀ {g}, w.heap.size ≤ g → W.fresh 0 g := fun hg => .new (Nat.le_trans h.ext.size hg) (by decide)
  have bm : ∀ {B v}, B.fz = 0 → RepBlk w' M2 hdr' (fun _ g => w.heap.size ≤ g) B v → RepBlk w' M2 hdr' W.fresh B v := by
    intro B v hz hB
    cases B with
    | cells t cs fz => have hz' : fz = 0 := hz; subst hz'; obtain ⟨g, vs, h1, h2, h3⟩ := hB; exact ⟨g, vs, h1, hbase h2, h3⟩
    | row t T xs fz =>
      have hz' : fz = 0 := hz
      subst hz'
      rcases hB with hB | ⟨g, cap, vs, h1, h2, h3⟩
      · exact .inl hB
      · exact .inr ⟨g, cap, vs, h1, hbase h2, h3⟩
  refine ⟨hdr', h.ext.trans hE, put_nod h, put_len h, put_tm h hc hM hh (resAV_rep a1), ?_, ?_, ?_, fun p hp => (hM2 p hp).2.1, fun p hp => ?_, ?_⟩
  · intro b B hb
    rcases cases_of b B hb with ⟨j, v, _, _, k1, kz, k2⟩ | ⟨_, v, _, k1, k2⟩
    · exact ⟨v, k1, bm kz k2⟩
    · refine ⟨v, k1, k2.keep hc hM hh fun g hg => ⟨Below.block hE g (k2.lt hg).1, fun p hp e => ?_⟩⟩
      rcases (hM2 p hp).1 with h1 | h1
      · exact h1
      · have := (k2.lt hg).1; omega
  · intro b hb
    have hb' : lk (setAll S.heap (resAV cod y id).2) b = none := hb
    rw [hlk] at hb'
    split at hb'
    · cases hb'
    · rename_i hx
      have := (lookup_of_range (b := b) a2 a3).2 hx
      show (if _ then _ else _) = _
      rw [if_neg this]
      exact h.un b hb'
  · intro b b' B B' v v' g hbb hb hb' hv hv' hg
    rcases cases_of b B hb with ⟨j, u, rfl, k1, k2, kz, k3⟩ | ⟨l1, u, k0, k1, k2⟩
    · rw [hv] at k2; cases k2
      rcases cases_of b' B' hb' with ⟨j', u', rfl, m1, m2, mz, m3⟩ | ⟨l1, u', m0, m1, m2⟩
      · rw [hv'] at m2; cases m2
        exact hdis j j' _ _ g (fun e => hbb (by rw [e])) k1 m1 hg
      · rw [hv'] at m1; cases m1
        intro hg'
        have c1 := (m2.lt hg').1
        have c2 := (k3.lt hg).2
        omega
    · rw [hv] at k1; cases k1
      rcases cases_of b' B' hb' with ⟨j', u', rfl, m1, m2, mz, m3⟩ | ⟨l1', u', m0, m1, m2⟩
      · rw [hv'] at m2; cases m2
        intro hg'
        have c1 := (k2.lt hg).1
        have c2 := (m3.lt hg').2
        omega
      · rw [hv'] at m1; cases m1
        exact h.sep b b' B B' _ _ g hbb l1 l1' k0 m0 hg
  · rcases (hM2 p hp).1 with h1 | h1
    · exact h.mo p h1
    · exact .inr (Nat.le_trans h.ext.size h1)
  · intro b B hb hf
    rcases cases_of b B hb with ⟨j, v, _, _, k1, kz, k2⟩ | ⟨hb0, v, k0, k1, k2⟩
    · omega
    · rw [k1, ← k0]; exact h.ag b B hb0 hf

/-! ### Data that lie in the value alone -/
theorem RepD.flat {w w' : World} {M M' : Mem} : ∀ {T : Ty} {x : T.den} {vs : List Value}, T.far = false → RepD w M T x vs → RepD w' M' T x vs
  | .int _, _, _, _, h => by simp only [RepD] at h ⊢; exact h
  | .bool, _, _, _, h => by simp only [RepD] at h ⊢; exact h
  | .str, _, _, _, h => by simp only [RepD] at h ⊢; exact h
  | .unit, _, _, _, h => by simp only [RepD] at h ⊢; exact h
  | .pair A B, _, _, hf, ⟨v1, v2, e, h1, h2⟩ => by
    simp only [Ty.far, Bool.or_eq_false_iff] at hf
    exact ⟨v1, v2, e, RepD.flat hf.1 h1, RepD.flat hf.2 h2⟩
  | .slice _, _, _, hf, _ => by simp [Ty.far] at hf
theorem RepR.flat {w : World} {M M' : Mem} {base : Nat → Prop} : ∀ {T : RTy} {x : T.den} {vs hs : List Value}, T.far = false → (∀ p, M' p → p.block ∉ hs.filterMap own) → RepR base w M T x vs hs → RepR base w M' T x vs hs
  | .d T, x, vs, hs, hf, _, ⟨h1, h2⟩ => ⟨RepD.flat hf h1, h2⟩
  | .row t T, xs, vs, hs, hf, hM, ⟨v, h1, h2, hB⟩ => by
    refine ⟨v, h1, h2, ?_⟩
    rcases hB with hB | ⟨g, cap, us, rfl, k1, k2, k3, k4, k5, k6, k7⟩
    · exact .inl hB
    · refine .inr ⟨g, cap, us, rfl, k1, k2, k3, k4, k5, k6.mono fun _ _ h => RepD.flat hf h, fun p hp e => ?_⟩
      subst h2
      exact absurd (show p.block ∈ [Value.slice (some ⟨g, 0, none⟩) xs.length cap].filterMap own by simp [own, e]) (hM p hp)
  | .pair A B, x, vs, hs, hf, hM, ⟨v1, v2, h1, h2, e1, e2, ha, hb⟩ => by
    simp only [RTy.far, Bool.or_eq_false_iff] at hf
    subst e2
    exact ⟨v1, v2, h1, h2, e1, rfl, RepR.flat hf.1 (fun p hp hm => hM p hp (by rw [List.filterMap_append]; exact List.mem_append.2 (.inl hm))) ha, RepR.flat hf.2 (fun p hp hm => hM p hp (by rw [List.filterMap_append]; exact List.mem_append.2 (.inr hm))) hb⟩
  | .box t T, x, vs, hs, hf, hM, ⟨v, h1, h2, g, us, e, k1, k2, k3, k4⟩ => by
    refine ⟨v, h1, h2, g, us, e, k1, k2, (RepD.flat (w := w) (M := M) hf (RepD.ofCells k3)).cells, fun p hp hg => ?_⟩
    subst h2; subst e
    exact absurd (show p.block ∈ [Value.pointer (some ⟨g, 0, none⟩)].filterMap own by simp [own, hg]) (hM p hp)
theorem RepRs.flat {w : World} {M M' : Mem} {base : Nat → Prop} : ∀ {Ts : List RTy} {x : RDens Ts} {rs hs : List Value}, Ts.any (·.far) = false → (∀ p, M' p → p.block ∉ hs.filterMap own) → RepRs base w M Ts x rs hs → RepRs base w M' Ts x rs hs
  | [], _, _, _, _, _, h => h
  | [T], x, rs, hs, hf, hM, ⟨v, h1, h2, h3⟩ => ⟨v, h1, h2, RepR.flat (by simpa using hf) hM h3⟩
  | T :: U :: Ts, x, rs, hs, hf, hM, ⟨v, r, h1, h2, e1, e2, h3, ha, hb⟩ => by
    rw [List.any_cons, Bool.or_eq_false_iff] at hf
    subst e2
    exact ⟨v, r, h1, h2, e1, rfl, h3, RepR.flat hf.1 (fun p hp hm => hM p hp (by rw [List.filterMap_append]; exact List.mem_append.2 (.inl hm))) ha, RepRs.flat hf.2 (fun p hp hm => hM p hp (by rw [List.filterMap_append]; exact List.mem_append.2 (.inr hm))) hb⟩
theorem RepR.keepM {w : World} {M M' : Mem} {base : Nat → Prop} : ∀ {T : RTy} {x : T.den} {vs hs : List Value}, (∀ p, M p → M' p) → (∀ p, M' p → p.block ∉ hs.filterMap own) → RepR base w M T x vs hs → RepR base w M' T x vs hs
  | .d T, x, vs, hs, hm, _, ⟨h1, h2⟩ => ⟨RepD.keep (fun _ _ => rfl) hm h1, h2⟩
  | .row t T, xs, vs, hs, hm, hM, ⟨v, h1, h2, hB⟩ => by
    refine ⟨v, h1, h2, ?_⟩
    rcases hB with hB | ⟨g, cap, us, rfl, k1, k2, k3, k4, k5, k6, k7⟩
    · exact .inl hB
    · refine .inr ⟨g, cap, us, rfl, k1, k2, k3, k4, k5, k6.mono fun _ _ h => RepD.keep (fun _ _ => rfl) hm h, fun p hp e => ?_⟩
      subst h2
      exact absurd (show p.block ∈ [Value.slice (some ⟨g, 0, none⟩) xs.length cap].filterMap own by simp [own, e]) (hM p hp)
  | .pair A B, x, vs, hs, hm, hM, ⟨v1, v2, h1, h2, e1, e2, ha, hb⟩ => by
    subst e2
    exact ⟨v1, v2, h1, h2, e1, rfl, RepR.keepM hm (fun p hp hm => hM p hp (by rw [List.filterMap_append]; exact List.mem_append.2 (.inl hm))) ha, RepR.keepM hm (fun p hp hm => hM p hp (by rw [List.filterMap_append]; exact List.mem_append.2 (.inr hm))) hb⟩
  | .box t T, x, vs, hs, hm, hM, ⟨v, h1, h2, g, us, e, k1, k2, k3, k4⟩ => by
    refine ⟨v, h1, h2, g, us, e, k1, k2, k3.mono fun _ _ h => h.keep (fun _ _ => rfl) hm (fun _ _ h => h), fun p hp hg => ?_⟩
    subst h2; subst e
    exact absurd (show p.block ∈ [Value.pointer (some ⟨g, 0, none⟩)].filterMap own by simp [own, hg]) (hM p hp)
theorem RepRs.keepM {w : World} {M M' : Mem} {base : Nat → Prop} : ∀ {Ts : List RTy} {x : RDens Ts} {rs hs : List Value}, (∀ p, M p → M' p) → (∀ p, M' p → p.block ∉ hs.filterMap own) → RepRs base w M Ts x rs hs → RepRs base w M' Ts x rs hs
  | [], _, _, _, _, _, h => h
  | [T], x, rs, hs, hm, hM, ⟨v, h1, h2, h3⟩ => ⟨v, h1, h2, RepR.keepM hm hM h3⟩
  | T :: U :: Ts, x, rs, hs, hm, hM, ⟨v, r, h1, h2, e1, e2, h3, ha, hb⟩ => by
    subst e2
    exact ⟨v, r, h1, h2, e1, rfl, h3, RepR.keepM hm (fun p hp hm => hM p hp (by rw [List.filterMap_append]; exact List.mem_append.2 (.inl hm))) ha, RepRs.keepM hm (fun p hp hm => hM p hp (by rw [List.filterMap_append]; exact List.mem_append.2 (.inr hm))) hb⟩
theorem RepR.ge {w : World} {M : Mem} {base : Nat → Prop} : ∀ {T : RTy} {x : T.den} {vs hs : List Value}, RepR base w M T x vs hs → ∀ g ∈ hs.filterMap own, base g
  | .d T, x, vs, hs, ⟨_, e⟩, g, hg => by subst e; cases hg
  | .row t T, x, vs, hs, ⟨v, _, e, hB⟩, g, hg => by
    subst e
    obtain ⟨u, hu, hg2⟩ := List.mem_filterMap.1 hg
    simp at hu; subst hu
    exact (hB.lt hg2).2
  | .pair A B, x, vs, hs, ⟨v1, v2, h1, h2, _, e, ha, hb⟩, g, hg => by
    subst e
    rw [List.filterMap_append] at hg
    rcases List.mem_append.1 hg with hg | hg
    · exact RepR.ge ha g hg
    · exact RepR.ge hb g hg
  | .box t T, x, vs, hs, ⟨v, _, e, hB⟩, g, hg => by
    subst e
    obtain ⟨u, hu, hg2⟩ := List.mem_filterMap.1 hg
    simp at hu; subst hu
    exact (hB.lt hg2).2
theorem RepRs.ge {w : World} {M : Mem} {base : Nat → Prop} : ∀ {Ts : List RTy} {x : RDens Ts} {rs hs : List Value}, RepRs base w M Ts x rs hs → ∀ g ∈ hs.filterMap own, base g
  | [], x, rs, hs, ⟨_, e⟩, g, hg => by subst e; cases hg
  | [T], x, rs, hs, ⟨v, _, _, h⟩, g, hg => RepR.ge h g hg
  | T :: U :: Ts, x, rs, hs, ⟨v, r, h1, h2, _, e, _, ha, hb⟩, g, hg => by
    subst e
    rw [List.filterMap_append] at hg
    rcases List.mem_append.1 hg with hg | hg
    · exact RepR.ge ha g hg
    · exact RepRs.ge hb g hg

theorem evs_rep (h : Good W M0 S hdr M a w) : ∀ (l : List Operand), All2 (RepAV w M hdr) (l.map S.ev) (l.map a.eval)
  | [] => trivial
  | x :: r => ⟨h.ev x, evs_rep h r⟩

theorem sound_callX {c : Call} {f : FuncId} {con : Con} {x : Operand} {ex : List AV} {caps : List Value} (h : Good W M0 S hdr M a w) (hcon : con.ok P f) (ho : o.op = .call c) (hc : c.callee = .value x) (hx : a.eval x = .func (.func f) #[] caps.toArray) (hex : All2 (RepAV w M hdr) ex caps)
    (hk : callK S con (c.args.toList.map S.ev ++ ex) id some = some e) : Sound P W M0 S a w o e := by
  have hval := hx
  unfold callK at hk
  obtain ⟨x, hx, hk⟩ := Option.bind_eq_some_iff.1 hk
  obtain ⟨y, hy, hk⟩ := ob_some hk
  dsimp only at hk
  obtain ⟨hnew, hk⟩ := chk_some hk
  rw [Bool.and_eq_true] at hnew
  obtain ⟨hnew, hmf⟩ := hnew
  obtain ⟨⟨fn, cd, hf, hname, hbody⟩, hcalls⟩ := hcon
  let rows := rowsIn ((c.args.toList.map S.ev ++ ex).flatMap avCells)
  have hargs := argsD_rep h (rows := rows) hx ((evs_rep h c.args.toList).append hex) fun b hb => hb
  have hrun : (execOp a.eval o).run P w = .ok (.enter f (c.args.toList.map a.eval ++ caps).toArray) w := by
    have e1 : (c.args.map a.eval ++ caps.toArray : Array Value) = (c.args.toList.map a.eval ++ caps).toArray := by
      apply Array.ext'; simp
    simp only [execOp, ho, resolve, hc, hval, Deferred.ofValue, invoke]
    simp only [Sem.run_bind, Sem.run_pure, Result.andThen_ok, Array.empty_append]
    rw [e1, MuLone.run_callFunc_enter hf hname hbody]
  intro K Q hK
  unfold Oper.wp
  rw [hrun]
  show Calls P f _ w _
  refine (hcalls w (plusMem M S hdr rows) _ x y h.ext.laid (h.plus_ml rows) hargs hy).mono ?_
  rintro en w' ⟨rs, hs, M', rfl, hE, hR, hnd, hM'⟩
  show K (a.put o.dst (retOf rs)) w'
  apply hK
  have hge := RepRs.ge hR
  cases hfar : con.cod.any (·.far) with
  | false =>
    rw [hfar] at hk
    simp only [Bool.false_eq_true, if_false, List.nil_append] at hk
    cases hk
    have hMn : ∀ p, M p → p.block ∉ hs.filterMap own := fun p hp hm => by
      have := h.ml p hp
      have := hge _ hm
      omega
    obtain ⟨hdr', hg⟩ := h.result (id := id) (dst := o.dst) (rd := (resAV con.cod y id).2.map (·.1) ++ rows) hE (RepRs.flat hfar hMn hR) hnd (fun _ h => h) (fun p hp => ⟨.inl hp, Nat.lt_of_lt_of_le (h.ml p hp) hE.size, hMn p hp⟩) hnew
    exact ⟨hdr', M, hg⟩
  | true =>
    rw [hfar] at hk hmf
    simp only [if_true] at hk
    cases hk
    have hfz := h.freeze rows (by simpa only [Bool.not_true, Bool.false_or] using hmf)
    have hMn : ∀ p, plusMem M S hdr rows p → p.block ∉ hs.filterMap own := fun p hp hm => by
      have := hfz.ml p hp
      have := hge _ hm
      omega
    have hnew' : ((resAV con.cod y id).2.map (·.1)).all (isNew (setAll S.heap (Rx.freeze S.heap rows))) = true := by
      rw [List.all_eq_true] at hnew ⊢
      intro b hb
      have := hnew b hb
      simp only [isNew, Option.isNone_iff_eq_none] at this ⊢
      rw [lk_freeze]
      unfold blkAt
      rw [this]
      rfl
    obtain ⟨hdr', hg⟩ := hfz.result (id := id) (dst := o.dst) (rd := (resAV con.cod y id).2.map (·.1) ++ rows) (M2 := fun p => plusMem M S hdr rows p ∨ M' p) hE
      (RepRs.keepM (fun _ h => .inr h) (fun p hp => hp.elim (hMn p) fun h => (hM' p h).2.2) hR) hnd (fun _ h => .inl h)
      (fun p hp => hp.elim (fun h1 => ⟨.inl h1, Nat.lt_of_lt_of_le (hfz.ml p h1) hE.size, hMn p h1⟩) fun h1 => hM' p h1) hnew'
    refine ⟨hdr', (fun p => plusMem M S hdr rows p ∨ M' p), ?_⟩
    simp only [St.app, setAll_append] at hg ⊢
    exact hg

theorem sound_call {c : Call} {f : FuncId} {con : Con} (h : Good W M0 S hdr M a w) (hcon : con.ok P f) (ho : o.op = .call c) (hc : c.callee = .value (.func f)) (hk : callK S con (c.args.toList.map S.ev) id some = some e) : Sound P W M0 S a w o e :=
  sound_callX (ex := []) (caps := []) h hcon ho hc rfl trivial (by rw [List.append_nil]; exact hk)
theorem sound_makeFunc {fn : Fn} {first caps : Array Operand} {E : Env} (h : Good W M0 S hdr M a w) (ho : o.op = .makeFunc fn first caps) (hk : opK E o.op id S some = some e) : Sound P W M0 S a w o e := by
  rw [ho] at hk
  simp only [opK] at hk
  split at hk
  · rename_i f h1 h2
    cases hk
    have e1 : first = #[] := by apply Array.ext'; simpa using h1
    have e2 : caps = #[] := by apply Array.ext'; simpa using h2
    subst e1; subst e2
    exact sound_val h (v := .func (.func f) #[] #[]) (by simp [execOp, ho, Instr.makeFunc]) ⟨#[], rfl, .inl ⟨rfl, rfl⟩⟩
  · rename_i f x h1 h2
    have e1 : first = #[] := by apply Array.ext'; simpa using h1
    have e2 : caps = #[x] := by apply Array.ext'; simpa using h2
    subst e1; subst e2
    have hr : (execOp a.eval o).run P w = .ok (.value (.func (.func f) #[] #[a.eval x])) w := by simp [execOp, ho, Instr.makeFunc]
    split at hk
    · rename_i b hx
      cases hk
      obtain ⟨g, k1, k2⟩ := h.one hx
      exact sound_val h hr ⟨g, k1, by rw [k2]⟩
    · rename_i T y hx
      split at hk
      · rename_i hu
        cases hk
        obtain ⟨ad, us, k1, k2, k3⟩ := h.one hx
        exact sound_val h hr ⟨#[a.eval x], rfl, .inr ⟨hu, ad, us, by rw [k1]; rfl, k2, k3⟩⟩
      · cases hk
    · cases hk
  · cases hk
theorem sound_min {c : Call} {E : Env} (h : Good W M0 S hdr M a w) (ho : o.op = .call c) (hc : c.callee = .builtin .min) (hk : opK E o.op id S some = some e) : Sound P W M0 S a w o e := by
  rw [ho] at hk
  simp only [opK, hc] at hk
  split at hk
  · rename_i kd n r hm
    cases hk
    have hrest : ∀ (l : List Operand) (q : List (IntKind × Int)), l.mapM (fun x => intOfAV (S.ev x)) = some q → l.map a.eval = q.map fun y => Value.int y.1 y.2 := by
      intro l
      induction l with
      | nil => intro q hq; simp at hq; subst hq; rfl
      | cons x l ih =>
        intro q hq
        rw [List.mapM_cons] at hq
        obtain ⟨y, hy, hq⟩ := Option.bind_eq_some_iff.1 hq
        obtain ⟨ys, hys, hq⟩ := Option.bind_eq_some_iff.1 hq
        cases hq
        rw [List.map_cons, List.map_cons, ih ys hys]
        congr 1
        unfold intOfAV at hy
        split at hy
        · rename_i k m hx
          cases hy
          exact h.int hx
        · cases hy
    have hargs := hrest _ _ hm
    have hfold : ∀ (r : List (IntKind × Int)) (n : Int), (r.map fun y => Value.int y.1 y.2).foldlM Builtin.min2 (.int kd n) = (pure (.int kd (r.foldl (fun m y => br (decide (y.2 < m)) y.2 m) n)) : Sem Value) := by
      intro r
      induction r with
      | nil => intro n; rfl
      | cons y r ih =>
        intro n
        rw [List.map_cons, List.foldlM_cons]
        have : Builtin.min2 (.int kd n) (.int y.1 y.2) = (pure (.int kd (br (decide (y.2 < n)) y.2 n)) : Sem Value) := by
          unfold Builtin.min2
          by_cases hlt : y.2 < n <;> simp [hlt, br]
        rw [this, pure_bind, ih]
        rfl
    have e1 : (c.args.map a.eval).toList = .int kd n :: r.map fun y => Value.int y.1 y.2 := by
      rw [Array.toList_map, hargs]; rfl
    refine sound_val h (v := Value.int kd (r.foldl (fun (m : Int) (y : IntKind × Int) => br (decide (y.2 < m)) y.2 m) n)) ?_ (by simp only [RepAV, RepV1, RepC])
    simp only [execOp, ho, resolve, hc, invoke, builtin]
    simp only [Sem.run_bind, Sem.run_pure, Result.andThen_ok, Builtin.min_, e1, hfold]
  · cases hk
theorem sound_max {c : Call} {E : Env} (h : Good W M0 S hdr M a w) (ho : o.op = .call c) (hc : c.callee = .builtin .max) (hk : opK E o.op id S some = some e) : Sound P W M0 S a w o e := by
  rw [ho] at hk
  simp only [opK, hc] at hk
  split at hk
  · rename_i kd n r hm
    cases hk
    have hrest : ∀ (l : List Operand) (q : List (IntKind × Int)), l.mapM (fun x => intOfAV (S.ev x)) = some q → l.map a.eval = q.map fun y => Value.int y.1 y.2 := by
      intro l
      induction l with
      | nil => intro q hq; simp at hq; subst hq; rfl
      | cons x l ih =>
        intro q hq
        rw [List.mapM_cons] at hq
        obtain ⟨y, hy, hq⟩ := Option.bind_eq_some_iff.1 hq
        obtain ⟨ys, hys, hq⟩ := Option.bind_eq_some_iff.1 hq
        cases hq
        rw [List.map_cons, List.map_cons, ih ys hys]
        congr 1
        unfold intOfAV at hy
        split at hy
        · rename_i k m hx
          cases hy
          exact h.int hx
        · cases hy
    have hargs := hrest _ _ hm
    have hfold : ∀ (r : List (IntKind × Int)) (n : Int), (r.map fun y => Value.int y.1 y.2).foldlM Builtin.max2 (.int kd n) = (pure (.int kd (r.foldl (fun m y => br (decide (m < y.2)) y.2 m) n)) : Sem Value) := by
      intro r
      induction r with
      | nil => intro n; rfl
      | cons y r ih =>
        intro n
        rw [List.map_cons, List.foldlM_cons]
        have : Builtin.max2 (.int kd n) (.int y.1 y.2) = (pure (.int kd (br (decide (n < y.2)) y.2 n)) : Sem Value) := by
          unfold Builtin.max2
          by_cases hlt : n < y.2 <;> simp [hlt, br]
        rw [this, pure_bind, ih]
        rfl
    have e1 : (c.args.map a.eval).toList = .int kd n :: r.map fun y => Value.int y.1 y.2 := by
      rw [Array.toList_map, hargs]; rfl
    refine sound_val h (v := Value.int kd (r.foldl (fun (m : Int) (y : IntKind × Int) => br (decide (m < y.2)) y.2 m) n)) ?_ (by simp only [RepAV, RepV1, RepC])
    simp only [execOp, ho, resolve, hc, invoke, builtin]
    simp only [Sem.run_bind, Sem.run_pure, Result.andThen_ok, Builtin.max_, e1, hfold]
  · cases hk
/-! ### Functions that write into what is handed to them -/
theorem Good.plus_not (h : Good W M0 S hdr M a w) {ds : List Nat} {b : Nat} {B : Blk} {v : Value} {g : Nat} (hb : lk S.heap b = some (some B)) (hf : B.fz ≠ 1) (hv : hdr b = some v) (hg : own v = some g) (hn : b ∉ ds) :
    ∀ p, plusMem M S hdr ds p → p.block ≠ g := by
  rintro p (hp | ⟨b', B', v', hm, hl, hh, hpA, _, hoff⟩) e
  · obtain ⟨u, hu, hB⟩ := h.hp b B hb
    rw [hv] at hu; cases hu
    exact hf (hB.seen p hp (by rw [hg, e])).1
  · exact absurd (show own v' = some g by rw [← e, hpA]) (h.sep b b' _ _ _ _ g (fun e => hn (by rw [e]; exact hm)) hb hl hv hh hg)

/-- A block by itself, as a callee sees it. -/
theorem Good.lend (h : Good W M0 S hdr M a w) {ds : List Nat} {b : Nat} {t : TypeId} {T : Ty} {xs : List T.den} {fz : Nat} (hb : lk S.heap b = some (some (.row t T xs fz))) (hf : fz ≠ 1) (hn : b ∉ ds) :
    ∃ v, hdr b = some v ∧ RepBlk w (plusMem M S hdr ds) (fun _ => none) (fun _ _ => True) (.row t T xs 0) v := by
  obtain ⟨v, hv, hB⟩ := h.hp b _ hb
  refine ⟨v, hv, ?_⟩
  rcases hB with hB | ⟨g, cap, vs, rfl, k1, k2, k3, k4, k5, k6, k7⟩
  · exact .inl hB
  · refine .inr ⟨g, cap, vs, rfl, trivial, k2, k3, k4, k5, k6.mono fun _ _ h => RepD.keep (fun _ _ => rfl) (fun _ h => .inl h) h, fun p hp e => ?_⟩
    exact absurd e (h.plus_not hb hf hv rfl hn p hp)

/-- The blocks that are handed over, one by one. -/
def HW (S : St) (hdr : Nat → Option Value) : List Nat → List Value → Prop := All2 fun b v => hdr b = some v ∧ ∃ B, lk S.heap b = some (some B) ∧ B.fz ≠ 1

theorem takeW_rep (h : Good W M0 S hdr M a w) {idsA dsA : List Nat} (hdis : ∀ b ∈ idsA, b ∉ dsA) : ∀ {T : RTy} {cs r : List Cell} {x : T.den} {ids ds : List Nat} {vs : List Value}, takeW S.heap T cs = some (x, r, ids, ds) → All2 (RepC w M hdr) cs vs → (∀ b ∈ ids, b ∈ idsA) → (∀ b ∈ ds, b ∈ dsA) →
    ∃ v1 v2 hs, vs = v1 ++ v2 ∧ RepR (fun _ => True) w (plusMem M S hdr dsA) T x v1 hs ∧ All2 (RepC w M hdr) r v2 ∧ HW S hdr ids hs
  | .d T, cs, r, x, ids, ds, vs, hk, hc, hr, hd => by
    unfold takeW at hk
    obtain ⟨y, hy, hk⟩ := Option.map_eq_some_iff.1 hk
    cases hk
    exact ⟨vs.take T.size, vs.drop T.size, [], (List.take_append_drop _ _).symm, ⟨takeAll_rep h hy hc.take hd, rfl⟩, hc.drop, trivial⟩
  | .row t T, cs, r, x, ids, ds, vs, hk, hc, hr, hd => by
    unfold takeW at hk
    split at hk
    · rename_i b r'
      split at hk
      · rename_i t' T' xs fz hb
        split at hk
        · rename_i hT
          split at hk
          · rename_i ht
            cases hk
            obtain ⟨ht, hfz⟩ := ht
            subst hT; subst ht
            obtain ⟨v, us, rfl, h1, h2⟩ := hc.cons'
            have hb' := blkAt_some hb
            obtain ⟨v0, hv0, hB⟩ := h.lend hb' hfz (hdis b (hr b (by simp)))
            obtain ⟨hh, _⟩ := h1
            rw [hh] at hv0
            cases hv0
            exact ⟨[v], us, [v], rfl, ⟨v, rfl, rfl, hB⟩, h2, ⟨hh, _, hb', hfz⟩, trivial⟩
          · cases hk
        · cases hk
      · cases hk
    · cases hk
  | .pair A B, cs, r, x, ids, ds, vs, hk, hc, hr, hd => by
    unfold takeW at hk
    obtain ⟨y, hy, hk⟩ := Option.bind_eq_some_iff.1 hk
    obtain ⟨z, hz, hk⟩ := Option.bind_eq_some_iff.1 hk
    cases hk
    obtain ⟨v1, v2, h1, rfl, a1, a2, a3⟩ := takeW_rep h hdis (x := y.1) (r := y.2.1) (ids := y.2.2.1) (ds := y.2.2.2) hy hc (fun b hb => hr b (List.mem_append.2 (.inl hb))) (fun b hb => hd b (List.mem_append.2 (.inl hb)))
    obtain ⟨v3, v4, h2, rfl, b1, b2, b3⟩ := takeW_rep h hdis (x := z.1) (r := z.2.1) (ids := z.2.2.1) (ds := z.2.2.2) hz a2 (fun b hb => hr b (List.mem_append.2 (.inr hb))) (fun b hb => hd b (List.mem_append.2 (.inr hb)))
    exact ⟨v1 ++ v3, v4, h1 ++ h2, by simp, ⟨v1, v3, h1, h2, rfl, rfl, a1, b1⟩, b2, a3.append b3⟩
  | .box t T, cs, r, x, ids, ds, vs, hk, hc, hr, hd => by
    unfold takeW at hk
    split at hk
    · rename_i b r'
      split at hk
      · rename_i t' cs' fz hb
        split at hk
        · rename_i ht
          obtain ⟨y, hy, hk⟩ := Option.map_eq_some_iff.1 hk
          cases hk
          obtain ⟨ht, hfz⟩ := ht
          subst ht
          obtain ⟨v, us, rfl, ⟨g0, hh, hval⟩, h2⟩ := hc.cons'
          have hb' := blkAt_some hb
          obtain ⟨v0, hv0, hB⟩ := h.hp b _ hb'
          rw [hh] at hv0; injection hv0 with hv0; subst hv0
          have hnot := h.plus_not (ds := dsA) hb' hfz hh rfl (hdis b (hr b (by simp)))
          obtain ⟨g', ws, e1, k1, k2, k3, k4⟩ := hB
          simp at e1; subst e1
          have hD := takeAll_nil hy k3
          subst hval
          exact ⟨[_], us, [_], rfl, ⟨_, rfl, rfl, g0, ws, rfl, trivial, k2, (RepD.keep (fun _ _ => rfl) (fun _ h => .inl h) hD).cells, fun p hp e => absurd e (hnot p hp)⟩, h2, ⟨hh, _, hb', hfz⟩, trivial⟩
        · cases hk
      · cases hk
    · cases hk

theorem shapeR_of {T : RTy} {y : V1} {v : Value} (hs : shapeR T y = true) (hv : RepV1 w M hdr y v) : ShapeR T v := by
  unfold ShapeR
  cases y with
  | one c =>
    have h1 := RepC.one hv
    have : aggR T = false := by
      cases T with
      | d T => cases T <;> simp_all [shapeR, shapeOk, aggR]
      | row t T => rfl
      | pair A B => simp [shapeR] at hs
      | box t T => rfl
    rw [this]; exact h1
  | agg cs =>
    obtain ⟨vs, rfl, _⟩ := hv
    have : aggR T = true := by
      cases T with
      | d T => cases T <;> simp_all [shapeR, shapeOk, aggR]
      | row t T => simp [shapeR] at hs
      | pair A B => rfl
      | box t T => simp [shapeR] at hs
    rw [this]; exact ⟨vs, rfl⟩

theorem takeA_rep (h : Good W M0 S hdr M a w) {idsA dsA : List Nat} (hdis : ∀ b ∈ idsA, b ∉ dsA) {A : ATy} {y : V1} {x : A.den} {ids ds : List Nat} {v : Value} (hk : takeA S.heap A y = some (x, ids, ds)) (hv : RepV1 w M hdr y v) (hr : ∀ b ∈ ids, b ∈ idsA) (hd : ∀ b ∈ ds, b ∈ dsA) :
    ∃ hs, RepA w (plusMem M S hdr dsA) A x v hs ∧ HW S hdr ids hs := by
  cases A with
  | v R =>
    simp only [takeA] at hk
    split at hk
    · rename_i hs
      obtain ⟨q, hq, hk⟩ := Option.bind_eq_some_iff.1 hk
      split at hk
      · rename_i hn
        cases hk
        obtain ⟨q1, q2, q3, q4⟩ := q
        simp only at hn; subst hn
        obtain ⟨v1, v2, h1, e, a1, a2, a3⟩ := takeW_rep h hdis hq (RepV1.cells hv) hr hd
        cases a2.nil'
        rw [List.append_nil] at e
        refine ⟨h1, ⟨shapeR_of hs hv, ?_⟩, a3⟩
        rw [e]; exact a1
      · cases hk
    · cases hk
  | box t T =>
    simp only [takeA] at hk
    split at hk
    · rename_i b
      split at hk
      · rename_i t' cs fz hb
        split at hk
        · rename_i ht
          obtain ⟨ht, hfz⟩ := ht
          obtain ⟨d, hd', hk⟩ := Option.map_eq_some_iff.1 hk
          cases hk
          subst ht
          have hb' := blkAt_some hb
          obtain ⟨v0, hv0, hB⟩ := h.hp b _ hb'
          obtain ⟨g0, hh, hval⟩ := hv
          rw [hh] at hv0; injection hv0 with hv0; subst hv0
          have hnot := h.plus_not (ds := dsA) hb' hfz hh rfl (hdis b (hr b (by simp)))
          obtain ⟨g', vs, e1, k1, k2, k3, k4⟩ := hB
          simp at e1; subst e1
          have hD := takeAll_nil hd' k3
          subst hval
          refine ⟨[_], ⟨rfl, g0, vs, rfl, trivial, k2, ?_, fun p hp e => absurd e (hnot p hp)⟩, ⟨hh, _, hb', hfz⟩, trivial⟩
          exact (RepD.keep (fun _ _ => rfl) (fun _ h => .inl h) hD).cells
        · cases hk
      · cases hk
    · cases hk

theorem argsA_rep (h : Good W M0 S hdr M a w) {idsA dsA : List Nat} (hdis : ∀ b ∈ idsA, b ∉ dsA) : ∀ {As : List ATy} {xs : List AV} {x : ADens As} {ids ds : List Nat} {vs : List Value}, argsA S.heap As xs = some (x, ids, ds) → All2 (RepAV w M hdr) xs vs → (∀ b ∈ ids, b ∈ idsA) → (∀ b ∈ ds, b ∈ dsA) →
    ∃ hs, RepAs w (plusMem M S hdr dsA) As x vs hs ∧ HW S hdr ids hs
  | [], [], x, ids, ds, vs, hk, hc, _, _ => by
    have hk' : (some ((), ([] : List Nat), ([] : List Nat))) = some (x, ids, ds) := hk
    cases hk'
    exact ⟨[], ⟨hc.nil', rfl⟩, trivial⟩
  | [], _ :: _, _, _, _, _, hk, _, _, _ => none_some hk
  | [A], [], _, _, _, _, hk, _, _, _ => none_some hk
  | [A], .undef :: _, _, _, _, _, hk, _, _, _ => none_some hk
  | [A], .tup _ :: _, _, _, _, _, hk, _, _, _ => none_some hk
  | [A], .v y :: _ :: _, _, _, _, _, hk, _, _, _ => none_some hk
  | [A], [.v y], x, ids, ds, vs, hk, hc, hr, hd => by
    obtain ⟨v, rfl, hv⟩ := hc.one'
    obtain ⟨hs, h1, h2⟩ := takeA_rep h hdis hk hv hr hd
    exact ⟨hs, ⟨v, rfl, h1⟩, h2⟩
  | A :: B :: As, [], _, _, _, _, hk, _, _, _ => none_some hk
  | A :: B :: As, .undef :: _, _, _, _, _, hk, _, _, _ => none_some hk
  | A :: B :: As, .tup _ :: _, _, _, _, _, hk, _, _, _ => none_some hk
  | A :: B :: As, .v y :: r, x, ids, ds, vs, hk, hc, hr, hd => by
    have hk' : ((takeA S.heap A y).bind fun d => (argsA S.heap (B :: As) r).bind fun ds => some ((d.1, ds.1), d.2.1 ++ ds.2.1, d.2.2 ++ ds.2.2)) = some (x, ids, ds) := hk
    obtain ⟨v, us, rfl, hv, hu⟩ := hc.cons'
    obtain ⟨d, hd1, hk'⟩ := Option.bind_eq_some_iff.1 hk'
    obtain ⟨q, hq, hk'⟩ := Option.bind_eq_some_iff.1 hk'
    cases hk'
    obtain ⟨h1, s1, s2⟩ := takeA_rep h hdis (x := d.1) (ids := d.2.1) (ds := d.2.2) hd1 hv (fun b hb => hr b (List.mem_append.2 (.inl hb))) (fun b hb => hd b (List.mem_append.2 (.inl hb)))
    obtain ⟨h2, t1, t2⟩ := argsA_rep h hdis (x := q.1) (ids := q.2.1) (ds := q.2.2) hq hu (fun b hb => hr b (List.mem_append.2 (.inr hb))) (fun b hb => hd b (List.mem_append.2 (.inr hb)))
    exact ⟨h1 ++ h2, ⟨v, us, h1, h2, rfl, rfl, s1, t1⟩, s2.append t2⟩

/-! What comes back -/
def BW (w : World) (M : Mem) : List Blk → List Value → Prop := All2 fun B v => RepBlk w M (fun _ => none) (fun _ _ => True) B v
theorem RepR.blks {w : World} {M : Mem} : ∀ {T : RTy} {x : T.den} {vs hs : List Value}, RepR (fun _ => True) w M T x vs hs → BW w M (T.blks x) hs
  | .d _, _, _, _, ⟨_, e⟩ => by subst e; trivial
  | .row _ _, _, _, _, ⟨v, _, e, hB⟩ => by subst e; exact ⟨hB, trivial⟩
  | .pair _ _, _, _, _, ⟨_, _, h1, h2, _, e, ha, hb⟩ => by subst e; exact (RepR.blks ha).append (RepR.blks hb)
  | .box _ _, _, _, _, ⟨v, _, e, hB⟩ => by subst e; exact ⟨hB, trivial⟩
theorem RepA.blks {w : World} {M : Mem} {A : ATy} {x : A.den} {v : Value} {hs : List Value} (h : RepA w M A x v hs) : BW w M (A.blks x) hs := by
  cases A with
  | v R => exact RepR.blks h.2
  | box t T => obtain ⟨e, hB⟩ := h; subst e; exact ⟨hB, trivial⟩
theorem RepAs.blks {w : World} {M : Mem} : ∀ {As : List ATy} {x : ADens As} {vs hs : List Value}, RepAs w M As x vs hs → BW w M (blksA As x) hs
  | [], _, _, _, ⟨_, e⟩ => by subst e; trivial
  | [A], _, _, _, ⟨v, _, h⟩ => RepA.blks h
  | A :: B :: As, _, _, _, ⟨v, r, h1, h2, _, e, ha, hb⟩ => by subst e; exact (RepA.blks ha).append (RepAs.blks hb)

theorem backs_spec {H0 : Heap} {p : Nat → Value → Prop} {q : Blk → Value → Prop} : ∀ {ids : List Nat} {hs : List Value} {Bs : List Blk}, All2 p ids hs → All2 q Bs hs → (backs H0 ids Bs).map (·.1) = ids ∧ ∀ b, (∀ x, (backs H0 ids Bs).lookup b = some x → ∃ v B, b ∈ ids ∧ p b v ∧ q B v ∧ x = some (B.held (fzAt H0 b))) ∧ ((backs H0 ids Bs).lookup b = none → b ∉ ids)
  | [], [], [], _, _ => ⟨rfl, fun b => ⟨fun x hx => (none_some hx), fun _ => by simp⟩⟩
  | b0 :: ids, v :: hs, B :: Bs, h1, h2 => by
    obtain ⟨i1, i2⟩ := backs_spec (H0 := H0) h1.2 h2.2
    refine ⟨by simp [backs, i1], fun b => ?_⟩
    simp only [backs, List.lookup_cons]
    by_cases e : b = b0
    · subst e
      simp only [beq_self_eq_true]
      refine ⟨fun x hx => ?_, fun hx => by cases hx⟩
      cases hx
      exact ⟨v, B, by simp, h1.1, h2.1, rfl⟩
    · have he : (b == b0) = false := by simpa using e
      simp only [he]
      refine ⟨fun x hx => ?_, fun hx => ?_⟩
      · obtain ⟨v', B', k1, k2, k3, k4⟩ := (i2 b).1 x hx
        exact ⟨v', B', by simp [k1], k2, k3, k4⟩
      · simpa [e] using (i2 b).2 hx
  | [], [], _ :: _, _, h => h.elim
  | [], _ :: _, _, h, _ => h.elim
  | _ :: _, [], _, h, _ => h.elim
  | _ :: _, _ :: _, [], _, h => h.elim

theorem RepBlk.rehold {w : World} {M M2 : Mem} {hdr : Nat → Option Value} {base : Nat → Nat → Prop} {B : Blk} {v : Value} {fz : Nat} (h : RepBlk w M (fun _ => none) (fun _ _ => True) B v) (hM : ∀ p, M p → M2 p) (hg : ∀ g, own v = some g → base fz g ∧ ∀ p, M2 p → p.block ≠ g) :
    RepBlk w M2 hdr base (B.held fz) v := by
  cases B with
  | cells t cs fz0 =>
    obtain ⟨g, vs, rfl, _, k2, k3, k4⟩ := h
    obtain ⟨m1, m2⟩ := hg g rfl
    exact ⟨g, vs, rfl, m1, k2, k3.mono fun _ _ h => h.keep (fun _ _ => rfl) hM (fun _ _ h => by cases h), fun p hp e => absurd e (m2 p hp)⟩
  | row t e xs fz0 =>
    rcases h with h | ⟨g, cap, vs, rfl, _, k2, k3, k4, k5, k6, k7⟩
    · exact .inl h
    · obtain ⟨m1, m2⟩ := hg g rfl
      exact .inr ⟨g, cap, vs, rfl, m1, k2, k3, k4, k5, k6.mono fun _ _ h => RepD.keep (fun _ _ => rfl) hM h, fun p hp e => absurd e (m2 p hp)⟩
/-- Another world, with what some blocks hold now. -/
theorem Good.move {M2 : Mem} {w' : World} {H' : Heap} (h : Good W M0 S hdr M a w) (hE : ExtW W w') (hc : ∀ p, M p → w'.cell? p = w.cell? p) (hM : ∀ p, M p → M2 p) (hM2 : ∀ p, M2 p → p.block < w'.heap.size ∧ (M0 p ∨ W.w.heap.size ≤ p.block))
    (hn : ∀ b, lk H' b = none → lk S.heap b = none) (hB : ∀ b B', lk H' b = some (some B') → ∃ B v, lk S.heap b = some (some B) ∧ hdr b = some v ∧ B'.fz = B.fz ∧ RepBlk w' M2 hdr W.fresh B' v) : Good W M0 ⟨S.tmps, H'⟩ hdr M2 a w' := by
  refine ⟨hE, h.nod, h.len, fun t => (h.tm t).keep hc hM (fun _ _ h => h), ?_, fun b hb => h.un b (hn b hb), ?_, fun p hp => (hM2 p hp).1, fun p hp => (hM2 p hp).2, ?_⟩
  · intro b B' hb
    obtain ⟨B, v, _, k2, _, k4⟩ := hB b B' hb
    exact ⟨v, k2, k4⟩
  · intro b b' C C' u u' g hbb hb hb' hu hu' hg
    obtain ⟨B, v, k1, k2, _, _⟩ := hB b C hb
    obtain ⟨B2, v2, l1, l2, _, _⟩ := hB b' C' hb'
    exact h.sep b b' B B2 u u' g hbb k1 l1 hu hu' hg
  · intro b C hb hf
    obtain ⟨B, v, k1, k2, k3, _⟩ := hB b C hb
    rw [k3] at hf ⊢
    exact h.ag b B k1 hf

/-- Results are taken over that lie in blocks of their own. -/
theorem Good.addRes {cod : List RTy} {y : RDens cod} {rs hs : List Value} {dst : Option Tmp} {rd : List Nat} {base : Nat → Prop} (h : Good W M0 S hdr M a w) (hR : RepRs base w M cod y rs hs) (hbs : ∀ g, base g → W.w.heap.size ≤ g)
    (hnd : (hs.filterMap own).Nodup) (hsp : ∀ g ∈ hs.filterMap own, ∀ b B v, lk S.heap b = some (some B) → hdr b = some v → own v ≠ some g) (hnew : ((resAV cod y id).2.map (·.1)).all (isNew S.heap) = true) :
    ∃ hdr', Good W M0 (S.app dst ⟨(resAV cod y id).1, (resAV cod y id).2, rd⟩) hdr' M (a.put dst (retOf rs)) w := by
  let hdr' : Nat → Option Value := fun b => if id ≤ b ∧ b < id + hs.length then hs[b - id]? else hdr b
  have hin : ∀ (j : Nat) v, hs[j]? = some v → hdr' (id + j) = some v := fun j v hv => by
    have hj := (List.getElem?_eq_some_iff.1 hv).1
    show (if _ then _ else _) = _
    rw [if_pos ⟨by omega, by omega⟩, show id + j - id = j by omega]
    exact hv
  obtain ⟨a1, a2, a3⟩ := resAll_rep (hdr := hdr') hR hin
  have hwr : (resAV cod y id).2 = (resAll cod y id).2 := rfl
  have hnl : ∀ b, id ≤ b → b < id + hs.length → lk S.heap b = none := by
    intro b h1 h2
    rw [hwr, a3, List.all_eq_true] at hnew
    have := hnew b (by rw [List.mem_range'_1]; exact ⟨h1, h2⟩)
    simpa [isNew] using this
  have hout : ∀ b v, hdr b = some v → ¬ (id ≤ b ∧ b < id + hs.length) := fun b v hv hb => by
    rw [h.un b (hnl b hb.1 hb.2)] at hv; cases hv
  have hh : ∀ b v, hdr b = some v → hdr' b = some v := fun b v hv => by
    show (if _ then _ else _) = _
    rw [if_neg (hout b v hv)]; exact hv
  have hnd' : ((resAll cod y id).2.map (·.1)).Nodup := by rw [a3]; exact List.nodup_range'
  have hlk : ∀ b, lk (setAll S.heap (resAV cod y id).2) b = (match (resAll cod y id).2.lookup b with | some x => some x | none => lk S.heap b) := fun b => lk_setAll _ _ _ hnd'
  have hdis : ∀ (i j : Nat) u v g, i ≠ j → hs[i]? = some u → hs[j]? = some v → own u = some g → own v ≠ some g := by
    have gen : ∀ (l : List Value), (l.filterMap own).Nodup → ∀ (i j : Nat) u v g, i < j → l[i]? = some u → l[j]? = some v → own u = some g → own v ≠ some g := by
      intro l
      induction l with
      | nil => intro _ i j u v g _ hu; simp at hu
      | cons x l ih =>
        intro hn i j u v g hij hu hv hg hg'
        cases j with
        | zero => omega
        | succ j =>
          have hv' : l[j]? = some v := by simpa using hv
          cases i with
          | zero =>
            simp at hu; subst hu
            rw [List.filterMap_cons_some hg, List.nodup_cons] at hn
            exact hn.1 (List.mem_filterMap.2 ⟨v, List.mem_of_getElem? hv', hg'⟩)
          | succ i =>
            have hn' : (l.filterMap own).Nodup := by
              cases hx : own x with
              | none => rwa [List.filterMap_cons_none hx] at hn
              | some y => rw [List.filterMap_cons_some hx, List.nodup_cons] at hn; exact hn.2
            exact ih hn' i j u v g (by omega) (by simpa using hu) hv' hg hg'
    intro i j u v g hij hu hv hg hg'
    rcases Nat.lt_or_gt_of_ne hij with h1 | h1
    · exact gen hs hnd i j u v g h1 hu hv hg hg'
    · exact gen hs hnd j i v u g h1 hv hu hg' hg
  have cases_of : ∀ b B, lk (setAll S.heap (resAV cod y id).2) b = some (some B) → (∃ j v, b = id + j ∧ hs[j]? = some v ∧ hdr' b = some v ∧ B.fz = 0 ∧ RepBlk w M hdr' (fun _ => base) B v) ∨ (lk S.heap b = some (some B) ∧ ∃ v, hdr b = some v ∧ hdr' b = some v ∧ RepBlk w M hdr W.fresh B v) := by
    intro b B hb
    rw [hlk] at hb
    obtain ⟨c1, c2⟩ := lookup_of_range (b := b) a2 a3
    split at hb
    · rename_i x hx
      cases hb
      obtain ⟨j, v, B', rfl, k1, k2, kz, k3⟩ := c1 _ hx
      cases k2
      exact .inl ⟨j, v, rfl, k1, hin j v k1, kz, k3⟩
    · obtain ⟨v, hv, hr⟩ := h.hp b B hb
      exact .inr ⟨hb, v, hv, hh b v hv, hr⟩
  have bm : ∀ {B v}, B.fz = 0 → RepBlk w M hdr' (fun _ => base) B v → RepBlk w M hdr' W.fresh B v := by
    intro B v hz hB
    cases B with
    | cells t cs fz => have hz' : fz = 0 := hz; subst hz'; obtain ⟨g, vs, h1, h2, h3⟩ := hB; exact ⟨g, vs, h1, .new (hbs g h2) (by decide), h3⟩
    | row t T xs fz =>
      have hz' : fz = 0 := hz
      subst hz'
      rcases hB with hB | ⟨g, cap, vs, h1, h2, h3⟩
      · exact .inl hB
      · exact .inr ⟨g, cap, vs, h1, .new (hbs g h2) (by decide), h3⟩
  have mem_own : ∀ {j : Nat} {v : Value} {g : Nat}, hs[j]? = some v → own v = some g → g ∈ hs.filterMap own := fun hj hg => List.mem_filterMap.2 ⟨_, List.mem_of_getElem? hj, hg⟩
  refine ⟨hdr', h.ext, put_nod h, put_len h, put_tm h (fun _ _ => rfl) (fun _ h => h) hh (resAV_rep a1), ?_, ?_, ?_, h.ml, h.mo, ?_⟩
  · intro b B hb
    rcases cases_of b B hb with ⟨j, v, _, _, k1, kz, k2⟩ | ⟨_, v, _, k1, k2⟩
    · exact ⟨v, k1, bm kz k2⟩
    · exact ⟨v, k1, k2.keep (fun _ _ => rfl) (fun _ h => h) hh fun g hg => ⟨rfl, fun p hp e => hp⟩⟩
  · intro b hb
    have hb' : lk (setAll S.heap (resAV cod y id).2) b = none := hb
    rw [hlk] at hb'
    split at hb'
    · cases hb'
    · rename_i hx
      have := (lookup_of_range (b := b) a2 a3).2 hx
      show (if _ then _ else _) = _
      rw [if_neg this]
      exact h.un b hb'
  · intro b b' B B' v v' g hbb hb hb' hv hv' hg
    rcases cases_of b B hb with ⟨j, u, rfl, k1, k2, kz, k3⟩ | ⟨l1, u, k0, k1, k2⟩
    · rw [hv] at k2; cases k2
      rcases cases_of b' B' hb' with ⟨j', u', rfl, m1, m2, mz, m3⟩ | ⟨l1, u', m0, m1, m2⟩
      · rw [hv'] at m2; cases m2
        exact hdis j j' _ _ g (fun e => hbb (by rw [e])) k1 m1 hg
      · rw [hv'] at m1; cases m1
        exact hsp g (mem_own k1 hg) b' B' _ l1 m0
    · rw [hv] at k1; cases k1
      rcases cases_of b' B' hb' with ⟨j', u', rfl, m1, m2, mz, m3⟩ | ⟨l1', u', m0, m1, m2⟩
      · rw [hv'] at m2; cases m2
        intro hg'
        exact hsp g (mem_own m1 hg') b B _ l1 k0 hg
      · rw [hv'] at m1; cases m1
        exact h.sep b b' B B' _ _ g hbb l1 l1' k0 m0 hg
  · intro b B hb hf
    rcases cases_of b B hb with ⟨j, v, _, _, k1, kz, k2⟩ | ⟨hb0, v, k0, k1, k2⟩
    · omega
    · rw [k1, ← k0]; exact h.ag b B hb0 hf

theorem noDup_spec : ∀ {l : List Nat}, noDup l = true → l.Nodup
  | [], _ => .nil
  | x :: r, h => by
    unfold noDup at h
    simp only [Bool.and_eq_true, Bool.not_eq_true'] at h
    refine List.nodup_cons.2 ⟨fun hm => ?_, noDup_spec h.2⟩
    have := h.1
    simp at this
    exact this hm
theorem disj_mem {a b : List Nat} (h : disj a b = true) {x : Nat} (hx : x ∈ a) : x ∉ b := by
  unfold disj at h
  rw [List.all_eq_true] at h
  have := h x hx
  simpa using this
theorem All2.memR {α β : Type} {R : α → β → Prop} : ∀ {xs : List α} {ys : List β}, All2 R xs ys → All2 (fun x y => R x y ∧ y ∈ ys) xs ys
  | [], [], _ => trivial
  | x :: xs, y :: ys, h => ⟨⟨h.1, by simp⟩, (All2.memR h.2).mono fun _ _ h => ⟨h.1, by simp [h.2]⟩⟩
  | [], _ :: _, h => h.elim
  | _ :: _, [], h => h.elim
theorem All2.ofR {α β : Type} {R : α → β → Prop} : ∀ {xs : List α} {ys : List β}, All2 R xs ys → ∀ y ∈ ys, ∃ x ∈ xs, R x y
  | [], [], _, y, hy => by cases hy
  | x :: xs, z :: ys, h, y, hy => by
    rcases List.mem_cons.1 hy with rfl | hy
    · exact ⟨x, by simp, h.1⟩
    · obtain ⟨x', h1, h2⟩ := All2.ofR h.2 y hy
      exact ⟨x', by simp [h1], h2⟩
  | [], _ :: _, h, _, _ => h.elim
  | _ :: _, [], h, _, _ => h.elim
theorem HW.mem {ids : List Nat} {ms : List Value} (h : HW S hdr ids ms) {g : Nat} (hg : g ∈ ms.filterMap own) : ∃ b ∈ ids, ∃ v, hdr b = some v ∧ own v = some g ∧ ∃ B, lk S.heap b = some (some B) ∧ B.fz ≠ 1 := by
  obtain ⟨v, hv, ho⟩ := List.mem_filterMap.1 hg
  obtain ⟨b, h1, h2, h3⟩ := All2.ofR h v hv
  exact ⟨b, h1, v, h2, ho, h3⟩
theorem HW.nodup (hG : Good W M0 S hdr M a w) : ∀ {ids : List Nat} {ms : List Value}, HW S hdr ids ms → ids.Nodup → (ms.filterMap own).Nodup
  | [], [], _, _ => .nil
  | b :: ids, v :: ms, h, hn => by
    obtain ⟨⟨h1, B, h2, h3⟩, h4⟩ := h
    have ⟨hb, hn'⟩ := List.nodup_cons.1 hn
    cases ho : own v with
    | none => rw [List.filterMap_cons_none ho]; exact HW.nodup hG h4 hn'
    | some g =>
      rw [List.filterMap_cons_some ho]
      refine List.nodup_cons.2 ⟨fun hm => ?_, HW.nodup hG h4 hn'⟩
      obtain ⟨b', m1, v', m2, m3, B', m4, _⟩ := HW.mem h4 hm
      exact hG.sep b b' _ _ v v' g (fun e => hb (by rw [e]; exact m1)) h2 m4 h1 m2 ho m3
  | [], _ :: _, h, _ => h.elim
  | _ :: _, [], h, _ => h.elim

theorem sound_mcall {c : Call} {f : FuncId} {con : MCon} (h : Good W M0 S hdr M a w) (hcon : con.ok P f) (ho : o.op = .call c) (hc : c.callee = .value (.func f)) (hk : mcallK S con (c.args.toList.map S.ev) id some = some e) : Sound P W M0 S a w o e := by
  unfold mcallK at hk
  obtain ⟨q, hq, hk⟩ := Option.bind_eq_some_iff.1 hk
  obtain ⟨y, hy, hk⟩ := ob_some hk
  dsimp only at hk
  obtain ⟨hck, hk⟩ := chk_some hk
  simp only [Bool.and_eq_true] at hck
  obtain ⟨⟨⟨hnew, hnd⟩, hdj⟩, hmf⟩ := hck
  cases hk
  obtain ⟨⟨fn, cd, hf, hname, hbody⟩, hcalls⟩ := hcon
  have hdis : ∀ b ∈ q.2.1, b ∉ q.2.2 := fun b hb => disj_mem hdj hb
  obtain ⟨ms, hargs, hW⟩ := argsA_rep h hdis (x := q.1) (ids := q.2.1) (ds := q.2.2) hq (evs_rep h c.args.toList) (fun _ h => h) (fun _ h => h)
  have hids := noDup_spec hnd
  have hms := HW.nodup h hW hids
  have hrun : (execOp a.eval o).run P w = .ok (.enter f (c.args.toList.map a.eval).toArray) w := by
    have e1 : (c.args.map a.eval ++ #[] : Array Value) = (c.args.toList.map a.eval).toArray := by
      apply Array.ext'; simp
    simp only [execOp, ho, resolve, hc, Act.eval, Deferred.ofValue, invoke]
    simp only [Sem.run_bind, Sem.run_pure, Result.andThen_ok, Array.empty_append]
    rw [e1, MuLone.run_callFunc_enter hf hname hbody]
  intro K Q hK
  unfold Oper.wp
  rw [hrun]
  show Calls P f _ w _
  have hgl : ∀ g, g ∈ ms.filterMap own → globs ≤ g := fun g hm => by
    obtain ⟨b, k1, v, k2, k3, B, k4, k5⟩ := HW.mem hW hm
    obtain ⟨u, l1, l2⟩ := h.hp b B k4
    rw [k2] at l1; cases l1
    have := (l2.lt k3).2
    rcases Nat.lt_or_ge B.fz 2 with hf2 | hf2
    · have := this.1 hf2
      have := W.ld.1
      omega
    · exact W.nx g (this.2 hf2)
  refine (hcalls w (plusMem M S hdr q.2.2) _ ms q.1 y.1 y.2 h.ext.laid hgl (h.plus_ml q.2.2) hargs hms hy).mono ?_
  rintro en w' ⟨rs, hs, M', rfl, hE, hR, hA, hnd', hM'⟩
  show K (a.put o.dst (retOf rs)) w'
  apply hK
  have hfz := h.freeze q.2.2 hmf
  have hXM : ∀ p, plusMem M S hdr q.2.2 p → p.block ∉ ms.filterMap own := fun p hp hm => by
    obtain ⟨b, k1, v, k2, k3, B, k4, k5⟩ := HW.mem hW hm
    exact h.plus_not k4 k5 k2 k3 (hdis b k1) p hp rfl
  have hcell : ∀ p, plusMem M S hdr q.2.2 p → w'.cell? p = w.cell? p := fun p hp => World.cell?_of_block (w := w) (hE.block _ (hfz.ml p hp) (hXM p hp))
  have hExt : ExtW W w' := ⟨hE.os.trans h.ext.os, hE.tape.trans h.ext.tape, hE.output.trans h.ext.output, Nat.le_trans h.ext.size hE.size, fun k hk hx => by
    rw [hE.block k (Nat.lt_of_lt_of_le hk h.ext.size) fun hm => ?_]
    · exact h.ext.block k hk hx
    · obtain ⟨b, k1, v, k2, k3, B, k4, k5⟩ := HW.mem hW hm
      obtain ⟨u, l1, l2⟩ := h.hp b B k4
      rw [k2] at l1; cases l1
      have := (l2.lt k3).2
      rcases Nat.lt_or_ge B.fz 2 with hf2 | hf2
      · have := this.1 hf2; omega
      · exact hx (this.2 hf2)⟩
  obtain ⟨hbk1, hbk2⟩ := backs_spec (H0 := S.heap) hW.memR (RepAs.blks hA)
  have hlkb : ∀ H b, lk (setAll H (backs S.heap q.2.1 (blksA con.dom y.2))) b = (match (backs S.heap q.2.1 (blksA con.dom y.2)).lookup b with | some x => some x | none => lk H b) := fun H b => lk_setAll _ _ _ (by rw [hbk1]; exact hids)
  have hfr : ∀ b, b ∉ q.2.2 → lk (setAll S.heap (Rx.freeze S.heap q.2.2)) b = lk S.heap b := fun b hb => by
    rw [lk_freeze]
    split
    · rw [if_neg hb]
    · rfl
  have hfn : ∀ b, lk S.heap b = none → lk (setAll S.heap (Rx.freeze S.heap q.2.2)) b = none := fun b hb => by
    rw [lk_freeze]
    unfold blkAt
    rw [hb]
    rfl
  -- every block behind the call
  have hB : ∀ b B', lk (setAll (setAll S.heap (Rx.freeze S.heap q.2.2)) (backs S.heap q.2.1 (blksA con.dom y.2))) b = some (some B') →
      ∃ B v, lk (setAll S.heap (Rx.freeze S.heap q.2.2)) b = some (some B) ∧ hdr b = some v ∧ B'.fz = B.fz ∧ RepBlk w' (fun p => plusMem M S hdr q.2.2 p ∨ M' p) hdr W.fresh B' v := by
    intro b B' hb
    rw [hlkb] at hb
    obtain ⟨c1, c2⟩ := hbk2 b
    split at hb
    · rename_i x hx
      cases hb
      obtain ⟨v, B, m1, ⟨⟨m2, B0, m3, m4⟩, m5⟩, m6, m7⟩ := c1 _ hx
      cases m7
      have hfzb : fzAt S.heap b = B0.fz := by
        unfold fzAt blkAt
        rw [m3]; rfl
      refine ⟨B0, v, by rw [hfr b (hdis b m1)]; exact m3, m2, by rw [Blk.held_fz, hfzb], ?_⟩
      refine m6.rehold (fun _ h => .inr h) fun g hg => ⟨?_, fun p hp e => ?_⟩
      · obtain ⟨u, l1, l2⟩ := h.hp b B0 m3
        rw [m2] at l1; cases l1
        rw [hfzb]; exact (l2.lt hg).2
      · have hm : p.block ∈ ms.filterMap own := List.mem_filterMap.2 ⟨v, m5, by rw [e]; exact hg⟩
        rcases hp with hp | hp
        · exact hXM p hp hm
        · exact (hM' p hp).2.2.2 hm
    · rename_i hx
      have hni := c2 hx
      obtain ⟨v, hv, hr⟩ := hfz.hp b B' hb
      refine ⟨B', v, hb, hv, rfl, hr.keep hcell (fun _ h => .inl h) (fun _ _ h => h) fun g hg => ⟨hE.block g (hr.lt hg).1 fun hm => ?_, fun p hp e => ?_⟩⟩
      · obtain ⟨b', k1, v', k2, k3, B, k4, k5⟩ := HW.mem hW hm
        exact hfz.sep b b' B' B v v' g (fun e => hni (by rw [e]; exact k1)) hb (by rw [show (St.heap ⟨S.tmps, setAll S.heap (Rx.freeze S.heap q.2.2)⟩) = setAll S.heap (Rx.freeze S.heap q.2.2) from rfl, hfr b' (hdis b' k1)]; exact k4) hv k2 hg k3
      · rcases hp with hp | hp
        · exact hp
        · rcases (hM' p hp).1 with h1 | h1
          · exact h1
          · have := (hr.lt hg).1; omega
  have hmove := hfz.move (M2 := fun p => plusMem M S hdr q.2.2 p ∨ M' p) (w' := w') (H' := setAll (setAll S.heap (Rx.freeze S.heap q.2.2)) (backs S.heap q.2.1 (blksA con.dom y.2))) hExt hcell (fun _ h => .inl h)
    (fun p hp => by
      rcases hp with hp | hp
      · exact ⟨Nat.lt_of_lt_of_le (hfz.ml p hp) hE.size, hfz.mo p hp⟩
      · refine ⟨(hM' p hp).2.1, ?_⟩
        rcases (hM' p hp).1 with h1 | h1
        · exact hfz.mo p h1
        · exact .inr (Nat.le_trans h.ext.size h1))
    (fun b hb => by
      rw [hlkb] at hb
      split at hb
      · cases hb
      · exact hb) hB
  have hge := RepRs.ge hR
  obtain ⟨hdr', hg⟩ := hmove.addRes (id := id) (dst := o.dst) (rd := (resAV con.cod y.1 id).2.map (·.1) ++ q.2.1 ++ q.2.2) (RepRs.keepM (fun _ h => .inr h) (fun p hp hm => by
      rcases hp with hp | hp
      · have := hfz.ml p hp
        have := hge _ hm
        omega
      · exact (hM' p hp).2.2.1 hm) hR) (fun g hg => Nat.le_trans h.ext.size hg) hnd'
    (fun g hg b B v hb hv hov => by
      obtain ⟨B0, v0, k1, k2, _, _⟩ := hB b B hb
      obtain ⟨u, l1, l2⟩ := hfz.hp b B0 k1
      rw [hv] at l1; cases l1
      have := (l2.lt hov).1
      have := hge _ hg
      omega)
    (by
      rw [List.all_eq_true] at hnew ⊢
      intro b hb
      have hb' := hnew b hb
      simp only [isNew, Option.isNone_iff_eq_none] at hb' ⊢
      rw [hlkb]
      obtain ⟨c1, c2⟩ := hbk2 b
      split
      · rename_i x hx
        obtain ⟨v, B, m1, ⟨⟨m2, B0, m3, m4⟩, m5⟩, m6, m7⟩ := c1 _ hx
        rw [hb'] at m3; cases m3
      · exact hfn b hb')
  refine ⟨hdr', (fun p => plusMem M S hdr q.2.2 p ∨ M' p), ?_⟩
  simp only [St.app, setAll_append] at hg ⊢
  exact hg

/-- A part of a row of the call's own: the row stays as it is from now on. -/
theorem sound_sliceRow {t : TypeId} {x : Operand} {lo hi mx : Option Operand} {b : Nat} (h : Good W M0 S hdr M a w) (htab : ∀ t i, E.tab.lookup t = some i → TIOK P t i) (ho : o.op = .slice t x lo hi mx) (hx : S.ev x = .v (.one (.row b))) (hk : opK E o.op id S some = some e) : Sound P W M0 S a w o e := by
  rw [ho] at hk
  simp only [opK, hx] at hk
  split at hk
  case h_1 => rename_i h1; cases h1
  case h_2 => rename_i h1; cases h1
  case h_4 => cases hk
  rename_i ti b' hti hb'
  cases hb'
  split at hk
  · rename_i et hd
    split at hk
    · rename_i ei hei
      split at hk
      · rename_i rt e1 xs fz hbk
        split at hk
        · rename_i hsz
          obtain ⟨hsz, hfz⟩ := hsz
          split at hk
          · rename_i l hh hl hhi
            rcases br_some hk with ⟨hb, hk⟩ | ⟨hb, hk⟩
            · cases hk
              have hmf : mayFreeze S.heap [b] = true := by simp [mayFreeze, hbk, Blk.fz, hfz]
              have hg := h.freeze [b] hmf
              have hfr : freeze S.heap [b] = [(b, some (.row rt e1 xs 1))] := by simp [freeze, hbk, Blk.held]
              rw [hfr] at hg
              have htk : takeD S.heap (.slice e1) [.row b] = some (xs, []) := by
                show (match blkAt S.heap b with
                  | some (.row _ e' xs _) => if h : e' = e1 then some (castL h xs, []) else none
                  | _ => none) = _
                rw [hbk]
                show (if h : e1 = e1 then some (castL h xs, ([] : List Cell)) else none) = _
                rw [dif_pos rfl]; rfl
              obtain ⟨v1, v2, e1', e2, e3, _⟩ := takeD_rep h (rows := [b]) (vs := [a.eval x]) htk (show All2 _ [_] [_] from ⟨h.one hx, trivial⟩) (by simp [rowsIn])
              have e3' : v2 = [] := e3.nil'
              subst e3'
              rw [List.append_nil] at e1'
              subst e1'
              obtain ⟨v, k1, k2⟩ := slice_run h htab ho hti hd hei hsz hl hhi (by simpa using hb) e2
              intro K Q hK
              exact wp_val k1 (hK _ _ ⟨hdr, _, hg.val (rd := [b]) k2⟩)
            · cases hk
          · cases hk
        · cases hk
      · cases hk
    · cases hk
  · cases hk

/-- ALL OPERATIONS. -/
theorem op_sound (hE : EnvOK P E) (h : Good W M0 S hdr M a w) (hk : opK E o.op id S some = some e) : Sound P W M0 S a w o e := by
  cases ho : o.op
  case move => exact sound_move h (.inl ho) hk
  case assign => exact sound_move h (.inr ho) hk
  case pick => exact sound_pick h ho hk
  case alloc => exact sound_alloc h hE.tab ho hk
  case box => exact sound_boxOp h ho hk
  case build => exact sound_build h hE.tab ho hk
  case buildSlice => exact sound_buildSlice h hE.tab ho hk
  case load => exact sound_load h hE.tab ho hk
  case store => exact sound_store h hE.tab ho hk
  case nilCheck => exact sound_nilCheck h ho hk
  case binOp => exact sound_bin h hE.tab hE.eqs ho hk
  case unOp => exact sound_un h ho hk
  case convert => exact sound_convert h hE.tab ho hk
  case makeSlice => exact sound_make h hE.tab ho hk
  case fieldAddr => exact sound_fieldAddr h hE.tab ho hk
  case field => exact sound_field h hE.tab ho hk
  case indexAddr => exact sound_indexAddr h hE.tab ho hk
  case index => exact sound_index h hE.tab ho hk
  case slice => exact sound_slice h hE.tab ho hk fun b hx => sound_sliceRow h hE.tab ho hx hk
  case extract => exact sound_extract h ho hk
  case makeFunc => exact sound_makeFunc h ho hk
  case call c =>
    have hk' := hk
    rw [ho] at hk'
    simp only [opK] at hk'
    split at hk'
    · rename_i f hc
      split at hk'
      · rename_i con hcon
        exact sound_call h (hE.cons f con hcon) ho hc hk'
      · split at hk'
        · rename_i con hcon
          exact sound_mcall h (hE.mcons f con hcon) ho hc hk'
        · cases hk'
    · rename_i x hc
      split at hk'
      · rename_i f T y hx
        obtain ⟨caps, hv, hcaps⟩ := h.one hx
        simp at hv
        split at hk'
        · rename_i con hcon
          rcases hcaps with ⟨hu, rfl⟩ | ⟨hu, ad, us, rfl, h1, h2⟩
          · simp only [hu, if_true] at hk'
            exact sound_callX (ex := []) (caps := []) h (hE.cons f con hcon) ho hc hv trivial hk'
          · simp only [hu, Bool.false_eq_true, if_false] at hk'
            exact sound_callX (ex := [.v (.one (.rptr T y 0))]) (caps := [.pointer (some ad)]) h (hE.cons f con hcon) ho hc hv (.one ⟨ad, us, rfl, h1, h2⟩) hk'
        · cases hk'
      · rename_i f b hx
        obtain ⟨g, h1, h2⟩ := h.one hx
        split at hk'
        · rename_i con hcon
          exact sound_callX (ex := [.v (.one (.ptr b 0))]) (caps := [.pointer (some ⟨g, 0, none⟩)]) h (hE.cons f con hcon) ho hc h2 (.one ⟨g, h1, rfl⟩) hk'
        · cases hk'
      · cases hk'
    · rename_i hc
      exact sound_len h hE.tab ho hc hk
    · rename_i hc
      exact sound_min h ho hc hk
    · rename_i hc
      exact sound_max h ho hc hk
    · rename_i hc
      exact sound_append h hE.tab ho hc hk
    · cases hk'
  all_goals
    rw [ho] at hk
    simp [opK] at hk
end
end Rx
end Go.Proofs.YtfapjkcmoefilaaGreatDoor
