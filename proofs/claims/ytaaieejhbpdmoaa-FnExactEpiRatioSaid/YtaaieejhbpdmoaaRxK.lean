/- The evaluator's calls are true of the program's; all operations together. No conditions. -/
import Derived.Test.YtaaieejhbpdmoaaRxJ
namespace Go.Proofs.Ytaaieejhbpdmoaa
open Go.RowKit
namespace Rx

section
variable {P : Program} {W : World} {M0 : Mem} {S : St} {hdr : Nat → Option Value} {M : Mem} {a : Act} {w : World} {o : Oper} {e : Eff} {id : Nat} {E : Env}

def BlkAt (w : World) (M : Mem) (hdr : Nat → Option Value) (base : Nat) (q : Nat × Option Blk) (v : Value) : Prop := ∃ B, q.2 = some B ∧ RepBlk w M hdr base B v

theorem shift_hs {hs1 hs2 : List Value} {n : Nat} (hh : ∀ (j : Nat) v, (hs1 ++ hs2)[j]? = some v → hdr (n + j) = some v) : (∀ (j : Nat) v, hs1[j]? = some v → hdr (n + j) = some v) ∧ (∀ (j : Nat) v, hs2[j]? = some v → hdr (n + hs1.length + j) = some v) := by
  refine ⟨fun j v hv => hh j v ?_, fun j v hv => ?_⟩
  · rw [List.getElem?_append_left (List.getElem?_eq_some_iff.1 hv).1]; exact hv
  · rw [Nat.add_assoc]
    refine hh _ v ?_
    rw [List.getElem?_append_right (by omega)]
    simpa using hv

theorem resCells_rep {base : Nat} : ∀ {T : RTy} {x : T.den} {vs hs : List Value} {n : Nat}, RepR base w M T x vs hs → (∀ (j : Nat) v, hs[j]? = some v → hdr (n + j) = some v) →
    All2 (RepC w M hdr) (resCells T x n).1 vs ∧ (resCells T x n).2.2 = n + hs.length ∧ All2 (BlkAt w M hdr base) (resCells T x n).2.1 hs ∧ (resCells T x n).2.1.map (·.1) = List.range' n hs.length
  | .d T, x, vs, hs, n, h, hh => by
    obtain ⟨h1, rfl⟩ := h
    exact ⟨h1.cells, rfl, trivial, rfl⟩
  | .row t T, xs, vs, hs, n, h, hh => by
    obtain ⟨v, rfl, rfl, hB⟩ := h
    have := hh 0 v rfl
    refine ⟨.one ⟨this, ?_⟩, rfl, .one ⟨_, rfl, hB⟩, rfl⟩
    rcases hB with ⟨_, rfl⟩ | ⟨g, cap, vs, rfl, _⟩ <;> exact ⟨_, _, _, rfl⟩
  | .pair A B, x, vs, hs, n, h, hh => by
    obtain ⟨v1, v2, h1, h2, rfl, rfl, ha, hb⟩ := h
    obtain ⟨s1, s2⟩ := shift_hs hh
    obtain ⟨a1, a2, a3, a4⟩ := resCells_rep ha s1
    obtain ⟨b1, b2, b3, b4⟩ := resCells_rep (n := (resCells A x.1 n).2.2) hb (by rw [a2]; exact s2)
    refine ⟨a1.append b1, ?_, a3.append b3, ?_⟩
    · show (resCells B x.2 _).2.2 = _
      rw [b2, a2, List.length_append]; omega
    · show List.map _ ((resCells A x.1 n).2.1 ++ (resCells B x.2 _).2.1) = _
      rw [List.map_append, a4, b4, a2, List.length_append, List.range'_append_1]

theorem resV1_rep {base : Nat} {T : RTy} {x : T.den} {v : Value} {hs : List Value} {n : Nat} (hS : ShapeR T v) (h : RepR base w M T x v.cells.toList hs) (hh : ∀ (j : Nat) v, hs[j]? = some v → hdr (n + j) = some v) :
    RepV1 w M hdr (resV1 T x n).1 v ∧ (resV1 T x n).2.2 = n + hs.length ∧ All2 (BlkAt w M hdr base) (resV1 T x n).2.1 hs ∧ (resV1 T x n).2.1.map (·.1) = List.range' n hs.length := by
  have one : v.oneCell' = true → v.cells = #[v] := fun h1 => by cases v <;> first | rfl | (simp [Value.oneCell'] at h1)
  cases T with
  | d T =>
    obtain ⟨h1, rfl⟩ := h
    refine ⟨?_, rfl, trivial, rfl⟩
    have hc := h1.cells (hdr := hdr)
    cases T with
    | pair A B =>
      obtain ⟨cs, rfl⟩ : ∃ cs : List Value, v = .agg cs.toArray := by simpa [ShapeR, aggR] using hS
      exact ⟨cs, rfl, by simpa only [Value.cells] using hc⟩
    | unit =>
      obtain ⟨cs, rfl⟩ : ∃ cs : List Value, v = .agg cs.toArray := by simpa [ShapeR, aggR] using hS
      have hc' : All2 (RepC w M hdr) (cellsOf .unit x) cs := by simpa only [Value.cells] using hc
      exact ⟨cs, rfl, hc'⟩
    | int k => have h2 : v.oneCell' = true := by simpa [ShapeR, aggR] using hS
               rw [one h2] at hc; exact hc.1
    | bool => have h2 : v.oneCell' = true := by simpa [ShapeR, aggR] using hS
              rw [one h2] at hc; exact hc.1
    | str => have h2 : v.oneCell' = true := by simpa [ShapeR, aggR] using hS
             rw [one h2] at hc; exact hc.1
    | slice T => have h2 : v.oneCell' = true := by simpa [ShapeR, aggR] using hS
                 rw [one h2] at hc; exact hc.1
  | row t T =>
    have h2 : v.oneCell' = true := by simpa [ShapeR, aggR] using hS
    rw [one h2] at h
    obtain ⟨a1, a2, a3, a4⟩ := resCells_rep h hh
    exact ⟨a1.1, a2, a3, a4⟩
  | pair A B =>
    obtain ⟨cs, rfl⟩ : ∃ cs : List Value, v = .agg cs.toArray := by simpa [ShapeR, aggR] using hS
    obtain ⟨a1, a2, a3, a4⟩ := resCells_rep h hh
    exact ⟨⟨cs, rfl, by simpa only [Value.cells] using a1⟩, a2, a3, a4⟩

theorem resAll_rep {base : Nat} : ∀ {Ts : List RTy} {x : RDens Ts} {rs hs : List Value} {n : Nat}, RepRs base w M Ts x rs hs → (∀ (j : Nat) v, hs[j]? = some v → hdr (n + j) = some v) →
    All2 (RepV1 w M hdr) (resAll Ts x n).1 rs ∧ All2 (BlkAt w M hdr base) (resAll Ts x n).2 hs ∧ (resAll Ts x n).2.map (·.1) = List.range' n hs.length
  | [], x, rs, hs, n, h, hh => by
    obtain ⟨rfl, rfl⟩ := h
    exact ⟨trivial, trivial, rfl⟩
  | [T], x, rs, hs, n, h, hh => by
    obtain ⟨v, rfl, hS, h⟩ := h
    obtain ⟨a1, a2, a3, a4⟩ := resV1_rep hS h hh
    exact ⟨.one a1, a3, a4⟩
  | T :: U :: Ts, x, rs, hs, n, h, hh => by
    obtain ⟨v, r, h1, h2, rfl, rfl, hS, ha, hb⟩ := h
    obtain ⟨s1, s2⟩ := shift_hs hh
    obtain ⟨a1, a2, a3, a4⟩ := resV1_rep hS ha s1
    obtain ⟨b1, b2, b3⟩ := resAll_rep (n := (resV1 T x.1 n).2.2) hb (by rw [a2]; exact s2)
    refine ⟨⟨a1, b1⟩, a3.append b2, ?_⟩
    show List.map _ ((resV1 T x.1 n).2.1 ++ (resAll (U :: Ts) x.2 _).2) = _
    rw [List.map_append, a4, b3, a2, List.length_append, List.range'_append_1]

theorem resAV_rep {xs : List V1} {rs : List Value} (h : All2 (RepV1 w M hdr) xs rs) : RepAV w M hdr (tupAV xs) (retOf rs) := by
  match xs, rs, h with
  | [], [], h => exact ⟨[], rfl, h⟩
  | [x], [r], h => exact h.1
  | x :: y :: xs, r :: s :: rs, h => exact ⟨_, rfl, h⟩
  | [x], _ :: _ :: _, h => exact h.2.elim
  | _ :: _ :: _, [r], h => exact h.2.elim

theorem lk_setAll : ∀ (l : List (Nat × Option Blk)) (H : Heap) (b : Nat), (l.map (·.1)).Nodup → lk (setAll H l) b = (match l.lookup b with | some x => some x | none => lk H b)
  | [], H, b, _ => rfl
  | (n, x) :: r, H, b, hn => by
    simp only [List.map_cons, List.nodup_cons] at hn
    rw [setAll, lk_setAll r _ b hn.2, List.lookup_cons, lk_cons]
    by_cases hb : b = n
    · subst hb
      have : r.lookup b = none := by
        rw [List.lookup_eq_none_iff]
        intro p hp
        simp
        intro e
        exact hn.1 (by rw [e]; exact List.mem_map_of_mem hp)
      simp [this]
    · have h1 : (b == n) = false := by simpa using hb
      have h2 : ¬ n = b := fun e => hb e.symm
      simp only [h1, h2, if_false]

theorem lookup_of_range {l : List (Nat × Option Blk)} {hs : List Value} {n b : Nat} {base : Nat} (hA : All2 (BlkAt w M hdr base) l hs) (hr : l.map (·.1) = List.range' n hs.length) :
    (∀ x, l.lookup b = some x → ∃ j v B, b = n + j ∧ hs[j]? = some v ∧ x = some B ∧ RepBlk w M hdr base B v) ∧ (l.lookup b = none → ¬ (n ≤ b ∧ b < n + hs.length)) := by
  induction l generalizing n hs with
  | nil =>
    obtain rfl := hA.nil'
    exact ⟨fun x h => none_some h, fun _ => by simp⟩
  | cons q l ih =>
    obtain ⟨v, hs', rfl, h1, h2⟩ := hA.cons'
    obtain ⟨m, x0⟩ := q
    simp only [List.map_cons, List.length_cons, List.range'_succ, List.cons.injEq] at hr
    obtain ⟨rfl, hr⟩ := hr
    obtain ⟨i1, i2⟩ := ih h2 hr
    rw [List.lookup_cons]
    by_cases hb : b = m
    · subst hb
      simp only [beq_self_eq_true]
      refine ⟨fun x hx => ?_, fun h => by cases h⟩
      cases hx
      obtain ⟨B, hB, hR⟩ := h1
      exact ⟨0, v, B, rfl, rfl, hB, hR⟩
    · have hbe : (b == m) = false := by simpa using hb
      simp only [hbe]
      refine ⟨fun x hx => ?_, fun hx => ?_⟩
      · obtain ⟨j, v', B, rfl, k1, k2, k3⟩ := i1 x hx
        exact ⟨j + 1, v', B, by omega, by simpa using k1, k2, k3⟩
      · have := i2 hx
        simp only [List.length_cons]
        omega

/-- The results of a call are taken over. -/
theorem Good.result {M2 : Mem} {w' : World} {cod : List RTy} {y : RDens cod} {rs hs : List Value} {dst : Option Tmp} {rd : List Nat} (h : Good W M0 S hdr M a w) (hE : Ext w w') (hR : RepRs w.heap.size w' M2 cod y rs hs)
    (hnd : (hs.filterMap own).Nodup) (hM : ∀ p, M p → M2 p) (hM2 : ∀ p, M2 p → (M p ∨ w.heap.size ≤ p.block) ∧ p.block < w'.heap.size ∧ p.block ∉ hs.filterMap own) (hnew : ((resAV cod y id).2.map (·.1)).all (isNew S.heap) = true) :
    ∃ hdr', Good W M0 (S.app dst ⟨(resAV cod y id).1, (resAV cod y id).2, rd⟩) hdr' M2 (a.put dst (retOf rs)) w' := by
  let hdr' : Nat → Option Value := fun b => if id ≤ b ∧ b < id + hs.length then hs[b - id]? else hdr b
  have hin : ∀ (j : Nat) v, hs[j]? = some v → hdr' (id + j) = some v := fun j v hv => by
    have hj := (List.getElem?_eq_some_iff.1 hv).1
    show (if _ then _ else _) = _
    rw [if_pos ⟨by omega, by omega⟩, show id + j - id = j by omega]
    exact hv
  obtain ⟨a1, a2, a3⟩ := resAll_rep (hdr := hdr') hR hin
  have hwr : (resAV cod y id).2 = (resAll cod y id).2 := rfl
  have hnl : ∀ b, id ≤ b → b < id + hs.length → lk S.heap b = none := by
    intro b h1 h2
    rw [hwr, a3, List.all_eq_true] at hnew
    have := hnew b (by rw [List.mem_range'_1]; exact ⟨h1, h2⟩)
    simpa [isNew] using this
  have hout : ∀ b v, hdr b = some v → ¬ (id ≤ b ∧ b < id + hs.length) := fun b v hv hb => by
    rw [h.un b (hnl b hb.1 hb.2)] at hv; cases hv
  have hh : ∀ b v, hdr b = some v → hdr' b = some v := fun b v hv => by
    show (if _ then _ else _) = _
    rw [if_neg (hout b v hv)]; exact hv
  have hc : ∀ p, M p → w'.cell? p = w.cell? p := fun p hp => hE.cell (h.ml p hp)
  have hnd' : ((resAll cod y id).2.map (·.1)).Nodup := by rw [a3]; exact List.nodup_range'
  have hlk : ∀ b, lk (setAll S.heap (resAV cod y id).2) b = (match (resAll cod y id).2.lookup b with | some x => some x | none => lk S.heap b) := fun b => lk_setAll _ _ _ hnd'
  -- own blocks of the results
  have hgs : ∀ (j : Nat) v g, hs[j]? = some v → own v = some g → g ∈ hs.filterMap own := fun j v g hv hg => List.mem_filterMap.2 ⟨v, List.mem_of_getElem? hv, hg⟩
  have hdis : ∀ (i j : Nat) u v g, i ≠ j → hs[i]? = some u → hs[j]? = some v → own u = some g → own v ≠ some g := by
    have gen : ∀ (l : List Value), (l.filterMap own).Nodup → ∀ (i j : Nat) u v g, i < j → l[i]? = some u → l[j]? = some v → own u = some g → own v ≠ some g := by
      intro l
      induction l with
      | nil => intro _ i j u v g _ hu; simp at hu
      | cons x l ih =>
        intro hn i j u v g hij hu hv hg hg'
        cases j with
        | zero => omega
        | succ j =>
          have hv' : l[j]? = some v := by simpa using hv
          cases i with
          | zero =>
            simp at hu; subst hu
            rw [List.filterMap_cons_some hg, List.nodup_cons] at hn
            exact hn.1 (List.mem_filterMap.2 ⟨v, List.mem_of_getElem? hv', hg'⟩)
          | succ i =>
            have hn' : (l.filterMap own).Nodup := by
              cases hx : own x with
              | none => rwa [List.filterMap_cons_none hx] at hn
              | some y => rw [List.filterMap_cons_some hx, List.nodup_cons] at hn; exact hn.2
            exact ih hn' i j u v g (by omega) (by simpa using hu) hv' hg hg'
    intro i j u v g hij hu hv hg hg'
    rcases Nat.lt_or_gt_of_ne hij with h1 | h1
    · exact gen hs hnd i j u v g h1 hu hv hg hg'
    · exact gen hs hnd j i v u g h1 hv hu hg' hg
  have cases_of : ∀ b B, lk (setAll S.heap (resAV cod y id).2) b = some (some B) → (∃ j v, b = id + j ∧ hs[j]? = some v ∧ hdr' b = some v ∧ RepBlk w' M2 hdr' w.heap.size B v) ∨ (lk S.heap b = some (some B) ∧ ∃ v, hdr b = some v ∧ hdr' b = some v ∧ RepBlk w M hdr W.heap.size B v) := by
    intro b B hb
    rw [hlk] at hb
    obtain ⟨c1, c2⟩ := lookup_of_range (b := b) a2 a3
    split at hb
    · rename_i x hx
      cases hb
      obtain ⟨j, v, B', rfl, k1, k2, k3⟩ := c1 _ hx
      cases k2
      exact .inl ⟨j, v, rfl, k1, hin j v k1, k3⟩
    · obtain ⟨v, hv, hr⟩ := h.hp b B hb
      exact .inr ⟨hb, v, hv, hh b v hv, hr⟩
  have hbase : W.heap.size ≤ w.heap.size := h.ext.size
  have bm : ∀ {B v}, RepBlk w' M2 hdr' w.heap.size B v → RepBlk w' M2 hdr' W.heap.size B v := by
    intro B v hB
    cases B with
    | cells t cs => obtain ⟨g, vs, h1, h2, h3⟩ := hB; exact ⟨g, vs, h1, Nat.le_trans hbase h2, h3⟩
    | row t T xs fz =>
      rcases hB with hB | ⟨g, cap, vs, h1, h2, h3⟩
      · exact .inl hB
      · exact .inr ⟨g, cap, vs, h1, Nat.le_trans hbase h2, h3⟩
  refine ⟨hdr', h.ext.trans hE, put_nod h, put_len h, put_tm h hc hM hh (resAV_rep a1), ?_, ?_, ?_, fun p hp => (hM2 p hp).2.1, fun p hp => ?_⟩
  · intro b B hb
    rcases cases_of b B hb with ⟨j, v, _, _, k1, k2⟩ | ⟨_, v, _, k1, k2⟩
    · exact ⟨v, k1, bm k2⟩
    · refine ⟨v, k1, k2.keep hc hM hh fun g hg => ⟨Below.block hE g (k2.lt hg).1, fun p hp e => ?_⟩⟩
      rcases (hM2 p hp).1 with h1 | h1
      · exact h1
      · have := (k2.lt hg).1; omega
  · intro b hb
    have hb' : lk (setAll S.heap (resAV cod y id).2) b = none := hb
    rw [hlk] at hb'
    split at hb'
    · cases hb'
    · rename_i hx
      have := (lookup_of_range (b := b) a2 a3).2 hx
      show (if _ then _ else _) = _
      rw [if_neg this]
      exact h.un b hb'
  · intro b b' B B' v v' g hbb hb hb' hv hv' hg
    rcases cases_of b B hb with ⟨j, u, rfl, k1, k2, k3⟩ | ⟨l1, u, k0, k1, k2⟩
    · rw [hv] at k2; cases k2
      rcases cases_of b' B' hb' with ⟨j', u', rfl, m1, m2, m3⟩ | ⟨l1, u', m0, m1, m2⟩
      · rw [hv'] at m2; cases m2
        exact hdis j j' _ _ g (fun e => hbb (by rw [e])) k1 m1 hg
      · rw [hv'] at m1; cases m1
        intro hg'
        have c1 := (m2.lt hg').1
        have c2 := (k3.lt hg).2
        omega
    · rw [hv] at k1; cases k1
      rcases cases_of b' B' hb' with ⟨j', u', rfl, m1, m2, m3⟩ | ⟨l1', u', m0, m1, m2⟩
      · rw [hv'] at m2; cases m2
        intro hg'
        have c1 := (k2.lt hg).1
        have c2 := (m3.lt hg').2
        omega
      · rw [hv'] at m1; cases m1
        exact h.sep b b' B B' _ _ g hbb l1 l1' k0 m0 hg
  · rcases (hM2 p hp).1 with h1 | h1
    · exact h.mo p h1
    · exact .inr (Nat.le_trans hbase h1)

/-! ### Data that lie in the value alone -/
theorem RepD.flat {w w' : World} {M M' : Mem} : ∀ {T : Ty} {x : T.den} {vs : List Value}, T.far = false → RepD w M T x vs → RepD w' M' T x vs
  | .int _, _, _, _, h => by simp only [RepD] at h ⊢; exact h
  | .bool, _, _, _, h => by simp only [RepD] at h ⊢; exact h
  | .str, _, _, _, h => by simp only [RepD] at h ⊢; exact h
  | .unit, _, _, _, h => by simp only [RepD] at h ⊢; exact h
  | .pair A B, _, _, hf, ⟨v1, v2, e, h1, h2⟩ => by
    simp only [Ty.far, Bool.or_eq_false_iff] at hf
    exact ⟨v1, v2, e, RepD.flat hf.1 h1, RepD.flat hf.2 h2⟩
  | .slice _, _, _, hf, _ => by simp [Ty.far] at hf
theorem RepR.flat {w : World} {M M' : Mem} {base : Nat} : ∀ {T : RTy} {x : T.den} {vs hs : List Value}, T.far = false → (∀ p, M' p → p.block ∉ hs.filterMap own) → RepR base w M T x vs hs → RepR base w M' T x vs hs
  | .d T, x, vs, hs, hf, _, ⟨h1, h2⟩ => ⟨RepD.flat hf h1, h2⟩
  | .row t T, xs, vs, hs, hf, hM, ⟨v, h1, h2, hB⟩ => by
    refine ⟨v, h1, h2, ?_⟩
    rcases hB with hB | ⟨g, cap, us, rfl, k1, k2, k3, k4, k5, k6, k7⟩
    · exact .inl hB
    · refine .inr ⟨g, cap, us, rfl, k1, k2, k3, k4, k5, k6.mono fun _ _ h => RepD.flat hf h, fun p hp e => ?_⟩
      subst h2
      exact absurd (show p.block ∈ [Value.slice (some ⟨g, 0, none⟩) xs.length cap].filterMap own by simp [own, e]) (hM p hp)
  | .pair A B, x, vs, hs, hf, hM, ⟨v1, v2, h1, h2, e1, e2, ha, hb⟩ => by
    simp only [RTy.far, Bool.or_eq_false_iff] at hf
    subst e2
    exact ⟨v1, v2, h1, h2, e1, rfl, RepR.flat hf.1 (fun p hp hm => hM p hp (by rw [List.filterMap_append]; exact List.mem_append.2 (.inl hm))) ha, RepR.flat hf.2 (fun p hp hm => hM p hp (by rw [List.filterMap_append]; exact List.mem_append.2 (.inr hm))) hb⟩
theorem RepRs.flat {w : World} {M M' : Mem} {base : Nat} : ∀ {Ts : List RTy} {x : RDens Ts} {rs hs : List Value}, Ts.any (·.far) = false → (∀ p, M' p → p.block ∉ hs.filterMap own) → RepRs base w M Ts x rs hs → RepRs base w M' Ts x rs hs
  | [], _, _, _, _, _, h => h
  | [T], x, rs, hs, hf, hM, ⟨v, h1, h2, h3⟩ => ⟨v, h1, h2, RepR.flat (by simpa using hf) hM h3⟩
  | T :: U :: Ts, x, rs, hs, hf, hM, ⟨v, r, h1, h2, e1, e2, h3, ha, hb⟩ => by
    rw [List.any_cons, Bool.or_eq_false_iff] at hf
    subst e2
    exact ⟨v, r, h1, h2, e1, rfl, h3, RepR.flat hf.1 (fun p hp hm => hM p hp (by rw [List.filterMap_append]; exact List.mem_append.2 (.inl hm))) ha, RepRs.flat hf.2 (fun p hp hm => hM p hp (by rw [List.filterMap_append]; exact List.mem_append.2 (.inr hm))) hb⟩
theorem RepR.keepM {w : World} {M M' : Mem} {base : Nat} : ∀ {T : RTy} {x : T.den} {vs hs : List Value}, (∀ p, M p → M' p) → (∀ p, M' p → p.block ∉ hs.filterMap own) → RepR base w M T x vs hs → RepR base w M' T x vs hs
  | .d T, x, vs, hs, hm, _, ⟨h1, h2⟩ => ⟨RepD.keep (fun _ _ => rfl) hm h1, h2⟩
  | .row t T, xs, vs, hs, hm, hM, ⟨v, h1, h2, hB⟩ => by
    refine ⟨v, h1, h2, ?_⟩
    rcases hB with hB | ⟨g, cap, us, rfl, k1, k2, k3, k4, k5, k6, k7⟩
    · exact .inl hB
    · refine .inr ⟨g, cap, us, rfl, k1, k2, k3, k4, k5, k6.mono fun _ _ h => RepD.keep (fun _ _ => rfl) hm h, fun p hp e => ?_⟩
      subst h2
      exact absurd (show p.block ∈ [Value.slice (some ⟨g, 0, none⟩) xs.length cap].filterMap own by simp [own, e]) (hM p hp)
  | .pair A B, x, vs, hs, hm, hM, ⟨v1, v2, h1, h2, e1, e2, ha, hb⟩ => by
    subst e2
    exact ⟨v1, v2, h1, h2, e1, rfl, RepR.keepM hm (fun p hp hm => hM p hp (by rw [List.filterMap_append]; exact List.mem_append.2 (.inl hm))) ha, RepR.keepM hm (fun p hp hm => hM p hp (by rw [List.filterMap_append]; exact List.mem_append.2 (.inr hm))) hb⟩
theorem RepRs.keepM {w : World} {M M' : Mem} {base : Nat} : ∀ {Ts : List RTy} {x : RDens Ts} {rs hs : List Value}, (∀ p, M p → M' p) → (∀ p, M' p → p.block ∉ hs.filterMap own) → RepRs base w M Ts x rs hs → RepRs base w M' Ts x rs hs
  | [], _, _, _, _, _, h => h
  | [T], x, rs, hs, hm, hM, ⟨v, h1, h2, h3⟩ => ⟨v, h1, h2, RepR.keepM hm hM h3⟩
  | T :: U :: Ts, x, rs, hs, hm, hM, ⟨v, r, h1, h2, e1, e2, h3, ha, hb⟩ => by
    subst e2
    exact ⟨v, r, h1, h2, e1, rfl, h3, RepR.keepM hm (fun p hp hm => hM p hp (by rw [List.filterMap_append]; exact List.mem_append.2 (.inl hm))) ha, RepRs.keepM hm (fun p hp hm => hM p hp (by rw [List.filterMap_append]; exact List.mem_append.2 (.inr hm))) hb⟩
theorem RepR.ge {w : World} {M : Mem} {base : Nat} : ∀ {T : RTy} {x : T.den} {vs hs : List Value}, RepR base w M T x vs hs → ∀ g ∈ hs.filterMap own, base ≤ g
  | .d T, x, vs, hs, ⟨_, e⟩, g, hg => by subst e; cases hg
  | .row t T, x, vs, hs, ⟨v, _, e, hB⟩, g, hg => by
    subst e
    obtain ⟨u, hu, hg2⟩ := List.mem_filterMap.1 hg
    simp at hu; subst hu
    exact (hB.lt hg2).2
  | .pair A B, x, vs, hs, ⟨v1, v2, h1, h2, _, e, ha, hb⟩, g, hg => by
    subst e
    rw [List.filterMap_append] at hg
    rcases List.mem_append.1 hg with hg | hg
    · exact RepR.ge ha g hg
    · exact RepR.ge hb g hg
theorem RepRs.ge {w : World} {M : Mem} {base : Nat} : ∀ {Ts : List RTy} {x : RDens Ts} {rs hs : List Value}, RepRs base w M Ts x rs hs → ∀ g ∈ hs.filterMap own, base ≤ g
  | [], x, rs, hs, ⟨_, e⟩, g, hg => by subst e; cases hg
  | [T], x, rs, hs, ⟨v, _, _, h⟩, g, hg => RepR.ge h g hg
  | T :: U :: Ts, x, rs, hs, ⟨v, r, h1, h2, _, e, _, ha, hb⟩, g, hg => by
    subst e
    rw [List.filterMap_append] at hg
    rcases List.mem_append.1 hg with hg | hg
    · exact RepR.ge ha g hg
    · exact RepRs.ge hb g hg

theorem evs_rep (h : Good W M0 S hdr M a w) : ∀ (l : List Operand), All2 (RepAV w M hdr) (l.map S.ev) (l.map a.eval)
  | [] => trivial
  | x :: r => ⟨h.ev x, evs_rep h r⟩

theorem sound_call {c : Call} {f : FuncId} {con : Con} (h : Good W M0 S hdr M a w) (hcon : con.ok P f) (ho : o.op = .call c) (hc : c.callee = .value (.func f)) (hk : callK S con (c.args.toList.map S.ev) id some = some e) : Sound P W M0 S a w o e := by
  unfold callK at hk
  obtain ⟨x, hx, hk⟩ := Option.bind_eq_some_iff.1 hk
  obtain ⟨y, hy, hk⟩ := ob_some hk
  dsimp only at hk
  obtain ⟨hnew, hk⟩ := chk_some hk
  obtain ⟨⟨fn, cd, hf, hname, hbody⟩, hcalls⟩ := hcon
  let rows := rowsIn ((c.args.toList.map S.ev).flatMap avCells)
  have hargs := argsD_rep h (rows := rows) hx (evs_rep h c.args.toList) fun b hb => hb
  have hfz := h.freeze rows
  have hrun : (execOp a.eval o).run P w = .ok (.enter f (c.args.toList.map a.eval).toArray) w := by
    have e1 : (c.args.map a.eval ++ #[] : Array Value) = (c.args.toList.map a.eval).toArray := by
      apply Array.ext'; simp
    simp only [execOp, ho, resolve, hc, Act.eval, Deferred.ofValue, invoke]
    simp only [Sem.run_bind, Sem.run_pure, Result.andThen_ok, Array.empty_append]
    rw [e1, MuLone.run_callFunc_enter hf hname hbody]
  intro K Q hK
  unfold Oper.wp
  rw [hrun]
  show Calls P f _ w _
  refine (hcalls w (plusMem M S hdr rows) _ x y hfz.ml hargs hy).mono ?_
  rintro en w' ⟨rs, hs, M', rfl, hE, hR, hnd, hM'⟩
  show K (a.put o.dst (retOf rs)) w'
  apply hK
  have hge := RepRs.ge hR
  cases hfar : con.cod.any (·.far) with
  | false =>
    rw [hfar] at hk
    simp only [Bool.false_eq_true, if_false, List.nil_append] at hk
    cases hk
    have hMn : ∀ p, M p → p.block ∉ hs.filterMap own := fun p hp hm => by
      have := h.ml p hp
      have := hge _ hm
      omega
    obtain ⟨hdr', hg⟩ := h.result (id := id) (dst := o.dst) (rd := (resAV con.cod y id).2.map (·.1) ++ rows) hE (RepRs.flat hfar hMn hR) hnd (fun _ h => h) (fun p hp => ⟨.inl hp, Nat.lt_of_lt_of_le (h.ml p hp) hE.size, hMn p hp⟩) hnew
    exact ⟨hdr', M, hg⟩
  | true =>
    rw [hfar] at hk
    simp only [if_true] at hk
    cases hk
    have hMn : ∀ p, plusMem M S hdr rows p → p.block ∉ hs.filterMap own := fun p hp hm => by
      have := hfz.ml p hp
      have := hge _ hm
      omega
    have hnew' : ((resAV con.cod y id).2.map (·.1)).all (isNew (setAll S.heap (Rx.freeze S.heap rows))) = true := by
      rw [List.all_eq_true] at hnew ⊢
      intro b hb
      have := hnew b hb
      simp only [isNew, Option.isNone_iff_eq_none] at this ⊢
      rw [lk_freeze]
      unfold blkAt
      rw [this]
      rfl
    obtain ⟨hdr', hg⟩ := hfz.result (id := id) (dst := o.dst) (rd := (resAV con.cod y id).2.map (·.1) ++ rows) (M2 := fun p => plusMem M S hdr rows p ∨ M' p) hE
      (RepRs.keepM (fun _ h => .inr h) (fun p hp => hp.elim (hMn p) fun h => (hM' p h).2.2) hR) hnd (fun _ h => .inl h)
      (fun p hp => hp.elim (fun h1 => ⟨.inl h1, Nat.lt_of_lt_of_le (hfz.ml p h1) hE.size, hMn p h1⟩) fun h1 => hM' p h1) hnew'
    refine ⟨hdr', (fun p => plusMem M S hdr rows p ∨ M' p), ?_⟩
    simp only [St.app, setAll_append] at hg ⊢
    exact hg

/-- ALL OPERATIONS. -/
theorem op_sound (hE : EnvOK P E) (h : Good W M0 S hdr M a w) (hk : opK E o.op id S some = some e) : Sound P W M0 S a w o e := by
  cases ho : o.op
  case move => exact sound_move h (.inl ho) hk
  case assign => exact sound_move h (.inr ho) hk
  case pick => exact sound_pick h ho hk
  case alloc => exact sound_alloc h hE.tab ho hk
  case box => exact sound_boxOp h ho hk
  case build => exact sound_build h hE.tab ho hk
  case buildSlice => exact sound_buildSlice h hE.tab ho hk
  case load => exact sound_load h hE.tab ho hk
  case store => exact sound_store h hE.tab ho hk
  case nilCheck => exact sound_nilCheck h ho hk
  case binOp => exact sound_bin h hE.tab hE.eqs ho hk
  case unOp => exact sound_un h ho hk
  case convert => exact sound_convert h hE.tab ho hk
  case makeSlice => exact sound_make h hE.tab ho hk
  case fieldAddr => exact sound_fieldAddr h hE.tab ho hk
  case field => exact sound_field h hE.tab ho hk
  case indexAddr => exact sound_indexAddr h hE.tab ho hk
  case index => exact sound_index h hE.tab ho hk
  case slice => exact sound_slice h hE.tab ho hk
  case extract => exact sound_extract h ho hk
  case call c =>
    have hk' := hk
    rw [ho] at hk'
    simp only [opK] at hk'
    split at hk'
    · rename_i f hc
      split at hk'
      · rename_i con hcon
        exact sound_call h (hE.cons f con hcon) ho hc hk'
      · cases hk'
    · rename_i hc
      exact sound_len h hE.tab ho hc hk
    · rename_i hc
      exact sound_append h hE.tab ho hc hk
    · cases hk'
  all_goals
    rw [ho] at hk
    simp [opK] at hk
end
end Rx
end Go.Proofs.Ytaaieejhbpdmoaa
