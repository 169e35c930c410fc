/- Exact trains: both sides find the same. No program in sight. -/
import Derived.Test.YthfgpnpoocepeaaRxExTrLaw
import Derived.Test.YthfgpnpoocepeaaRxScan
namespace Go.Proofs.Ythfgpnpoocepeaa
namespace Rx
open Go

noncomputable section
def stg (x : Int × Int × Int × Int × Int) : Nat := x.2.2.2.2.toNat
def wh1 (x : Int × Int × Int × Int × Int) : List (List Int) := wheels x.1 x.2.1 (stg x)
def wh2 (x : Int × Int × Int × Int × Int) : List (List Int) := wheels x.2.2.1 x.2.2.2.1 (stg x)
def tr1 (r : Int × Int) (x : Int × Int × Int × Int × Int) (a : List Int) : List (List (Int × Int)) :=
  if cd r.1 r.2 (prodW a) then [] else ((wh2 x).filter fun b => prodW b == qd r.1 r.2 (prodW a)).map (canonF a)
/-- All exact trains. -/
def trainsOf (r : Int × Int) (x : Int × Int × Int × Int × Int) : List (List (Int × Int)) := (wh1 x).flatMap (tr1 r x)
section
variable {r : Int × Int} {x : Int × Int × Int × Int × Int}
theorem LimOk.stg (h : LimOk x) : ((stg x : Nat) : Int) = x.2.2.2.2 ∧ Rx.stg x ≤ 3 ∧ 1 ≤ Rx.stg x := by
  have := h.s1; have := h.s2
  unfold Rx.stg
  omega
theorem wh_len (h : LimOk x) : (wh1 x).length ≤ 100000 ∧ (wh2 x).length ≤ 100000 := by
  obtain ⟨_, h1, _⟩ := h.stg
  have e1 := wheels_len h.a4 (stg x)
  have e2 := wheels_len h.b4 (stg x)
  have : 31 ^ stg x ≤ 100000 := by
    rcases (by omega : stg x = 0 ∨ stg x = 1 ∨ stg x = 2 ∨ stg x = 3) with e | e | e | e <;> rw [e] <;> decide
  unfold wh1 wh2
  omega
theorem mem_trains {t : List (Int × Int)} (h : t ∈ trainsOf r x) : ∃ a ∈ wh1 x, ∃ b ∈ wh2 x, cd r.1 r.2 (prodW a) = false ∧ prodW b = qd r.1 r.2 (prodW a) ∧ t = canonF a b := by
  unfold trainsOf at h
  obtain ⟨a, ha, h⟩ := List.mem_flatMap.1 h
  unfold tr1 at h
  cases hc : cd r.1 r.2 (prodW a) with
  | true => rw [hc, if_pos rfl] at h; cases h
  | false =>
    rw [hc, if_neg (by simp)] at h
    obtain ⟨b, hb, rfl⟩ := List.mem_map.1 h
    have hb := List.mem_filter.1 hb
    exact ⟨a, ha, b, hb.1, hc, by simpa using hb.2, rfl⟩
theorem wh1_is {a : List Int} (h : a ∈ wh1 x) : IsW x.1 x.2.1 (stg x) a := wheels_is h
theorem wh2_is {a : List Int} (h : a ∈ wh2 x) : IsW x.2.2.1 x.2.2.2.1 (stg x) a := wheels_is h
theorem canon_len (hx : LimOk x) {a b : List Int} (ha : a ∈ wh1 x) (hb : b ∈ wh2 x) : (canonF a b).length = stg x := by
  have h1 := (wh1_is ha).len; have h2 := (wh2_is hb).len
  rw [canonF_len (by omega)]; exact h1
theorem trains_len (hx : LimOk x) {t : List (Int × Int)} (h : t ∈ trainsOf r x) : t.length = stg x := by
  obtain ⟨a, ha, b, hb, _, _, rfl⟩ := mem_trains h
  exact canon_len hx ha hb

/-! ### The implementation -/
theorem sets_both (hx : LimOk x) : ∃ s1 s2, setsI (x.1, x.2.1, x.2.2.2.2) = some s1 ∧ setsI (x.2.2.1, x.2.2.2.1, x.2.2.2.2) = some s2 ∧ Sets (wh1 x) s1 ∧ Sets (wh2 x) s2 := by
  obtain ⟨e, h3, h1⟩ := hx.stg
  have a1 := hx.a1; have b1 := hx.b1
  obtain ⟨s1, e1, g1⟩ := setsI_eq (lo := x.1) (hi := x.2.1) (by omega) hx.a3 hx.a4 h3
  obtain ⟨s2, e2, g2⟩ := setsI_eq (lo := x.2.2.1) (hi := x.2.2.2.1) (by omega) hx.b3 hx.b4 h3
  rw [e] at e1 e2
  exact ⟨s1, s2, e1, e2, g1, g2⟩
theorem get_len {W : List (List Int)} {s : List Int × List (Int × List (List Int))} (h : Sets W s) (q : Int) : (getM s.2 q).length ≤ W.length := by
  rw [h.get]; exact List.length_filter_le _ _
theorem nodup_len {α : Type} [DecidableEq α] {l m : List α} (hn : l.Nodup) (h : ∀ y ∈ l, y ∈ m) : l.length ≤ m.length := by
  induction l generalizing m with
  | nil => simp
  | cons y l ih =>
    have hn' := List.nodup_cons.1 hn
    have hy := h y (by simp)
    have := ih (m := m.erase y) hn'.2 fun z hz => (List.mem_erase_of_ne (by rintro rfl; exact hn'.1 hz)).2 (h z (by simp [hz]))
    rw [List.length_erase_of_mem hy] at this
    have := List.length_pos_of_mem hy
    rw [List.length_cons]; omega
theorem prods_len {W : List (List Int)} {s : List Int × List (Int × List (List Int))} (h : Sets W s) : s.1.length ≤ W.length := by
  have := nodup_len (m := W.map prodW) h.nodup fun y hy => by
    obtain ⟨l, hl, e⟩ := (h.mem y).1 hy
    exact List.mem_map.2 ⟨l, hl, e⟩
  rwa [List.length_map] at this
theorem grp_perm {s1 s2 : List Int × List (Int × List (List Int))} (h1 : Sets (wh1 x) s1) (h2 : Sets (wh2 x) s2) : (s1.1.flatMap (grpI r.1 r.2 s1 s2)).Perm (trainsOf r x) := by
  have e : s1.1.flatMap (grpI r.1 r.2 s1 s2) = s1.1.flatMap fun p => ((wh1 x).filter fun a => prodW a == p).flatMap (tr1 r x) := by
    refine flatMap_congr' fun p hp => ?_
    unfold grpI
    rw [h1.get]
    cases hc : cd r.1 r.2 p with
    | true =>
      rw [if_pos rfl]
      symm
      rw [List.flatMap_eq_nil_iff]
      intro a ha
      have : prodW a = p := by simpa using (List.mem_filter.1 ha).2
      unfold tr1
      rw [this, hc, if_pos rfl]
    | false =>
      rw [if_neg (by simp)]
      refine flatMap_congr' fun a ha => ?_
      have : prodW a = p := by simpa using (List.mem_filter.1 ha).2
      unfold tr1
      rw [this, hc, if_neg (by simp), h2.get]
  rw [e]
  exact group_perm prodW (tr1 r x) h1.nodup fun a ha => (h1.mem _).2 ⟨a, ha, rfl⟩
theorem exactI_law (hx : LimOk x) (hN : r.1 ≠ 0) (hc : askI (r, x) = some 0) : ∃ T : List (List (Int × Int)), T.Perm (trainsOf r x) ∧ exactI (r, x) = some (if T.length ≤ 40 then (T.mergeSort leT, 0) else ([], 5)) := by
  obtain ⟨s1, s2, e1, e2, g1, g2⟩ := sets_both hx
  obtain ⟨_, h3, _⟩ := hx.stg
  obtain ⟨l1, l2⟩ := wh_len hx
  have hp := grp_perm (r := r) g1 g2
  refine ⟨_, hp, ?_⟩
  unfold exactI
  rw [show askI (((r, x).1.1, (r, x).1.2), (r, x).2.1, (r, x).2.2.1, (r, x).2.2.2.1, (r, x).2.2.2.2.1, (r, x).2.2.2.2.2) = some 0 from hc, ob_s, br_f (by rfl)]
  dsimp only
  rw [e1, ob_s, e2, ob_s]
  have e := exactL_eq (N := r.1) (D := r.2) (s1 := s1) (s2 := s2) (n := stg x) hN h3 (fun q a ha => by rw [g1.get] at ha; exact wh1_is (List.mem_filter.1 ha).1) (fun q a ha => by rw [g2.get] at ha; exact wh2_is (List.mem_filter.1 ha).1)
    (fun q => by have := get_len g1 q; omega) (fun q => by have := get_len g2 q; omega) (by have := prods_len g1; omega)
  rw [show exactL ((r.1, r.2), (s1.1, s1.2), (s2.1, s2.2), [], PUnit.unit, ((List.length s1.1 : Nat) : Int), 0) = _ from e, ob_s]
  by_cases h40 : (s1.1.flatMap (grpI r.1 r.2 s1 s2)).length ≤ 40
  · rw [if_pos h40, if_pos h40]
    unfold el
    dsimp only
    unfold sortTr
    dsimp only
    rw [br_t (by simp only [decide_eq_true_eq]; omega), br_t ?_, ob_s]
    rw [List.all_eq_true]
    intro t ht
    have := trains_len hx (hp.mem_iff.1 ht)
    simp only [decide_eq_true_eq]
    omega
  · rw [if_neg h40, if_neg h40]
    rfl

/-! ### The reference -/
def ascT (l : List (List (Int × Int))) : Prop := l.Pairwise fun a b => leT a b = true
theorem cmpTrS_T {a b : List (Int × Int)} (ha : a.length ≤ 3) (hb : b.length ≤ 3) : cmpTrS (a, b) = some (cmpT a b) := cmpTrS_eq (by omega) (by omega)
theorem insertS_law {l : List (List (Int × Int))} {t : List (Int × Int)} (hl : l.length ≤ 1000) (hls : ∀ y ∈ l, y.length ≤ 3) (ht : t.length ≤ 3) (hs : ascT l) : ∃ l', insertS (l, t) = some l' ∧ l'.Perm (l ++ [t]) ∧ ascT l' := by
  have := iterP_end (step := insertSL_step) (fun s => ∃ k : Nat, s = (l, t, (k : Int)) ∧ k ≤ l.length ∧ ∀ y ∈ l.drop k, leT t y = true)
    (fun s => ∃ k : Nat, s = (l, t, (k : Int)) ∧ k ≤ l.length ∧ (∀ y ∈ l.drop k, leT t y = true) ∧ ∀ y ∈ l.take k, leT y t = true)
    (fun s => s.2.2.toNat) ?_ (insertSL_fuel (l, t, (l.length : Int))) (l, t, (l.length : Int)) ⟨l.length, rfl, by omega, by simp⟩ (by show _ < _ + 1; omega)
  · obtain ⟨_, h, k, rfl, h1, h2, h3⟩ := this
    refine ⟨l.take k ++ [t] ++ l.drop k, ?_, ?_, ?_⟩
    · unfold insertS
      dsimp only
      rw [show insertSL (l, t, (l.length : Int)) = _ from h, ob_s]
      dsimp only
      rw [br_t (by simp; omega), show Int.toNat (0 : Int) = 0 from rfl, List.drop_zero, Int.toNat_natCast, Int.toNat_natCast, List.take_length,
        br_t (by simp; omega), br_t (by simp; omega), br_t (by simp; omega), br_t (by simp; omega)]
      rfl
    · rw [List.append_assoc]
      refine (List.Perm.append_left _ List.perm_append_comm).trans ?_
      rw [← List.append_assoc, List.take_append_drop]
    · rw [List.append_assoc]
      refine List.pairwise_append.2 ⟨hs.sublist (List.take_sublist _ _), ?_, fun a ha b hb => ?_⟩
      · rw [List.singleton_append]
        exact List.pairwise_cons.2 ⟨h2, hs.sublist (List.drop_sublist _ _)⟩
      · rcases List.mem_append.1 hb with hb | hb
        · simp at hb; subst hb; exact h3 a ha
        · exact leT_trans (h3 a ha) (h2 b hb)
  · rintro _ ⟨k, rfl, hk, h1⟩
    by_cases h0 : 0 < k
    · have hlt : k - 1 < l.length := by omega
      have e : idx l (IntKind.i64.wrap ((k : Int) - 1)) = some l[k - 1] := by
        rw [w64 (by omega) (by omega), show (k : Int) - 1 = ((k - 1 : Nat) : Int) by omega]
        exact get_idx hlt
      have e2 := cmpTrS_T (hls _ (List.getElem_mem hlt)) ht
      by_cases hc : 0 < cmpT l[k - 1] t
      · refine ⟨.next, (l, t, ((k - 1 : Nat) : Int)), ?_, fun _ => ⟨⟨k - 1, rfl, by omega, fun y hy => ?_⟩, ?_⟩, fun h => (by cases h), by intro h; cases h⟩
        · unfold insertSL_step
          dsimp only
          rw [br_t (by simp; omega), e, ob_s, e2, ob_s, br_t (by simpa using hc), w64 (by omega) (by omega), show (k : Int) - 1 = ((k - 1 : Nat) : Int) by omega]
        · rw [List.drop_eq_getElem_cons hlt, show k - 1 + 1 = k by omega] at hy
          rcases List.mem_cons.1 hy with rfl | hy
          · rw [leT_iff]
            intro h
            rw [cmpT_gt] at hc
            exact absurd h (List.lt_asymm hc)
          · exact h1 y hy
        · show ((k - 1 : Nat) : Int).toNat < (k : Int).toNat
          omega
      · refine ⟨.out, (l, t, (k : Int)), ?_, fun h => (by cases h), fun _ => ⟨k, rfl, hk, h1, fun y hy => ?_⟩, by intro h; cases h⟩
        · unfold insertSL_step
          dsimp only
          rw [br_t (by simp; omega), e, ob_s, e2, ob_s, br_f (by simpa using hc)]
        · have hle : leT l[k - 1] t = true := by
            rw [leT_iff, ← cmpT_gt]; exact hc
          obtain ⟨j, hj, rfl⟩ := List.mem_iff_getElem.1 hy
          rw [List.length_take] at hj
          rw [List.getElem_take]
          rcases (by omega : j = k - 1 ∨ j < k - 1) with e | hj2
          · subst e; exact hle
          · exact leT_trans (List.pairwise_iff_getElem.1 hs j (k - 1) (by omega) hlt hj2) hle
    · obtain rfl : k = 0 := by omega
      refine ⟨.out, (l, t, ((0 : Nat) : Int)), ?_, fun h => (by cases h), fun _ => ⟨0, rfl, by omega, h1, by simp⟩, by intro h; cases h⟩
      unfold insertSL_step
      dsimp only
      rw [br_f (by simp)]
theorem exactSL0_eq {N D : Int} {n : Nat} {lo hi lo' hi' want : Int} {D1 D2 : List (Int × List Int)} {i : Int} {d : Int × List Int} (hn : n ≤ 3) (hd : idx D1 i = some d) (hda : IsW lo hi n d.2) (hD : ∀ y ∈ D2, IsW lo' hi' n y.2) (hs : ascP D2) (hl : D2.length ≤ 100000)
    {k0 : Nat} (hk0 : k0 ≤ D2.length) (f1 : ∀ y ∈ D2.take k0, y.1 < want) (f2 : ∀ y ∈ D2.drop k0, want ≤ y.1) {o : List (List (Int × Int))} (ho : o.length ≤ 40) (hos : ascT o) (hol : ∀ t ∈ o, t.length ≤ 3) :
    (∃ o' k', exactSL0 ((N, D), D1, D2, o, i, want, (k0 : Int)) = some (.inl ((N, D), D1, D2, o', i, want, k')) ∧ o'.Perm (o ++ (D2.filter fun y => y.1 == want).map fun y => canonF d.2 y.2) ∧ ascT o' ∧ o'.length ≤ 40) ∨
    ∃ o', exactSL0 ((N, D), D1, D2, o, i, want, (k0 : Int)) = some (.inr o') ∧ 40 < o'.length ∧ o'.length ≤ (o ++ (D2.filter fun y => y.1 == want).map fun y => canonF d.2 y.2).length := by
  have hz : (D2.take k0).filter (fun y => y.1 == want) = [] := by
    rw [List.filter_eq_nil_iff]
    intro y hy
    have := f1 y hy
    simp; omega
  have h := iterA_end (step := exactSL0_step) (fun s => ∃ (k : Nat) (o' : List (List (Int × Int))), s = ((N, D), D1, D2, o', i, want, (k : Int)) ∧ k0 ≤ k ∧ k ≤ D2.length ∧ o'.Perm (o ++ ((D2.take k).filter fun y => y.1 == want).map fun y => canonF d.2 y.2) ∧ ascT o' ∧ o'.length ≤ 40)
    (fun s => ∃ (k : Int) (o' : List (List (Int × Int))), s = ((N, D), D1, D2, o', i, want, k) ∧ o'.Perm (o ++ (D2.filter fun y => y.1 == want).map fun y => canonF d.2 y.2) ∧ ascT o' ∧ o'.length ≤ 40)
    (fun o' => 40 < o'.length ∧ o'.length ≤ (o ++ (D2.filter fun y => y.1 == want).map fun y => canonF d.2 y.2).length) (fun s => s.2.2.1.length - s.2.2.2.2.2.2.toNat) ?_ (exactSL0_fuel ((N, D), D1, D2, o, i, want, (k0 : Int))) ((N, D), D1, D2, o, i, want, (k0 : Int))
    ⟨k0, o, rfl, by omega, hk0, by rw [hz]; simp, hos, ho⟩ (by show _ < _ + 1; omega)
  · rcases h with ⟨_, e, k, o', rfl, h1, h2, h3⟩ | ⟨o', e, h1, h2⟩
    · exact .inl ⟨o', k, e, h1, h2, h3⟩
    · exact .inr ⟨o', e, h1, h2⟩
  · rintro _ ⟨k, o', rfl, hk, hkl, hp, hs', hc⟩
    have hlen3 : ∀ t ∈ o', t.length ≤ 3 := fun t ht => by
      rcases List.mem_append.1 (hp.mem_iff.1 ht) with ht | ht
      · exact hol t ht
      · obtain ⟨y, hy, rfl⟩ := List.mem_map.1 ht
        have hy := hD y (List.take_subset _ _ (List.mem_filter.1 hy).1)
        rw [canonF_len (by rw [hda.len, hy.len]), hda.len]; exact hn
    have hge : ∀ y ∈ D2.drop k, want ≤ y.1 := fun y hy => f2 y (by
      rw [show k = k0 + (k - k0) by omega, ← List.drop_drop] at hy
      exact List.drop_subset _ _ hy)
    have hout : (∀ y ∈ D2.drop k, want < y.1) → o'.Perm (o ++ (D2.filter fun y => y.1 == want).map fun y => canonF d.2 y.2) := fun h => by
      rw [filter_take hs hkl h]; exact hp
    by_cases hlt : k < D2.length
    · by_cases hv : (D2[k]).1 = want
      · have hy := hD _ (List.getElem_mem hlt)
        have hcl : (canonF d.2 (D2[k]).2).length ≤ 3 := by rw [canonF_len (by rw [hda.len, hy.len]), hda.len]; exact hn
        obtain ⟨o2, e2, p2, s2⟩ := insertS_law (l := o') (t := canonF d.2 (D2[k]).2) (by omega) hlen3 hcl hs'
        have hp2 : o2.Perm (o ++ ((D2.take (k + 1)).filter fun y => y.1 == want).map fun y => canonF d.2 y.2) := by
          refine p2.trans ?_
          rw [List.take_add_one, List.getElem?_eq_getElem hlt, Option.toList_some, List.filter_append, List.map_append, ← List.append_assoc, show [D2[k]].filter (fun y => y.1 == want) = [D2[k]] by simp [hv]]
          exact hp.append_right _
        have est : exactSL0_step ((N, D), D1, D2, o', i, want, (k : Int)) = br (decide ((40 : Int) < (o2.length : Int))) (some (.ret o2)) (some (.next ((N, D), D1, D2, o2, i, want, ((k + 1 : Nat) : Int)))) := by
          unfold exactSL0_step
          dsimp only
          rw [br_t (by simp; omega), get_idx hlt, ob_s, br_t (by simpa using hv), hd, ob_s, ob_s, canonS_eq hn hda hy, ob_s, e2, ob_s, w64 (by omega) (by omega)]
          rfl
        by_cases h40 : 40 < o2.length
        · refine .inr (.inr ⟨o2, ?_, h40, ?_⟩)
          · rw [est, br_t (by simp; omega)]
          · rw [hp2.length_eq, List.length_append, List.length_append, List.length_map, List.length_map]
            have : ((D2.take (k + 1)).filter fun y => y.1 == want).length ≤ (D2.filter fun y => y.1 == want).length := ((List.take_sublist _ _).filter _).length_le
            omega
        · refine .inl ⟨((N, D), D1, D2, o2, i, want, ((k + 1 : Nat) : Int)), ?_, ⟨k + 1, o2, rfl, by omega, by omega, hp2, s2, by omega⟩, ?_⟩
          · rw [est, br_f (by simp; omega)]
          · show D2.length - ((k + 1 : Nat) : Int).toNat < D2.length - (k : Int).toNat
            omega
      · refine .inr (.inl ⟨((N, D), D1, D2, o', i, want, (k : Int)), ?_, k, o', rfl, hout fun y hy => ?_, hs', hc⟩)
        · unfold exactSL0_step
          dsimp only
          rw [br_t (by simp; omega), get_idx hlt, ob_s, br_f (by simpa using hv)]
        · have h0 := hge _ (drop_head hlt)
          rw [List.drop_eq_getElem_cons hlt] at hy
          rcases List.mem_cons.1 hy with rfl | hy
          · omega
          · have := asc_head hs hlt y hy; omega
    · refine .inr (.inl ⟨((N, D), D1, D2, o', i, want, (k : Int)), ?_, k, o', rfl, hout fun y hy => ?_, hs', hc⟩)
      · unfold exactSL0_step
        dsimp only
        rw [br_f (by simp; omega)]
      · rw [List.drop_eq_nil_of_le (by omega)] at hy; cases hy
theorem exactS_law (hx : LimOk x) (hN : r.1 ≠ 0) : ∃ o, exactS (r, x) = some o ∧ ((trainsOf r x).length ≤ 40 → o.Perm (trainsOf r x) ∧ ascT o) ∧ (40 < (trainsOf r x).length → 40 < o.length) := by
  obtain ⟨e, h3, h1⟩ := hx.stg
  obtain ⟨l1, l2⟩ := wh_len hx
  have a1 := hx.a1; have b1 := hx.b1
  have e1 := productsS_eq (lo := x.1) (hi := x.2.1) (by omega) hx.a3 hx.a4 h3
  have e2 := productsS_eq (lo := x.2.2.1) (hi := x.2.2.2.1) (by omega) hx.b3 hx.b4 h3
  rw [e] at e1 e2
  obtain ⟨D2, e3, p3, s3⟩ := sortPS_eq (l := (wh2 x).map pw) (by rw [List.length_map]; exact l2)
  have hD : ∀ y ∈ D2, ∃ b ∈ wh2 x, y = pw b := fun y hy => by
    obtain ⟨b, hb, rfl⟩ := List.mem_map.1 (p3.mem_iff.1 hy)
    exact ⟨b, hb, rfl⟩
  have hDl : D2.length ≤ 100000 := by rw [p3.length_eq, List.length_map]; exact l2
  have hg : ∀ (a : List Int) (want : Int), ((D2.filter fun y => y.1 == want).map fun y => canonF a y.2).Perm (((wh2 x).filter fun b => prodW b == want).map (canonF a)) := fun a want => by
    have := (p3.filter fun y => y.1 == want).map fun y => canonF a y.2
    rw [List.filter_map, List.map_map] at this
    exact this
  have h := iterA_end (step := exactSL_step) (fun s => ∃ (k : Nat) (o : List (List (Int × Int))), s = ((r.1, r.2), (wh1 x).map pw, D2, o, (k : Int)) ∧ k ≤ (wh1 x).length ∧ o.Perm (((wh1 x).take k).flatMap (tr1 r x)) ∧ ascT o ∧ o.length ≤ 40)
    (fun s => ∃ (k : Int) (o : List (List (Int × Int))), s = ((r.1, r.2), (wh1 x).map pw, D2, o, k) ∧ o.Perm (trainsOf r x) ∧ ascT o ∧ o.length ≤ 40)
    (fun o => 40 < o.length ∧ 40 < (trainsOf r x).length) (fun s => s.2.1.length - s.2.2.2.2.toNat) ?_ (exactSL_fuel ((r.1, r.2), (wh1 x).map pw, D2, [], 0)) ((r.1, r.2), (wh1 x).map pw, D2, [], 0)
    ⟨0, [], rfl, by omega, by simp, List.Pairwise.nil, by simp⟩ (by show ((wh1 x).map pw).length - (0 : Int).toNat < (((wh1 x).map pw).length - (0 : Int).toNat) + 1; omega)
  · have hrun : exactS (r, x) = ob (exactSL ((r.1, r.2), (wh1 x).map pw, D2, [], 0)) fun q => el q (fun q => some q.2.2.2.1) fun q => some q := by
      unfold exactS
      dsimp only
      rw [show productsS (x.1, x.2.1, x.2.2.2.2) = _ from e1, ob_s, show productsS (x.2.2.1, x.2.2.2.1, x.2.2.2.2) = _ from e2, ob_s]
      rw [show sortPS (List.map pw (wheels x.2.2.1 x.2.2.2.1 (stg x))) = _ from e3, ob_s]
      rfl
    rw [hrun]
    rcases h with ⟨_, e, k, o, rfl, h1, h2, h3⟩ | ⟨o, e, h1, h2⟩
    · rw [show exactSL ((r.1, r.2), (wh1 x).map pw, D2, [], 0) = _ from e]
      refine ⟨o, rfl, fun _ => ⟨h1, h2⟩, fun h => ?_⟩
      rw [← h1.length_eq] at h; omega
    · rw [show exactSL ((r.1, r.2), (wh1 x).map pw, D2, [], 0) = _ from e]
      exact ⟨o, rfl, fun h => by omega, fun _ => h1⟩
  · rintro _ ⟨k, o, rfl, hk, hp, hs, hc⟩
    have hol : ∀ t ∈ o, t.length ≤ 3 := fun t ht => by
      have ht := hp.mem_iff.1 ht
      obtain ⟨a, ha, ht⟩ := List.mem_flatMap.1 ht
      have := trains_len (r := r) hx (t := t) (List.mem_flatMap.2 ⟨a, List.take_subset _ _ ha, ht⟩)
      omega
    by_cases hlt : k < (wh1 x).length
    · have hi : idx ((wh1 x).map pw) (k : Int) = some (pw (wh1 x)[k]) := map_idx (get_idx hlt)
      have hw := wh1_is (List.getElem_mem hlt)
      have htk : (wh1 x).take (k + 1) = (wh1 x).take k ++ [(wh1 x)[k]] := by rw [List.take_add_one, List.getElem?_eq_getElem hlt, Option.toList_some]
      have hfl : ((wh1 x).take (k + 1)).flatMap (tr1 r x) = ((wh1 x).take k).flatMap (tr1 r x) ++ tr1 r x (wh1 x)[k] := by
        rw [htk, List.flatMap_append]; simp
      cases hcd : cd r.1 r.2 (prodW (wh1 x)[k]) with
      | true =>
        refine .inl ⟨((r.1, r.2), (wh1 x).map pw, D2, o, ((k + 1 : Nat) : Int)), ?_, ⟨k + 1, o, rfl, by omega, ?_, hs, hc⟩, ?_⟩
        · unfold exactSL_step
          dsimp only
          rw [br_t (by simp; omega), hi, ob_s, br_f (by simpa using hN), show ((IntKind.i64.wrap ((pw (wh1 x)[k]).1 * r.2)).tmod r.1 != 0) = cd r.1 r.2 (prodW (wh1 x)[k]) from rfl, br_t hcd, w64 (by omega) (by omega)]
          rfl
        · rw [hfl]
          have : tr1 r x (wh1 x)[k] = [] := by unfold tr1; rw [hcd, if_pos rfl]
          rw [this, List.append_nil]; exact hp
        · show ((wh1 x).map pw).length - ((k + 1 : Nat) : Int).toNat < ((wh1 x).map pw).length - (k : Int).toNat
          rw [List.length_map]; omega
      | false =>
        obtain ⟨k0, ek, hk0, f1, f2⟩ := firstS_eq hDl s3 (qd r.1 r.2 (prodW (wh1 x)[k]))
        have htr : (o ++ (D2.filter fun y => y.1 == qd r.1 r.2 (prodW (wh1 x)[k])).map fun y => canonF (pw (wh1 x)[k]).2 y.2).Perm (((wh1 x).take (k + 1)).flatMap (tr1 r x)) := by
          rw [hfl]
          refine hp.append ((hg _ _).trans ?_)
          unfold tr1
          rw [hcd, if_neg (by simp)]
          exact .refl _
        have hstep : exactSL_step ((r.1, r.2), (wh1 x).map pw, D2, o, (k : Int)) = ob (exactSL0 ((r.1, r.2), (wh1 x).map pw, D2, o, (k : Int), qd r.1 r.2 (prodW (wh1 x)[k]), (k0 : Int))) fun q => el q (fun q => some (.next ((q.1.1, q.1.2), q.2.1, q.2.2.1, q.2.2.2.1, IntKind.i64.wrap (q.2.2.2.2.1 + 1)))) fun q => some (.ret q) := by
          unfold exactSL_step
          dsimp only
          rw [br_t (by simp; omega), hi, ob_s, br_f (by simpa using hN), show ((IntKind.i64.wrap ((pw (wh1 x)[k]).1 * r.2)).tmod r.1 != 0) = cd r.1 r.2 (prodW (wh1 x)[k]) from rfl, br_f hcd, br_f (by simpa using hN)]
          rw [show IntKind.i64.wrap ((IntKind.i64.wrap ((pw (wh1 x)[k]).1 * r.2)).tdiv r.1) = qd r.1 r.2 (prodW (wh1 x)[k]) from rfl, ek, ob_s]
        rcases exactSL0_eq (N := r.1) (D := r.2) (lo' := x.2.2.1) (hi' := x.2.2.2.1) h3 hi hw (fun y hy => by obtain ⟨b, hb, rfl⟩ := hD y hy; exact wh2_is hb) s3 hDl hk0 f1 f2 hc hs hol with ⟨o', k', e, p', s', c'⟩ | ⟨o', e, c1, c2⟩
        · refine .inl ⟨((r.1, r.2), (wh1 x).map pw, D2, o', ((k + 1 : Nat) : Int)), ?_, ⟨k + 1, o', rfl, by omega, p'.trans htr, s', c'⟩, ?_⟩
          · rw [hstep, e, ob_s]
            unfold el
            dsimp only
            rw [w64 (by omega) (by omega)]
            rfl
          · show ((wh1 x).map pw).length - ((k + 1 : Nat) : Int).toNat < ((wh1 x).map pw).length - (k : Int).toNat
            rw [List.length_map]; omega
        · refine .inr (.inr ⟨o', ?_, c1, ?_⟩)
          · rw [hstep, e]; rfl
          · rw [htr.length_eq] at c2
            have : (((wh1 x).take (k + 1)).flatMap (tr1 r x)).length ≤ (trainsOf r x).length := by
              unfold trainsOf
              conv => rhs; rw [← List.take_append_drop (k + 1) (wh1 x), List.flatMap_append]
              rw [List.length_append]; omega
            omega
    · obtain rfl : k = (wh1 x).length := by omega
      refine .inr (.inl ⟨((r.1, r.2), (wh1 x).map pw, D2, o, ((wh1 x).length : Int)), ?_, _, o, rfl, ?_, hs, hc⟩)
      · unfold exactSL_step
        dsimp only
        rw [br_f (by simp)]
      · rw [List.take_length] at hp; exact hp
theorem exact_both (r : Int × Int) (x : Int × Int × Int × Int × Int) : ∃ v : List (List (Int × Int)) × Int, exactI (r, x) = some v ∧ exactTS (r, x) = some v ∧ v.1.length ≤ 40 ∧ ∀ t ∈ v.1, t.length ≤ 3 := by
  obtain ⟨vl, el, hvl⟩ := validLim_eq x
  have ea := askI_eq r el
  have hS : exactTS (r, x) = br (!vR r) (some ([], 1)) (br (!vl) (some ([], 1)) (br (!askB r) (some ([], 2)) (ob (exactS (r, x)) fun y => br (decide ((40 : Int) < (List.length y : Int))) (some ([], 5)) (some (y, 0))))) := by
    show ob (okRatS r) _ = _
    rw [okRatS_eq, ob_s]
    show br _ _ (ob (okLimS x) _) = _
    rw [okLim_eq, el, ob_s]
    show br _ _ (br _ _ (ob (askS r) _)) = _
    rw [askS_eq, ob_s]
  have hI : codeA r vl ≠ 0 → exactI (r, x) = some ([], codeA r vl) := fun h => by
    show ob (askI (r, x)) _ = _
    rw [ea, ob_s, br_t (by simpa using h)]
  rw [hS]
  unfold codeA at ea hI
  cases hv : vR r with
  | false =>
    rw [hv] at hI
    exact ⟨_, hI (by simp), rfl, by simp, by simp⟩
  | true =>
    rw [hv] at hI ea
    rw [Bool.not_true, br_f rfl]
    cases vl with
    | false => exact ⟨_, hI (by simp), rfl, by simp, by simp⟩
    | true =>
      rw [Bool.not_true, br_f rfl]
      cases hb : askB r with
      | false =>
        rw [hb] at hI
        exact ⟨_, hI (by simp), rfl, by simp, by simp⟩
      | true =>
        rw [hb] at ea
        rw [Bool.not_true, br_f rfl]
        have hx := hvl.1 rfl
        have hN : r.1 ≠ 0 := by
          unfold askB at hb
          simp at hb
          omega
        obtain ⟨T, hT, e1⟩ := exactI_law hx hN (by rw [ea]; rfl)
        obtain ⟨o, e2, h1, h2⟩ := exactS_law (r := r) hx hN
        rw [e1, e2, ob_s]
        by_cases h40 : T.length ≤ 40
        · rw [if_pos h40]
          obtain ⟨p, s⟩ := h1 (by rw [← hT.length_eq]; exact h40)
          have hl : o.length ≤ 40 := by rw [p.length_eq, ← hT.length_eq]; exact h40
          have e : T.mergeSort leT = o := sorted_one (((List.mergeSort_perm T leT).trans hT).trans p.symm) (leT_sorted T) s
          refine ⟨(o, 0), by rw [e], by rw [br_f (by simp; omega)], hl, fun t ht => ?_⟩
          have := trains_len hx (p.mem_iff.1 ht)
          have := hx.stg
          omega
        · rw [if_neg h40]
          have := h2 (by rw [← hT.length_eq]; omega)
          exact ⟨_, rfl, by rw [br_t (by simp; omega)], by simp, by simp⟩
end
end
end Rx
end Go.Proofs.Ythfgpnpoocepeaa
