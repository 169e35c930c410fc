/- Trains within the limits: canonical, valid, compared. No program in sight. -/
import Derived.Test.YthfgpnpoocepeaaGreatRxA2SeLaw
import Derived.Test.YthfgpnpoocepeaaGreatRxBestBoth
import Derived.Test.YthfgpnpoocepeaaGreatRxScan
import Derived.Test.YthfgpnpoocepeaaGreatRxEnv
import Derived.Test.YthfgpnpoocepeaaGreatRxSearch
import Derived.Test.YthfgpnpoocepeaaGreatRxBest
namespace Go.Proofs.YthfgpnpoocepeaaGreat
namespace Rx
open Go

noncomputable section
section
variable {r : Int × Int} {x : Int × Int × Int × Int × Int}
theorem ask_zero (h : Asked r x) (hv : vR r = true) : askI (r, x) = some 0 := by
  obtain ⟨v, e, hl⟩ := validLim_eq x
  have hv2 : v = true := hl.2 h.lim
  subst hv2
  have hb : askB r = true := by
    unfold askB
    have := h.n1; have := h.n2; have := h.d2
    simp; omega
  rw [askI_eq r e]
  unfold codeA
  rw [hv, hb]
  rfl
/-- The program's answer. -/
theorem bestTI_law (h : Asked r x) (hv : vR r = true) : ∃ (t : List (Int × Int)) (e : Int × Int) (c : Int), IsBest r x t ∧ errorI (t, r) = some (e, c) ∧ errorS (t, r) = some (e, c) ∧ bestTI (r, x) = br (c != 0) (some (([], 0, 0), c)) (some ((t, e.1, e.2), 0)) := by
  obtain ⟨t, e1, i1⟩ := bestI_eq h
  have hl := best_len h.lim i1
  have := h.lim.stg
  obtain ⟨v, e3, e4⟩ := error_both (l := t) (by omega) r
  refine ⟨t, v.1, v.2, i1, e3, e4, ?_⟩
  show ob (askI (r, x)) _ = _
  rw [ask_zero h hv, ob_s, br_f (by simp)]
  show ob (bestI (r, x)) _ = _
  rw [e1, ob_s]
  show ob (errorI (t, r)) _ = _
  rw [e3, ob_s]
theorem canonF_fst {a b : List Int} (h : a.length = b.length) : (canonF a b).map (·.1) = a.reverse := by
  unfold canonF
  exact List.map_fst_zip (by simp; omega)
theorem canonF_snd {a b : List Int} (h : a.length = b.length) : (canonF a b).map (·.2) = b := by
  unfold canonF
  exact List.map_snd_zip (by simp; omega)
theorem wh_same (hx : LimOk x) {a b : List Int} (ha : a ∈ wh1 x) (hb : b ∈ wh2 x) : a.length = b.length := by
  rw [(wh1_is ha).len, (wh2_is hb).len]
theorem canon_in (hx : LimOk x) {a b : List Int} (ha : a ∈ wh1 x) (hb : b ∈ wh2 x) : ∀ y ∈ canonF a b, inLim x y = true ∧ okP y = true := fun y hy => by
  have hs := wh_same hx ha hb
  have h1 : y.1 ∈ a := by
    have := List.mem_map_of_mem (f := (·.1)) hy
    rw [canonF_fst hs] at this
    exact List.mem_reverse.1 this
  have h2 : y.2 ∈ b := by
    have := List.mem_map_of_mem (f := (·.2)) hy
    rw [canonF_snd hs] at this
    exact this
  have b1 := (wh1_is ha).bd _ h1
  have b2 := (wh2_is hb).bd _ h2
  have q1 := hx.a1; have q3 := hx.a3; have q4 := hx.b1; have q6 := hx.b3
  unfold inLim okP
  simp
  omega
theorem inLim_ok (hx : LimOk x) {y : Int × Int} (h : inLim x y = true) : okP y = true := by
  have q1 := hx.a1; have q3 := hx.a3; have q4 := hx.b1; have q6 := hx.b3
  unfold inLim at h
  unfold okP
  simp at h ⊢
  omega
theorem canon_prod {a b : List Int} (h : a.length = b.length) : prodW ((canonF a b).map (·.1)) = prodW a ∧ prodW ((canonF a b).map (·.2)) = prodW b := by
  rw [canonF_fst h, canonF_snd h]
  exact ⟨prodW_perm (List.reverse_perm a), rfl⟩
theorem within_canon (hx : LimOk x) {t : List (Int × Int)} (hl : t.length = stg x) (hi : ∀ y ∈ t, inLim x y = true) : withinLimS (t, x) = some true := by
  obtain ⟨v, e, hv⟩ := validLim_eq x
  have hv2 : v = true := hv.2 hx
  subst hv2
  obtain ⟨hs, hs3, hs1⟩ := hx.stg
  obtain ⟨s', h3, h4⟩ := withinLimSL_eq (l := t) (by omega) x
  have hall : t.all (inLim x) = true := List.all_eq_true.2 hi
  have hok : (t.all okP && decide ((t.length : Int) ≤ 5)) = true := by
    rw [Bool.and_eq_true]
    exact ⟨List.all_eq_true.2 fun y hy => inLim_ok hx (hi y hy), by simp; omega⟩
  have e' : okLimS (x.1, x.2.1, x.2.2.1, x.2.2.2.1, x.2.2.2.2) = some true := by rw [okLim_eq]; exact e
  have h3' : withinLimSL (t, (x.1, x.2.1, x.2.2.1, x.2.2.2.1, x.2.2.2.2), false, 0) = some (t.all (inLim x), s') := h3
  unfold withinLimS
  dsimp only
  rw [e', ob_s, Bool.not_true, br_f rfl, okTrainS_eq (by omega), ob_s, hok, Bool.not_true, br_f rfl, br_f (by simp; omega), h3', ob_s, hall, br_t rfl]
theorem canonTS_eq (hx : LimOk x) {l : List (Int × Int)} (hl : l.length = stg x) (hi : ∀ y ∈ l, inLim x y = true) : ∃ a ∈ wh1 x, ∃ b ∈ wh2 x, canonTS l = some (canonF a b, 0) ∧ a.Perm (l.map (·.1)) ∧ b.Perm (l.map (·.2)) := by
  obtain ⟨hs, hs3, hs1⟩ := hx.stg
  have hok : (l.all okP && decide ((l.length : Int) ≤ 5)) = true := by
    rw [Bool.and_eq_true]
    exact ⟨List.all_eq_true.2 fun y hy => inLim_ok hx (hi y hy), by simp; omega⟩
  have hf := fold_loop (step := canonTL_step) (l := l) (fun k (s : List Int × List Int) => (l, s.1, s.2, k)) (fun s y => (s.1 ++ [y.1], s.2 ++ [y.2])) (fun k s => s.1.length ≤ k.toNat ∧ s.2.length ≤ k.toNat)
    (fun s => (l, s.1, s.2, (l.length : Int))) (fun k s y h0 h1 hy hJ => by
      refine ⟨?_, by simp; omega⟩
      unfold canonTL_step
      dsimp only
      rw [br_t (by simp; omega), hy, ob_s, br_t (by simp; omega), ob_s, br_t (by simp; omega), w64 (by omega) (by omega)]) (fun s hJ => by
      unfold canonTL_step
      dsimp only
      rw [br_f (by simp)]) (n := canonTL_fuel (l, [], [], 0)) (by show l.length < (l.length - (0 : Int).toNat) + 1; omega) (a0 := ([], [])) (by simp)
  have hfo : ∀ (l : List (Int × Int)) (s : List Int × List Int), l.foldl (fun s y => (s.1 ++ [y.1], s.2 ++ [y.2])) s = (s.1 ++ l.map (·.1), s.2 ++ l.map (·.2)) := by
    intro l
    induction l with
    | nil => intro s; simp
    | cons y l ih => intro s; rw [List.foldl_cons, ih]; simp
  have h1 := hf.1
  rw [hfo] at h1
  obtain ⟨a, b, e, ⟨pa, sa⟩, pb, sb⟩ := canonS_ex (a := l.map (·.1)) (b := l.map (·.2)) (by simp; omega) (by simp)
  have hin : ∀ y ∈ l, (x.1 ≤ y.1 ∧ y.1 ≤ x.2.1) ∧ x.2.2.1 ≤ y.2 ∧ y.2 ≤ x.2.2.2.1 := fun y hy => by
    have := hi y hy
    unfold inLim at this
    simp at this
    exact this
  refine ⟨a, wheels_of ⟨by rw [pa.length_eq, List.length_map]; exact hl, fun u hu => ?_, sa⟩, b, wheels_of ⟨by rw [pb.length_eq, List.length_map]; exact hl, fun u hu => ?_, sb⟩, ?_, pa, pb⟩
  · obtain ⟨y, hy, rfl⟩ := List.mem_map.1 (pa.mem_iff.1 hu)
    exact (hin y hy).1
  · obtain ⟨y, hy, rfl⟩ := List.mem_map.1 (pb.mem_iff.1 hu)
    exact (hin y hy).2
  · unfold canonTS
    rw [okTrainS_eq (by omega), ob_s, hok, Bool.not_true, br_f rfl, show canonTL (l, [], [], 0) = _ from h1, ob_s]
    dsimp only
    rw [show canonS6 ([] ++ l.map (·.1), [] ++ l.map (·.2)) = _ from e, ob_s]
theorem compI_eq (hx : LimOk x) {t u : List (Int × Int)} (ht : t.length = stg x) (hu : u.length = stg x) (h1 : ∀ y ∈ t, okP y = true) (h2 : ∀ y ∈ u, okP y = true) : compI (t, u) = some (cmpT t u) := by
  obtain ⟨hs, hs3, hs1⟩ := hx.stg
  have hv : ∀ l : List (Int × Int), l.length = stg x → (∀ y ∈ l, okP y = true) → validTrainI l = some true := fun l hl ho => by
    rw [validTrainI_eq (by omega), List.all_eq_true.2 ho]
    simp; omega
  unfold compI
  rw [hv _ ht h1, ob_s, Bool.not_true, br_f rfl, hv _ hu h2, ob_s, Bool.not_true, br_f rfl, show cmpTrI ((t, u).1, (t, u).2) = some (cmpT t u) from cmpTrI_eq (a := t) (b := u) (by omega) (by omega), ob_s]
end
end
end Rx
end Go.Proofs.YthfgpnpoocepeaaGreat

namespace Go.Proofs.YthfgpnpoocepeaaGreat
namespace Rx
open Go

noncomputable section
/-! ### No list comes twice -/
theorem nodup_flatMap' {α β : Type} {f : α → List β} : ∀ {l : List α}, l.Nodup → (∀ x ∈ l, (f x).Nodup) → (∀ x ∈ l, ∀ y ∈ l, ∀ z, z ∈ f x → z ∈ f y → x = y) → (l.flatMap f).Nodup
  | [], _, _, _ => List.nodup_nil
  | x :: l, hn, h1, h2 => by
    rw [List.flatMap_cons]
    have hn' := List.nodup_cons.1 hn
    refine List.nodup_append.2 ⟨h1 x (by simp), nodup_flatMap' hn'.2 (fun y hy => h1 y (by simp [hy])) (fun y hy z hz => h2 y (by simp [hy]) z (by simp [hz])), fun u hu v hv => ?_⟩
    rintro rfl
    obtain ⟨y, hy, hv⟩ := List.mem_flatMap.1 hv
    have := h2 x (by simp) y (by simp [hy]) u hu hv
    subst this
    exact hn'.1 hy
theorem nodup_map' {α β : Type} {f : α → β} : ∀ {l : List α}, l.Nodup → (∀ x ∈ l, ∀ y ∈ l, f x = f y → x = y) → (l.map f).Nodup
  | [], _, _ => List.nodup_nil
  | x :: l, hn, h => by
    have hn' := List.nodup_cons.1 hn
    rw [List.map_cons]
    refine List.nodup_cons.2 ⟨fun hm => ?_, nodup_map' hn'.2 fun y hy z hz => h y (by simp [hy]) z (by simp [hz])⟩
    obtain ⟨y, hy, e⟩ := List.mem_map.1 hm
    have := h y (by simp [hy]) x (by simp) e
    subst this
    exact hn'.1 hy
theorem rangeI_nodup (a b : Int) : (rangeI a b).Nodup :=
  nodup_map' List.nodup_range fun x _ y _ h => by have : a + (x : Int) = a + (y : Int) := h; omega
theorem wheels_nodup (lo hi : Int) : ∀ n, (wheels lo hi n).Nodup
  | 0 => by simp [wheels]
  | n + 1 => by
    refine nodup_flatMap' (wheels_nodup lo hi n) (fun l _ => nodup_map' (rangeI_nodup _ _) fun u _ v _ h => by simpa using h) fun l _ m _ z h1 h2 => ?_
    unfold nextW at h1 h2
    obtain ⟨u, _, rfl⟩ := List.mem_map.1 h1
    obtain ⟨v, _, e⟩ := List.mem_map.1 h2
    exact (List.append_inj' e (by simp)).1.symm
theorem canonF_inj {a b a' b' : List Int} (h : a.length = b.length) (h' : a'.length = b'.length) (e : canonF a b = canonF a' b') : a = a' ∧ b = b' := by
  have e1 : (canonF a b).map (·.1) = (canonF a' b').map (·.1) := by rw [e]
  have e2 : (canonF a b).map (·.2) = (canonF a' b').map (·.2) := by rw [e]
  rw [canonF_fst h, canonF_fst h'] at e1
  rw [canonF_snd h, canonF_snd h'] at e2
  exact ⟨List.reverse_inj.1 e1, e2⟩
section
variable {r : Int × Int} {x : Int × Int × Int × Int × Int}
theorem trains_nodup (hx : LimOk x) : (trainsOf r x).Nodup := by
  refine nodup_flatMap' (wheels_nodup _ _ _) (fun a ha => ?_) fun a ha a' ha' t h1 h2 => ?_
  · unfold tr1
    split
    · exact List.nodup_nil
    · refine nodup_map' ((wheels_nodup _ _ _).sublist List.filter_sublist) fun b hb b' hb' e => ?_
      exact (canonF_inj (wh_same hx ha (List.mem_filter.1 hb).1) (wh_same hx ha (List.mem_filter.1 hb').1) e).2
  · unfold tr1 at h1 h2
    split at h1
    · cases h1
    · split at h2
      · cases h2
      · obtain ⟨b, hb, rfl⟩ := List.mem_map.1 h1
        obtain ⟨b', hb', e⟩ := List.mem_map.1 h2
        exact (canonF_inj (wh_same hx ha' (List.mem_filter.1 hb').1) (wh_same hx ha (List.mem_filter.1 hb).1) e).1.symm
/-! ### The products have the ratio -/
theorem exact_iff (h : Asked r x) {a b : List Int} (ha : a ∈ wh1 x) (hb : b ∈ wh2 x) : (cd r.1 r.2 (prodW a) = false ∧ prodW b = qd r.1 r.2 (prodW a)) ↔ prodW a * r.2 = prodW b * r.1 := by
  have hx := h.lim
  have pa := wh1_bd hx ha; have pb := wh2_bd hx hb
  have n1 := h.n1; have d1 := h.d1
  have m1 := mul_bd (a := prodW a) (b := r.2) (by omega) (by omega) pa.2 h.d2
  have m2 := mul_bd (a := prodW b) (b := r.1) (by omega) (by omega) pb.2 h.n2
  have hw : IntKind.i64.wrap (prodW a * r.2) = prodW a * r.2 := w64 (by omega) (by omega)
  unfold cd qd
  rw [hw, Int.tmod_eq_emod_of_nonneg m1.1, Int.tdiv_eq_ediv_of_nonneg m1.1]
  have hle : prodW a * r.2 / r.1 ≤ prodW a * r.2 := Int.ediv_le_self _ m1.1
  have hge : 0 ≤ prodW a * r.2 / r.1 := Int.ediv_nonneg m1.1 (by omega)
  rw [w64 (x := prodW a * r.2 / r.1) (by omega) (by omega)]
  have hdm := Int.mul_ediv_add_emod (prodW a * r.2) r.1
  constructor
  · rintro ⟨h1, h2⟩
    have h0 : prodW a * r.2 % r.1 = 0 := by simpa using h1
    rw [h2, Int.mul_comm (prodW a * r.2 / r.1) r.1]
    omega
  · intro e
    have h0 : prodW a * r.2 % r.1 = 0 := by rw [e]; exact Int.mul_emod_left _ _
    refine ⟨by simpa using h0, ?_⟩
    rw [e]
    exact (Int.mul_ediv_cancel _ (by omega)).symm
theorem mem_trains_iff (h : Asked r x) {t : List (Int × Int)} : t ∈ trainsOf r x ↔ ∃ a ∈ wh1 x, ∃ b ∈ wh2 x, prodW a * r.2 = prodW b * r.1 ∧ t = canonF a b := by
  constructor
  · intro ht
    obtain ⟨a, ha, b, hb, h1, h2, rfl⟩ := mem_trains ht
    exact ⟨a, ha, b, hb, (exact_iff h ha hb).1 ⟨h1, h2⟩, rfl⟩
  · rintro ⟨a, ha, b, hb, e, rfl⟩
    obtain ⟨h1, h2⟩ := (exact_iff h ha hb).2 e
    refine List.mem_flatMap.2 ⟨a, ha, ?_⟩
    unfold tr1
    rw [h1, if_neg (by simp)]
    exact List.mem_map.2 ⟨b, List.mem_filter.2 ⟨hb, by simpa using h2⟩, rfl⟩
end
end
end Rx
end Go.Proofs.YthfgpnpoocepeaaGreat

namespace Go.Proofs.YthfgpnpoocepeaaGreat
namespace Rx
open Go

noncomputable section
theorem absN_nat (n : Int) : absN n = (n.natAbs : Int) := by unfold absN; split <;> omega
theorem absN_mul2 (a b : Int) : absN (a * b) = absN a * absN b := by
  rw [absN_nat, absN_nat, absN_nat, Int.natAbs_mul, Int.natCast_mul]
theorem mkR_less {n d : Int} {p : Int × Int} (hd : 0 < d) (h : mkR n d = some p) : absN p.1 ≤ absN n ∧ p.2 ≤ d ∧ 0 < p.2 := by
  obtain ⟨g, g1, e1, e2⟩ := mkR_parts hd h
  have hv := vR_bd (mkR_valid (by omega) h)
  refine ⟨?_, ?_, by omega⟩
  · rw [e1, absN_mul2]
    have h1 : absN g = g := by unfold absN; rw [if_neg (by omega)]
    have := Int.mul_le_mul_of_nonneg_right g1 (absN_nn p.1)
    rw [h1]; omega
  · have := Int.mul_le_mul_of_nonneg_right g1 (show 0 ≤ p.2 by omega)
    rw [e2]; omega
theorem pow120 {k : Nat} (h : k ≤ 3) : (120 : Int) ^ k ≤ 1728000 := by
  rcases (by omega : k = 0 ∨ k = 1 ∨ k = 2 ∨ k = 3) with rfl | rfl | rfl | rfl <;> decide
theorem train_code {t : List (Int × Int)} (hl : t.length ≤ 3) (h : ∀ y ∈ t, (6 ≤ y.1 ∧ y.1 ≤ 120) ∧ 6 ≤ y.2 ∧ y.2 ≤ 120) : ∃ r, trainRatI t = some (r, 0) := by
  obtain ⟨b, s', h1, h2, h3⟩ := iter_end (step := trainRatIL_step)
    (fun s => ∃ (r : Int × Int) (i : Nat), s = ((0, 0), 0, r, t, (t.length : Int), (i : Int)) ∧ vR r = true ∧ i ≤ t.length ∧ absN r.1 ≤ 120 ^ i ∧ r.2 ≤ 120 ^ i)
    (fun _ => True) (fun _ => False) (fun s => ((t.length : Int) - s.2.2.2.2.2).toNat) (by
    rintro s ⟨r, i, rfl, hr, hi, hn, hd⟩
    by_cases hlt : i < t.length
    · have hm : t[i] ∈ t := List.getElem_mem hlt
      have hidx : idx t (i : Int) = some t[i] := get_idx hlt
      generalize t[i] = y at hm hidx
      obtain ⟨b1, b2⟩ := h y hm
      have hw : IntKind.i64.wrap (0 - y.1) = -y.1 := by rw [w64 (by omega) (by omega), Int.zero_sub]
      obtain ⟨q, hk⟩ := mkR_some (n := -y.1) (d := y.2) (by omega) (by omega)
      obtain ⟨vq, _⟩ := val_mk (by omega) hk
      obtain ⟨l1, l2, l3⟩ := mkR_less (by omega) hk
      have e1 : makeRatI (-y.1, y.2) = some (q, 0) := by
        rw [makeRatI_eq ⟨by omega, by omega⟩ ⟨by omega, by omega⟩ (by omega)]
        unfold ratF; rw [hk]
      have e3 : mulRatI ((r.1, r.2), q.1, q.2) = some (ratF (r.1 * q.1) (r.2 * q.2)) := by
        have := mulRatI_eq r q
        rw [if_pos ⟨hr, vq⟩] at this; exact this
      have hrb := vR_bd hr
      have la : absN (-y.1) ≤ 120 := by unfold absN; split <;> omega
      have m1 : absN (r.1 * q.1) ≤ 120 ^ i * 120 := by
        rw [absN_mul2]
        exact (mul_bd (absN_nn _) (absN_nn _) hn (by omega)).2
      have m2 := mul_bd (a := r.2) (b := q.2) (A := 120 ^ i) (B := 120) (by omega) (by omega) hd (by omega)
      have m3 : 0 < r.2 * q.2 := Int.mul_pos (by omega) (by omega)
      rw [← Int.pow_succ] at m1 m2
      have hp := pow120 (k := i + 1) (by omega)
      have hab : -1728000 ≤ r.1 * q.1 ∧ r.1 * q.1 ≤ 1728000 := by
        unfold absN at m1
        split at m1 <;> omega
      obtain ⟨p, hp2⟩ := mkR_some (n := r.1 * q.1) (d := r.2 * q.2) ⟨by omega, by omega⟩ ⟨by omega, by omega⟩
      have er : ratF (r.1 * q.1) (r.2 * q.2) = (p, 0) := by unfold ratF; rw [hp2]
      obtain ⟨q1, q2, q3⟩ := mkR_less m3 hp2
      obtain ⟨vp, _⟩ := val_mk m3 hp2
      refine ⟨.next, ((0, 0), 0, p, t, (t.length : Int), ((i + 1 : Nat) : Int)), ?_, fun _ => ⟨⟨_, i + 1, rfl, vp, by omega, by omega, by omega⟩, ?_⟩, (fun e => by cases e), (fun e => by cases e)⟩
      · unfold trainRatIL_step
        dsimp only
        rw [br_t (by simp; omega), ob_v hidx, hw, ob_v e1, ob_v e3, er, br_f (by simp), w64 (x := (i : Int) + 1) (by omega) (by omega)]
        rfl
      · show ((t.length : Int) - ((i + 1 : Nat) : Int)).toNat < ((t.length : Int) - (i : Int)).toNat
        omega
    · refine ⟨.out, ((0, 0), 0, r, t, (t.length : Int), (i : Int)), ?_, (fun e => by cases e), (fun _ => trivial), (fun e => by cases e)⟩
      unfold trainRatIL_step
      dsimp only
      rw [br_f (by simp; omega)]) (((t.length : Int) - 0).toNat + 1) ((0, 0), 0, (1, 1), t, (t.length : Int), ((0 : Nat) : Int)) ⟨(1, 1), 0, rfl, v11, by omega, by decide, by decide⟩ (Nat.lt_succ_self _)
  have h1 : trainRatIL ((0, 0), 0, (1, 1), t, (t.length : Int), 0) = some (b, s') := h1
  unfold trainRatI
  rw [ob_v h1]
  cases b with
  | true => exact ⟨_, rfl⟩
  | false => exact (h3 rfl).elim
theorem ratF_none {d : Int} (hd : 0 < d) : ratF 0 d = ((0, 1), 0) := by
  have hg : (Int.gcd 0 d : Int) = d := by rw [Int.gcd_zero_left]; omega
  unfold ratF mkR
  dsimp only
  rw [hg]
  have h1 : mag 0 = 0 := rfl
  have h2 : mag d = d := by unfold mag; omega
  rw [h1, h2, Int.zero_ediv, Int.ediv_self (by omega)]
  simp
section
variable {r : Int × Int} {x : Int × Int × Int × Int × Int}
theorem error_exact (h : Asked r x) (hv : vR r = true) {a b : List Int} (ha : a ∈ wh1 x) (hb : b ∈ wh2 x) (e : prodW a * r.2 = prodW b * r.1) : errorI (canonF a b, r) = some ((0, 1), 0) := by
  have hx := h.lim
  have hs := wh_same hx ha hb
  have hin := canon_in hx ha hb
  have hl := canon_len hx ha hb
  obtain ⟨_, hs3, _⟩ := hx.stg
  have hrb := vR_bd hv
  have q1 := hx.a1; have q3 := hx.a3; have q4 := hx.b1; have q6 := hx.b3
  obtain ⟨own, e1⟩ := train_code (t := canonF a b) (by omega) fun y hy => by
    have := (hin y hy).1
    unfold inLim at this
    simp at this
    omega
  have hok : ∀ y ∈ canonF a b, okP y = true := fun y hy => (hin y hy).2
  obtain ⟨own', c, e2, hc, hval⟩ := train_val (t := canonF a b) (by omega) hok
  rw [e1] at e2
  obtain ⟨rfl, rfl⟩ : own = own' ∧ 0 = c := by
    injection e2 with e2
    exact Prod.mk.inj e2
  obtain ⟨v1, v2⟩ := hval rfl
  have hov := own_val hok v1 v2
  rw [(canon_prod hs).1, (canon_prod hs).2] at hov
  have hob := vR_bd v1
  have pb := wh2_bd hx hb
  have hzero : absN own.1 * r.2 - r.1 * own.2 = 0 := by
    have h1 : prodW b * (absN own.1 * r.2) = prodW b * (r.1 * own.2) := by
      have : prodW b * (absN own.1 * r.2) = absN own.1 * prodW b * r.2 := by grind
      rw [this, hov]
      have : prodW a * own.2 * r.2 = prodW a * r.2 * own.2 := by grind
      rw [this, e]
      grind
    have := Int.eq_of_mul_eq_mul_left (by omega) h1
    omega
  have hall : ((canonF a b).all okP && decide (((canonF a b).length : Int) ≤ 5)) = true := by
    rw [Bool.and_eq_true]
    exact ⟨List.all_eq_true.2 hok, by simp; omega⟩
  have hsub : subRatI ((absN own.1, own.2), r.1, r.2) = some ((0, 1), 0) := by
    have := subRatI_eq (absN own.1, own.2) r
    rw [if_pos ⟨vR_abs v1, hv⟩, hzero, ratF_none (Int.mul_pos (by omega) (by omega))] at this
    exact this
  unfold errorI
  dsimp only
  rw [validTrainI_eq (by omega), ob_s, hall, Bool.not_true, br_f rfl, show validRatI (r.1, r.2) = some (vR r) from validRatI_eq r, ob_s, hv, Bool.not_true, br_f rfl]
  have hd : diffI (canonF a b, r.1, r.2) = some ((0, 1), 0) := by
    unfold diffI
    dsimp only
    rw [e1, ob_s, br_f (by simp), show absI own.1 = some (absN own.1) from absI_w (by omega) (by omega), ob_s, hsub, ob_s]
  rw [hd, ob_s]
  rfl
end
end
end Rx
end Go.Proofs.YthfgpnpoocepeaaGreat

namespace Go.Proofs.YthfgpnpoocepeaaGreat
namespace Rx
open Go

noncomputable section
theorem lexF_three : ∀ (x y : List Int), lexF x y = -1 ∨ lexF x y = 0 ∨ lexF x y = 1
  | [], [] => .inr (.inl rfl)
  | [], b :: y => by
    have h : lexF [] (b :: y) = cmpF (([] : List Int).length : Int) ((b :: y).length : Int) := rfl
    rw [h]; exact cmpF_three _ _
  | a :: x, [] => by
    have h : lexF (a :: x) [] = cmpF ((a :: x).length : Int) (([] : List Int).length : Int) := rfl
    rw [h]; exact cmpF_three _ _
  | a :: x, b :: y => by
    rw [lexF_cons]
    split
    · exact cmpF_three a b
    · exact lexF_three x y
theorem cmpT_less {a b : List (Int × Int)} (h : leT a b = true) (hne : a ≠ b) : cmpT a b = -1 := by
  rcases lexF_three (trKey a) (trKey b) with h1 | h1 | h1
  · exact h1
  · exact absurd (cmpT_eq h1) hne
  · rw [leT_iff, ← cmpT_gt] at h
    exact absurd (show 0 < cmpT a b by unfold cmpT; omega) h
section
variable {r : Int × Int} {x : Int × Int × Int × Int × Int}
theorem far_zero {N D p q : Int} : farQ N D p q = 0 ↔ p * D = q * N := by
  unfold farQ absN
  split <;> omega
theorem far_nn (N D p q : Int) : 0 ≤ farQ N D p q := absN_nn _
/-- Where there are exact trains, the best one is the first of them. -/
theorem best_exact (h : Asked r x) (hv : vR r = true) {t : List (Int × Int)} (hB : IsBest r x t) {L : List (List (Int × Int))} (hp : L.Perm (trainsOf r x)) (hs : ascT L) (hne : L ≠ []) : errorI (t, r) = some ((0, 1), 0) ∧ L[0]? = some t := by
  have hx := h.lim
  obtain ⟨a, ha, b, hb, rfl, hbest⟩ := hB
  obtain ⟨u, hu⟩ := List.exists_mem_of_ne_nil _ hne
  obtain ⟨a1, ha1, b1, hb1, e1, _⟩ := (mem_trains_iff h).1 (hp.mem_iff.1 hu)
  have pb := wh2_bd hx hb
  have f1 := far_zero.2 e1
  have hf : farQ r.1 r.2 (prodW a) (prodW b) = 0 := by
    have pb1 := wh2_bd hx hb1
    have h0 := far_nn r.1 r.2 (prodW a) (prodW b)
    have hle : farQ r.1 r.2 (prodW a) (prodW b) * prodW b1 ≤ 0 := by
      rcases hbest a1 ha1 b1 hb1 with h | ⟨h, _⟩ <;> (rw [f1, Int.zero_mul] at h; omega)
    by_cases hz : farQ r.1 r.2 (prodW a) (prodW b) = 0
    · exact hz
    · have := Int.mul_pos (show 0 < farQ r.1 r.2 (prodW a) (prodW b) by omega) (show 0 < prodW b1 by omega)
      omega
  have hex := far_zero.1 hf
  refine ⟨error_exact h hv ha hb hex, ?_⟩
  have hm : canonF a b ∈ L := hp.mem_iff.2 ((mem_trains_iff h).2 ⟨a, ha, b, hb, hex, rfl⟩)
  cases L with
  | nil => exact absurd rfl hne
  | cons v L =>
    have hvm : v ∈ trainsOf r x := hp.mem_iff.1 (by simp)
    obtain ⟨a2, ha2, b2, hb2, e2, rfl⟩ := (mem_trains_iff h).1 hvm
    have h1 : leT (canonF a b) (canonF a2 b2) = true := by
      rcases hbest a2 ha2 b2 hb2 with h | ⟨_, h⟩
      · rw [hf, far_zero.2 e2] at h; omega
      · exact h
    have h2 : leT (canonF a2 b2) (canonF a b) = true := by
      rcases List.mem_cons.1 hm with h | h
      · rw [h]; have := leT_total (canonF a2 b2) (canonF a2 b2); simpa using this
      · exact (List.pairwise_cons.1 hs).1 _ h
    simp [leT_anti h1 h2]
/-- Where there is none, the best train's error is more than nothing. -/
theorem best_off (h : Asked r x) (hv : vR r = true) {t : List (Int × Int)} (hB : IsBest r x t) (hno : trainsOf r x = []) : ∃ e c, errorI (t, r) = some (e, c) ∧ (c = 2 ∨ (c = 0 ∧ 0 < e.1)) := by
  have hx := h.lim
  obtain ⟨a, ha, b, hb, rfl, _⟩ := hB
  have hs := wh_same hx ha hb
  have hl := canon_len hx ha hb
  obtain ⟨_, hs3, _⟩ := hx.stg
  obtain ⟨e, c, e1, hc, hval⟩ := error_val (l := canonF a b) (r := r) (by omega) (fun y hy => (canon_in hx ha hb y hy).2) hv
  refine ⟨e, c, e1, ?_⟩
  rcases hc with rfl | rfl
  · right
    obtain ⟨ve, e0, eq⟩ := hval rfl
    rw [(canon_prod hs).1, (canon_prod hs).2] at eq
    refine ⟨rfl, ?_⟩
    have hb2 := vR_bd ve
    have hfar : 0 < farQ r.1 r.2 (prodW a) (prodW b) := by
      have h0 := far_nn r.1 r.2 (prodW a) (prodW b)
      by_cases hz : farQ r.1 r.2 (prodW a) (prodW b) = 0
      · have := (mem_trains_iff h).2 ⟨a, ha, b, hb, far_zero.1 hz, rfl⟩
        rw [hno] at this
        cases this
      · omega
    have hpos := Int.mul_pos hfar (show 0 < e.2 by omega)
    by_cases hz : e.1 = 0
    · rw [hz, Int.zero_mul] at eq; omega
    · omega
  · exact .inl rfl
/-- The list of exact trains that is told. -/
theorem told (h : Asked r x) (hv : vR r = true) : (exactI (r, x) = some ([], 5)) ∨ ∃ L, exactI (r, x) = some (L, 0) ∧ L.Perm (trainsOf r x) ∧ ascT L ∧ L.length ≤ 40 := by
  obtain ⟨T, hT, e⟩ := exactI_law h.lim (by have := h.n1; omega) (ask_zero h hv)
  by_cases h40 : T.length ≤ 40
  · rw [if_pos h40] at e
    exact .inr ⟨_, e, (List.mergeSort_perm T leT).trans hT, leT_sorted T, by rw [(List.mergeSort_perm T leT).length_eq]; exact h40⟩
  · rw [if_neg h40] at e
    exact .inl e
end
end
end Rx
end Go.Proofs.YthfgpnpoocepeaaGreat

namespace Go.Proofs.YthfgpnpoocepeaaGreat
namespace Rx
open Go

noncomputable section
def sameTrQ_vars : Vars := [(0, .val (.slice (.pair (i64) (i64)))), (1, .val (.slice (.pair (i64) (i64)))), (4, .val (.bool)), (5, .val (i64))]
def sameTrQ_step : List ((Int × Int)) × List ((Int × Int)) × Bool × Int → Option (LRes × (List ((Int × Int)) × List ((Int × Int)) × Bool × Int)) :=
fun x =>
  br (decide (x.snd.snd.2 < (↑x.1.length : Int)))
    (ob (idx x.1 x.snd.snd.2) fun y =>
      ob (idx x.snd.1 x.snd.snd.2) fun y_1 =>
        br (!(y.1 == y_1.1 && y.2 == y_1.2)) (some (LRes.ret, x.1, x.snd.1, false, x.snd.snd.2))
          (some (LRes.next, x.1, x.snd.1, x.snd.snd.1, IntKind.i64.wrap (x.snd.snd.2 + (1 : Int)))))
    (some (LRes.out, x.1, x.snd.1, x.snd.snd.1, x.snd.snd.2))
def sameTrQ_fuel : List ((Int × Int)) × List ((Int × Int)) × Bool × Int → Nat := fun s => (s.1.length - s.2.2.2.toNat) + 1
def sameTrQ : List ((Int × Int)) × List ((Int × Int)) × Bool × Int → Option (Bool × (List ((Int × Int)) × List ((Int × Int)) × Bool × Int)) := fun s => iter sameTrQ_step (sameTrQ_fuel s) s
def sameTrQ_L : LoopC := ⟨sameTrQ_vars, 0, .two sameTrQ⟩
noncomputable def sameTrQ_key : Nat := key (loopAt Tryz.f36 0)
theorem sameTrQ_stepok (x : sameTrQ_vars.den) : stepOf (mkEnv [] []) Tryz.f36.ntmps sameTrQ_vars 0 (loopAt Tryz.f36 0) x = sameTrQ_step x := by kernel_rfl
theorem sameTrQ_ok : LoopOK Tryz.prog Tryz.f36.ntmps sameTrQ_L (loopAt Tryz.f36 0)   := iter_loop (n := Tryz.f36.ntmps) (vs := sameTrQ_vars) (out := 0) (body := loopAt Tryz.f36 0) (mkEnv_ok (cons := []) trivial []) sameTrQ_step sameTrQ_fuel (by exact trivial) sameTrQ_stepok

def sameTQ : List ((Int × Int)) × List ((Int × Int)) → Option (Bool) :=
fun x =>
  br ((↑x.1.length : Int) != (↑x.2.length : Int)) (some false)
    (ob (sameTrQ (x.1, x.2, false, (0 : Int))) fun r => br r.1 (some true) (some r.snd.snd.snd.1))
def sameTQ_con : Con := ⟨[.slice (.pair (i64) (i64)), .slice (.pair (i64) (i64))], [.d (.bool)], sameTQ⟩
theorem sameTQ_run (x : Dens [.slice (.pair (i64) (i64)), .slice (.pair (i64) (i64))]) : runFn (mkEnv [] [(sameTrQ_key, sameTrQ_L)]) Tryz.f36 [.slice (.pair (i64) (i64)), .slice (.pair (i64) (i64))] [.d (.bool)] x = sameTQ x := by kernel_rfl
theorem sameTQ_ok : sameTQ_con.ok Tryz.prog 36 := fn_ok (con := sameTQ_con) (mkEnv_ok (cons := []) trivial [(sameTrQ_key, sameTrQ_L)]) Tryz.func36 rfl (by kernel_rfl) (by exact ⟨sameTrQ_ok, trivial⟩) (fun x y h => (sameTQ_run x).trans h)

def sameTrainQ : List ((Int × Int)) × List ((Int × Int)) → Option (Bool) :=
fun x => ob (sameTQ (x.1, x.2)) fun y => some y
def sameTrainQ_con : Con := ⟨[.slice (.pair (i64) (i64)), .slice (.pair (i64) (i64))], [.d (.bool)], sameTrainQ⟩
theorem sameTrainQ_run (x : Dens [.slice (.pair (i64) (i64)), .slice (.pair (i64) (i64))]) : runFn (mkEnv [(36, sameTQ_con)] []) Tryz.f10 [.slice (.pair (i64) (i64)), .slice (.pair (i64) (i64))] [.d (.bool)] x = sameTrainQ x := by kernel_rfl
theorem sameTrainQ_ok : sameTrainQ_con.ok Tryz.prog 10 := fn_ok (con := sameTrainQ_con) (mkEnv_ok (cons := [(36, sameTQ_con)]) ⟨sameTQ_ok, trivial⟩ []) Tryz.func10 rfl (by kernel_rfl) (by exact trivial) (fun x y h => (sameTrainQ_run x).trans h)

def fnExL_vars : Vars := [(2, .val (.bool)), (3, .box 0 25 (.pair (i64) (.pair (i64) (.pair (i64) (.pair (i64) (i64)))))), (4, .box 0 27 (.pair (i64) (i64))), (6, .val (.slice (.slice (.pair (i64) (i64))))), (8, .val (i64))]
def fnExL_step : Bool × (Int × Int × Int × Int × Int) × (Int × Int) × List (List ((Int × Int))) × Int → Option (LRes × (Bool × (Int × Int × Int × Int × Int) × (Int × Int) × List (List ((Int × Int))) × Int)) :=
fun x =>
  br (decide (x.snd.snd.snd.2 < (↑(List.length x.snd.snd.snd.1) : Int)))
    (ob (idx x.snd.snd.snd.1 x.snd.snd.snd.2) fun y =>
      ob (errorS (y, x.snd.snd.fst.1, x.snd.snd.fst.2)) fun y =>
        ob (idx x.snd.snd.snd.1 x.snd.snd.snd.2) fun y_1 =>
          ob (canonTS y_1) fun y_2 =>
            br (y.2 != (0 : Int))
              (some
                (LRes.ret, false,
                  (x.snd.fst.1, x.snd.fst.snd.1, x.snd.fst.snd.snd.1, x.snd.fst.snd.snd.snd.1, x.snd.fst.snd.snd.snd.2),
                  (x.snd.snd.fst.1, x.snd.snd.fst.2), x.snd.snd.snd.1, x.snd.snd.snd.2))
              (br (y.fst.1 != (0 : Int))
                (some
                  (LRes.ret, false,
                    (x.snd.fst.1, x.snd.fst.snd.1, x.snd.fst.snd.snd.1, x.snd.fst.snd.snd.snd.1,
                      x.snd.fst.snd.snd.snd.2),
                    (x.snd.snd.fst.1, x.snd.snd.fst.2), x.snd.snd.snd.1, x.snd.snd.snd.2))
                (br (y_2.2 != (0 : Int))
                  (some
                    (LRes.ret, false,
                      (x.snd.fst.1, x.snd.fst.snd.1, x.snd.fst.snd.snd.1, x.snd.fst.snd.snd.snd.1,
                        x.snd.fst.snd.snd.snd.2),
                      (x.snd.snd.fst.1, x.snd.snd.fst.2), x.snd.snd.snd.1, x.snd.snd.snd.2))
                  (ob (idx x.snd.snd.snd.1 x.snd.snd.snd.2) fun y =>
                    ob (sameTrainQ (y_2.1, y)) fun y =>
                      br (!y)
                        (some
                          (LRes.ret, false,
                            (x.snd.fst.1, x.snd.fst.snd.1, x.snd.fst.snd.snd.1, x.snd.fst.snd.snd.snd.1,
                              x.snd.fst.snd.snd.snd.2),
                            (x.snd.snd.fst.1, x.snd.snd.fst.2), x.snd.snd.snd.1, x.snd.snd.snd.2))
                        (ob (idx x.snd.snd.snd.1 x.snd.snd.snd.2) fun y =>
                          ob
                            (withinLimS
                              (y, x.snd.fst.1, x.snd.fst.snd.1, x.snd.fst.snd.snd.1, x.snd.fst.snd.snd.snd.1,
                                x.snd.fst.snd.snd.snd.2))
                            fun y =>
                            br (!y)
                              (some
                                (LRes.ret, false,
                                  (x.snd.fst.1, x.snd.fst.snd.1, x.snd.fst.snd.snd.1, x.snd.fst.snd.snd.snd.1,
                                    x.snd.fst.snd.snd.snd.2),
                                  (x.snd.snd.fst.1, x.snd.snd.fst.2), x.snd.snd.snd.1, x.snd.snd.snd.2))
                              (br (decide ((0 : Int) < x.snd.snd.snd.2))
                                (ob (idx x.snd.snd.snd.1 (IntKind.i64.wrap (x.snd.snd.snd.2 - (1 : Int)))) fun y =>
                                  ob (idx x.snd.snd.snd.1 x.snd.snd.snd.2) fun y_3 =>
                                    ob (compI (y, y_3)) fun y =>
                                      br (y != (-1 : Int))
                                        (some
                                          (LRes.ret, false,
                                            (x.snd.fst.1, x.snd.fst.snd.1, x.snd.fst.snd.snd.1, x.snd.fst.snd.snd.snd.1,
                                              x.snd.fst.snd.snd.snd.2),
                                            (x.snd.snd.fst.1, x.snd.snd.fst.2), x.snd.snd.snd.1, x.snd.snd.snd.2))
                                        (some
                                          (LRes.next, x.1,
                                            (x.snd.fst.1, x.snd.fst.snd.1, x.snd.fst.snd.snd.1, x.snd.fst.snd.snd.snd.1,
                                              x.snd.fst.snd.snd.snd.2),
                                            (x.snd.snd.fst.1, x.snd.snd.fst.2), x.snd.snd.snd.1,
                                            IntKind.i64.wrap (x.snd.snd.snd.2 + (1 : Int)))))
                                (some
                                  (LRes.next, x.1,
                                    (x.snd.fst.1, x.snd.fst.snd.1, x.snd.fst.snd.snd.1, x.snd.fst.snd.snd.snd.1,
                                      x.snd.fst.snd.snd.snd.2),
                                    (x.snd.snd.fst.1, x.snd.snd.fst.2), x.snd.snd.snd.1,
                                    IntKind.i64.wrap (x.snd.snd.snd.2 + (1 : Int))))))))))
    (some
      (LRes.out, x.1,
        (x.snd.fst.1, x.snd.fst.snd.1, x.snd.fst.snd.snd.1, x.snd.fst.snd.snd.snd.1, x.snd.fst.snd.snd.snd.2),
        (x.snd.snd.fst.1, x.snd.snd.fst.2), x.snd.snd.snd.1, x.snd.snd.snd.2))
def fnExL_fuel : Bool × (Int × Int × Int × Int × Int) × (Int × Int) × List (List ((Int × Int))) × Int → Nat := fun s => (s.2.2.2.1.length - s.2.2.2.2.toNat) + 1
def fnExL : Bool × (Int × Int × Int × Int × Int) × (Int × Int) × List (List ((Int × Int))) × Int → Option (Bool × (Bool × (Int × Int × Int × Int × Int) × (Int × Int) × List (List ((Int × Int))) × Int)) := fun s => iter fnExL_step (fnExL_fuel s) s
def fnExL_L : LoopC := ⟨fnExL_vars, 0, .two fnExL⟩
noncomputable def fnExL_key : Nat := key (loopAt Tryz.f3 0)
theorem fnExL_stepok (x : fnExL_vars.den) : stepOf (mkEnv [(8, errorS_con), (9, canonTS_con), (10, sameTrainQ_con), (11, withinLimS_con), (12, compI_con)] []) Tryz.f3.ntmps fnExL_vars 0 (loopAt Tryz.f3 0) x = fnExL_step x := by kernel_rfl
theorem fnExL_ok : LoopOK Tryz.prog Tryz.f3.ntmps fnExL_L (loopAt Tryz.f3 0)   := iter_loop (n := Tryz.f3.ntmps) (vs := fnExL_vars) (out := 0) (body := loopAt Tryz.f3 0) (mkEnv_ok (cons := [(8, errorS_con), (9, canonTS_con), (10, sameTrainQ_con), (11, withinLimS_con), (12, compI_con)]) ⟨errorS_ok, canonTS_ok, sameTrainQ_ok, withinLimS_ok, compI_ok, trivial⟩ []) fnExL_step fnExL_fuel (by exact trivial) fnExL_stepok

def fnExact : List (Int) → Option (Bool) :=
fun x =>
  ob (a2LongQ (x, [])) fun y =>
    br y (some true)
      (ob (a2SeQ x) fun y =>
        ob
          (exactI
            ((y.snd.fst.1, y.snd.fst.2), y.fst.1, y.fst.snd.1, y.fst.snd.snd.1, y.fst.snd.snd.snd.1,
              y.fst.snd.snd.snd.2))
          fun y_1 =>
          br (y_1.2 != (0 : Int)) (some (y_1.2 == (5 : Int)))
            (ob
              (fnExL
                (false, (y.fst.1, y.fst.snd.1, y.fst.snd.snd.1, y.fst.snd.snd.snd.1, y.fst.snd.snd.snd.2),
                  (y.snd.fst.1, y.snd.fst.2), y_1.1, (0 : Int)))
              fun r =>
              br r.1
                (ob
                  (bestTI
                    ((r.snd.snd.snd.fst.1, r.snd.snd.snd.fst.2), r.snd.snd.fst.1, r.snd.snd.fst.snd.1,
                      r.snd.snd.fst.snd.snd.1, r.snd.snd.fst.snd.snd.snd.1, r.snd.snd.fst.snd.snd.snd.2))
                  fun y =>
                  br (decide ((0 : Int) < (↑(List.length r.snd.snd.snd.snd.1) : Int)))
                    (br (y.2 == (0 : Int))
                      (br (y.fst.snd.1 == (0 : Int))
                        (ob (idx r.snd.snd.snd.snd.1 (0 : Int)) fun y_2 =>
                          ob (sameTrainQ (y.fst.1, y_2)) fun y => some y)
                        (some false))
                      (some false))
                    (br (y.2 == (2 : Int)) (some true)
                      (br (y.2 == (0 : Int)) (some (decide ((0 : Int) < y.fst.snd.1))) (some false))))
                (some r.snd.1)))
def fnExact_con : Con := ⟨[.slice (.int .u8)], [.d (.bool)], fnExact⟩
theorem fnExact_run (x : Dens [.slice (.int .u8)]) : runFn (frzE [(7, [6])] (deepE [(28, .row 64 (.pair (i64) (i64)))] (mkEnv [(5, a2LongQ_con), (6, a2SeQ_con), (7, exactI_con), (13, bestTI_con), (10, sameTrainQ_con)] [(fnExL_key, fnExL_L)]))) Tryz.f3 [.slice (.int .u8)] [.d (.bool)] x = fnExact x := by kernel_rfl
theorem fnExact_ok : fnExact_con.ok Tryz.prog 3 := fn_ok (con := fnExact_con) (frzE_ok (f := [(7, [6])]) (deepE_ok (d := [(28, .row 64 (.pair (i64) (i64)))]) (mkEnv_ok (cons := [(5, a2LongQ_con), (6, a2SeQ_con), (7, exactI_con), (13, bestTI_con), (10, sameTrainQ_con)]) ⟨a2LongQ_ok, a2SeQ_ok, exactI_ok, bestTI_ok, sameTrainQ_ok, trivial⟩ [(fnExL_key, fnExL_L)]))) Tryz.func3 rfl (by kernel_rfl) (by exact ⟨fnExL_ok, trivial⟩) (fun x y h => (fnExact_run x).trans h)

end
end Rx
end Go.Proofs.YthfgpnpoocepeaaGreat

namespace Go.Proofs.YthfgpnpoocepeaaGreat
namespace Rx
open Go

noncomputable section
theorem sameQ_self {l : List (Int × Int)} (hl : l.length ≤ 4294967296) : sameTrainQ (l, l) = some true := by
  obtain ⟨i', h⟩ := eq_loop (step := sameTrQ_step) hl (fun i b y h0 h1 hy => by
    unfold sameTrQ_step
    dsimp only
    rw [br_t (by simpa using h1), hy, ob_s, ob_s, br_f (by simp), w64 (by omega) (by omega)]) (fun i b h => by
    unfold sameTrQ_step
    dsimp only
    rw [br_f (by simpa using h)]) false
  have h' : sameTrQ (l, l, false, 0) = some (true, (l, l, false, i')) := h
  have hs : sameTQ (l, l) = some true := by
    unfold sameTQ
    rw [br_f (by simp), show sameTrQ ((l, l).1, (l, l).2, false, (0 : Int)) = _ from h', ob_s]
    rfl
  unfold sameTrainQ
  rw [show sameTQ ((l, l).1, (l, l).2) = _ from hs, ob_s]
section
variable {r : Int × Int} {x : Int × Int × Int × Int × Int}
theorem canon_self (hx : LimOk x) {a b : List Int} (ha : a ∈ wh1 x) (hb : b ∈ wh2 x) : canonTS (canonF a b) = some (canonF a b, 0) := by
  obtain ⟨a', ha', b', hb', e, pa, pb⟩ := canonTS_eq hx (canon_len hx ha hb) fun y hy => (canon_in hx ha hb y hy).1
  have hs := wh_same hx ha hb
  rw [canonF_fst hs] at pa
  rw [canonF_snd hs] at pb
  rw [sorted_eq (pa.trans (List.reverse_perm a)) (wh1_is ha').asc (wh1_is ha).asc, sorted_eq pb (wh2_is hb').asc (wh2_is hb).asc] at e
  exact e
theorem fnExL_law (h : Asked r x) (hv : vR r = true) {L : List (List (Int × Int))} (hp : L.Perm (trainsOf r x)) (hs : ascT L) (hl : L.length ≤ 40) : fnExL (false, x, r, L, 0) = some (true, (false, x, r, L, (L.length : Int))) := by
  have hx := h.lim
  obtain ⟨_, hs3, _⟩ := hx.stg
  have hnd : L.Nodup := hp.nodup_iff.2 (trains_nodup hx)
  obtain ⟨b, s', h1, h2, h3⟩ := iter_end (step := fnExL_step) (fun s => ∃ k : Nat, s = (false, x, r, L, (k : Int)) ∧ k ≤ L.length) (fun s => s = (false, x, r, L, (L.length : Int))) (fun _ => False) (fun s => (L.length - s.2.2.2.2.toNat)) (by
    rintro s ⟨k, rfl, hk⟩
    by_cases hlt : k < L.length
    · have hm : L[k] ∈ trainsOf r x := hp.mem_iff.1 (List.getElem_mem hlt)
      have hidx : idx L (k : Int) = some L[k] := get_idx hlt
      obtain ⟨a, ha, b, hb, e, et⟩ := (mem_trains_iff h).1 hm
      have hal := canon_len hx ha hb
      have hai := canon_in hx ha hb
      obtain ⟨v, v1, v2⟩ := error_both (l := canonF a b) (by omega) r
      have eS : errorS (canonF a b, r) = some ((0, 1), 0) := by rw [v2, ← v1]; exact error_exact h hv ha hb e
      refine ⟨.next, (false, x, r, L, ((k + 1 : Nat) : Int)), ?_, fun _ => ⟨⟨k + 1, rfl, by omega⟩, ?_⟩, (fun e => by cases e), (fun e => by cases e)⟩
      · unfold fnExL_step
        dsimp only
        rw [br_t (by simp; omega), hidx, ob_s, et, show errorS (canonF a b, r.1, r.2) = _ from eS, ob_s, ob_s, canon_self hx ha hb, ob_s, br_f (by simp), br_f (by simp), br_f (by simp), ob_s]
        rw [show sameTrainQ ((canonF a b, (0 : Int)).1, canonF a b) = some true from sameQ_self (l := canonF a b) (by omega), ob_s, Bool.not_true, br_f rfl, ob_s]
        rw [show withinLimS (canonF a b, x.1, x.2.1, x.2.2.1, x.2.2.2.1, x.2.2.2.2) = some true from within_canon hx hal fun y hy => (hai y hy).1, ob_s, Bool.not_true, br_f rfl, w64 (x := (k : Int) + 1) (by omega) (by omega)]
        by_cases hk0 : 0 < k
        · have hk1 : k - 1 < L.length := by omega
          have hidx1 : idx L (IntKind.i64.wrap ((k : Int) - 1)) = some L[k - 1] := by
            rw [w64 (by omega) (by omega), show (k : Int) - 1 = ((k - 1 : Nat) : Int) by omega]
            exact get_idx hk1
          have hm1 : L[k - 1] ∈ trainsOf r x := hp.mem_iff.1 (List.getElem_mem hk1)
          obtain ⟨a1, ha1, b1, hb1, _, et1⟩ := (mem_trains_iff h).1 hm1
          have hle : leT L[k - 1] L[k] = true := List.pairwise_iff_getElem.1 hs (k - 1) k hk1 hlt (by omega)
          have hne : L[k - 1] ≠ L[k] := fun e => by
            have := (List.nodup_iff_pairwise_ne.1 hnd)
            exact List.pairwise_iff_getElem.1 this (k - 1) k hk1 hlt (by omega) e
          have hc := cmpT_less hle hne
          rw [et, et1] at hc
          rw [br_t (by simpa using hk0), hidx1, ob_s, ob_s, et1, show compI (canonF a1 b1, canonF a b) = _ from compI_eq hx (canon_len hx ha1 hb1) hal (fun y hy => (canon_in hx ha1 hb1 y hy).2) (fun y hy => (hai y hy).2), ob_s, hc, br_f (by simp)]
          rfl
        · rw [br_f (by simpa using hk0)]
          rfl
      · show L.length - ((k + 1 : Nat) : Int).toNat < L.length - ((k : Nat) : Int).toNat
        omega
    · obtain rfl : k = L.length := by omega
      refine ⟨.out, (false, x, r, L, (L.length : Int)), ?_, (fun e => by cases e), (fun _ => rfl), (fun e => by cases e)⟩
      unfold fnExL_step
      dsimp only
      rw [br_f (by simp)]) (fnExL_fuel (false, x, r, L, 0)) (false, x, r, L, 0) ⟨0, rfl, by omega⟩ (by show L.length - (0 : Int).toNat < (L.length - (0 : Int).toNat) + 1; omega)
  have h1 : fnExL (false, x, r, L, 0) = some (b, s') := h1
  cases b with
  | true => rw [h1, h2 rfl]
  | false => exact (h3 rfl).elim
end
theorem fnExact_holds (c : List Int) (hw : WfAll [.slice (.int .u8)] c) : fnExact c = some true := by
  have hc := bytes_wf hw
  obtain ⟨x, r, l, e0, hA, hv, _, _⟩ := a2SeQ_tot hc
  unfold fnExact
  rw [show a2LongQ (c, []) = some (decide ((3000 : Int) < (c.length : Int))) by
    unfold a2LongQ
    dsimp only
    by_cases h : (3000 : Int) < (c.length : Int)
    · rw [br_t (by simpa using h)]; simp [h]
    · rw [br_f (by simpa using h)]; simp at h ⊢; omega, ob_s]
  cases hlong : decide ((3000 : Int) < (c.length : Int)) with
  | true => rfl
  | false =>
    rw [br_f rfl, e0, ob_s]
    dsimp only
    rcases told hA hv with eT | ⟨L, eT, hp, hs, hl⟩
    · rw [show exactI ((r.1, r.2), x.1, x.2.1, x.2.2.1, x.2.2.2.1, x.2.2.2.2) = _ from eT, ob_s, br_t (by simp)]
      rfl
    · rw [show exactI ((r.1, r.2), x.1, x.2.1, x.2.2.1, x.2.2.2.1, x.2.2.2.2) = _ from eT, ob_s, br_f (by simp)]
      rw [show fnExL (false, (x.1, x.2.1, x.2.2.1, x.2.2.2.1, x.2.2.2.2), (r.1, r.2), L, (0 : Int)) = _ from fnExL_law hA hv hp hs hl, ob_s, br_t rfl]
      dsimp only
      obtain ⟨t, e, cd, hB, eI, _, eB⟩ := bestTI_law hA hv
      rw [show bestTI ((r.1, r.2), x.1, x.2.1, x.2.2.1, x.2.2.2.1, x.2.2.2.2) = _ from eB]
      by_cases hne : L = []
      · subst hne
        have hno : trainsOf r x = [] := hp.symm.eq_nil
        obtain ⟨e', c', e1, hcc⟩ := best_off hA hv hB hno
        rw [eI] at e1
        obtain ⟨rfl, rfl⟩ : e = e' ∧ cd = c' := by
          injection e1 with e1
          exact Prod.mk.inj e1
        rcases hcc with rfl | ⟨rfl, h0⟩
        · rw [br_t (by simp), ob_s, br_f (by simp), br_t (by simp)]
        · rw [br_f (by simp), ob_s, br_f (by simp), br_f (by simp), br_t (by simp)]
          simpa using h0
      · obtain ⟨e1, e2⟩ := best_exact hA hv hB hp hs hne
        rw [eI] at e1
        obtain ⟨rfl, rfl⟩ : e = (0, 1) ∧ cd = 0 := by
          injection e1 with e1
          exact Prod.mk.inj e1
        have hpos : 0 < L.length := List.length_pos_iff.2 hne
        have hm : t ∈ trainsOf r x := hp.mem_iff.1 (List.mem_of_getElem? e2)
        have htl := best_len hA.lim hB
        obtain ⟨_, hs3, _⟩ := hA.lim.stg
        rw [br_f (by simp), ob_s, br_t (by simp; omega), br_t (by simp), br_t (by simp), idx_nat (y := t) (by omega) (by simpa using e2), ob_s]
        dsimp only
        rw [sameQ_self (l := t) (by omega), ob_s]
end
end Rx
end Go.Proofs.YthfgpnpoocepeaaGreat
