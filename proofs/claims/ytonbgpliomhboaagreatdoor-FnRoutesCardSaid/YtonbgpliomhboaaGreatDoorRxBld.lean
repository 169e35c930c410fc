/- strings.Builder of this program, whose panic is refused: what the evaluator knows of it. No conditions. -/
import Derived.Test.YtonbgpliomhboaaGreatDoorRxEnv
import Derived.WalkKit
import Derived.WalkSpells
import Derived.WalkLawsBesides
import Derived.Handy
import Derived.Lib.Builder
import Derived.Lib.UnsafeStr
import Derived.Laws.Externs
namespace Go.Proofs.YtonbgpliomhboaaGreatDoor
open Go.RowKit BigFrame

theorem bld_size : (Tryz.prog.info? 84).map (·.size) = some 2 := by kernel_rfl
theorem byte_info : (Tryz.prog.info? 5).map (fun i => (i.zero, i.size, i.bytes)) = some (some (.int .u8 0), 1, 1) := by kernel_rfl
set_option maxHeartbeats 2000000 in
set_option maxRecDepth 100000 in
theorem copyCheck_used (b : Nat) (w : World) (h0 : w.cell? ⟨b, 0, none⟩ = some (.pointer (some ⟨b, 0, none⟩))) :
    Calls Tryz.prog 79 #[.pointer (some ⟨b, 0, none⟩)] w fun e w' => e = .returned (.tuple #[]) ∧ w' = w := by
  obtain ⟨j, hj, _⟩ := Option.map_eq_some_iff.1 bld_size
  go_enter Tryz.func79, Tryz.ntmps79
  go_wp2
  rw [Lib.run_neq_ptr_same w _ Tryz.underlying82 hj]
  go_wp2
  go_end0
  exact ⟨rfl, rfl⟩
set_option maxHeartbeats 2000000 in
set_option maxRecDepth 100000 in
theorem copyCheck_fresh (b : Nat) (w : World) (h0 : w.cell? ⟨b, 0, none⟩ = some (.pointer none)) (hsh : w.shape? b = some (84, 2)) (hfz : w.frozen? ⟨b, 0, none⟩ = false) :
    Calls Tryz.prog 79 #[.pointer (some ⟨b, 0, none⟩)] w fun e w' => e = .returned (.tuple #[]) ∧ w' = w.setCell ⟨b, 0, none⟩ (.pointer (some ⟨b, 0, none⟩)) := by
  obtain ⟨j, hj, hjs⟩ := Option.map_eq_some_iff.1 bld_size
  go_enter Tryz.func79, Tryz.ntmps79
  go_wp2
  rw [Lib.run_to_unsafe w ⟨b, 0, none⟩ Tryz.underlying82 Tryz.underlying140 hj (by rw [hjs]; decide) hsh (Nat.zero_lt_succ 1)]
  simp only [Result.andThen]
  rw [Oper.upon_value]
  go_wp2
  rw [run_callFunc_extern Tryz.func101 (by kernel_rfl) (by kernel_rfl) (by kernel_rfl) (e := Extern.AbiNoEscape.same) (by kernel_rfl)]
  rw [Lib.run_noEscape]
  simp only [Result.andThen]
  rw [Oper.upon_value]
  go_wp2
  rw [Lib.run_from_unsafe w ⟨b, 0, none⟩ Tryz.underlying140 Tryz.underlying82 hj hsh (by kernel_rfl)]
  simp only [Result.andThen]
  rw [Oper.upon_value]
  go_wp2
  go_end0
  exact ⟨rfl, rfl⟩

namespace Rx
/-- A used builder, its buffer laid open. -/
def BldUsed (w : World) (T e : TypeId) (b : Nat) (x : ByteArray) (u : Value) : Prop :=
  w.heap[b]? = some (.cells #[.pointer (some ⟨b, 0, none⟩), u] T (0, 0)) ∧ w.ownsRowF 0 e 1 u x.size (Lib.strCells x) ∧ u.ownBlock ≠ some b
theorem copyCheck_k (b : Nat) (x : ByteArray) (gs : List Nat) (w : World) (h : BldAt w 84 5 b x gs) :
    Calls Tryz.prog 79 #[.pointer (some ⟨b, 0, none⟩)] w fun e w' => e = .returned (.tuple #[]) ∧ ∃ u, gs = b :: u.ownBlock.toList ∧ BldUsed w' 84 5 b x u ∧ (x.size = 0 → u = .slice none 0 0) ∧ Kept w w' [b] := by
  obtain ⟨p, u, hp, h2, h3, h4, h5, rfl⟩ := h
  rcases hp with rfl | rfl
  · refine (copyCheck_fresh b w (by simp [World.cell?, h2]) (by simp [World.shape?, h2]) (by simp [World.frozen?, h2])).mono ?_
    rintro e w' ⟨rfl, rfl⟩
    have hk : ∀ k, k ≠ b → (w.setCell ⟨b, 0, none⟩ (.pointer (some ⟨b, 0, none⟩))).heap[k]? = w.heap[k]? := fun k hk => Below.heap_setCell _ _ _ _ hk
    refine ⟨rfl, u, rfl, ⟨by simp [World.setCell, Array.getElem?_modify, h2], ⟨h3.1, ?_⟩, h4⟩, h5, rfl, rfl, rfl, by simp [World.setCell], fun k _ hk' => hk k (by simpa using hk')⟩
    rcases h3.2 with h | ⟨g, cap, cur, fz, rfl, hb, hgg, rest⟩
    · exact .inl h
    · exact .inr ⟨g, cap, cur, fz, rfl, hb, (hk g (fun e => h4 (by rw [e]; rfl))).trans hgg, rest⟩
  · refine (copyCheck_used b w (by simp [World.cell?, h2])).mono ?_
    rintro e w' ⟨rfl, rfl⟩
    exact ⟨rfl, u, rfl, ⟨h2, h3, h4⟩, h5, rfl, rfl, rfl, Nat.le_refl _, fun _ _ _ => rfl⟩
theorem ba_none {x : ByteArray} (h0 : x.size = 0) : x = .empty := by
  have hl : x.data.size = 0 := h0
  cases x
  simp only at hl
  rw [Array.eq_empty_of_size_eq_zero hl]
  rfl
theorem strCells_add (x s : ByteArray) : Lib.strCells (x ++ s) = Lib.strCells x ++ Lib.strCells s := by
  simp [Lib.strCells, ByteArray.data_append]
/-- A text behind a row of bytes: where the row lies then. -/
theorem append_own {ops : Array Oper} {rest : List Oper} {o : Oper} {a : Act} {Q : Exit → Act → World → Prop} {P : Program} {w : World} (hgd : o.guard = none) (sl x : Operand) (t u : TypeId)
    (ho : o.op = .call { callee := .builtin .append, args := #[sl, x], argTypes := #[t, u] })
    (e : TypeId) (i : TypeInfo) (ht : P.underlying t = some (.slice e)) (hu : P.underlying u = some .string) (hi : P.info? e = some i) (hz : i.zero = some (.int .u8 0))
    (hsize : i.size = 1) (hby : i.bytes = 1)
    (v : Value) (n : Nat) (xs : List Value) (hs : a.eval sl = v) (hown : w.ownsRowF 0 e 1 v n xs) (s : ByteArray) (hx : a.eval x = .string s)
    (h63 : n + s.size ≤ maxLen) (hbytes : n + s.size ≤ 140737488355328)
    (h : ∀ v' w', w'.ownsRowF 0 e 1 v' (n + s.size) (xs ++ Lib.strCells s) → w.grownBy w' v.ownBlock → (∀ g, v'.ownBlock = some g → v.ownBlock = some g ∨ w.heap.size ≤ g) → (v = .slice none 0 0 → s.size = 0 → v' = .slice none 0 0) → wpList P ops Q rest (a.put o.dst v') w') : wpList P ops Q (o :: rest) a w := by
  refine wpList_plain hgd fun K hK => ?_
  obtain ⟨v', w', hr, h2, h3, h4, h5⟩ : ∃ v' w', (Builtin.append_ #[t, u] o.type #[v, .string s]).run P w = .ok v' w' ∧ w'.ownsRowF 0 e 1 v' (n + s.size) (xs ++ Lib.strCells s) ∧ w.grownBy w' v.ownBlock ∧ (∀ g, v'.ownBlock = some g → v.ownBlock = some g ∨ w.heap.size ≤ g) ∧ (v = .slice none 0 0 → s.size = 0 → v' = .slice none 0 0) := by
    rcases hown.2 with ⟨rfl, rfl⟩ | ⟨g, cap, cur, fz, rfl, hbg, hg, hfz, hnc, hcm, hcs, htake⟩
    · obtain ⟨v', w', hr, h2, h3, h6⟩ := Lib.run_append_own_stringF (P := P) w w.heap.size t u o.type e i ht hu hi hz hsize hby (.slice none 0 0) 0 xs ⟨hown.1, .inl ⟨rfl, rfl⟩⟩ s h63 hbytes (Nat.le_refl _)
      refine ⟨v', w', hr, ⟨h2.1, ?_⟩, h3, fun g hg => .inr (h2.lt g hg).1, fun h7 h8 => h6.2 ⟨h7, h8⟩⟩
      rcases h2.2 with h | ⟨g, cap, cur, fz, e1, hb, rest⟩
      · exact .inl h
      · exact .inr ⟨g, cap, cur, fz, e1, Nat.zero_le _, rest⟩
    · obtain ⟨v', w', hr, h2, h3, _⟩ := Lib.run_append_own_stringF (P := P) w 0 t u o.type e i ht hu hi hz hsize hby _ n xs hown s h63 hbytes (Nat.zero_le _)
      refine ⟨v', w', hr, h2, h3, fun k hk => ?_, fun h7 => by cases h7⟩
      have hsmall : n + s.size ≤ 9223372036854775807 := by simp only [maxLen] at h63; omega
      have hxl : xs.length = n := by simpa using hown.1
      by_cases hroom : n + s.size ≤ cap
      · have hcs' : cur.size = cap := by simpa using hcs
        have hr' := Lib.run_append_room_stringF (P := P) w t u o.type e i ht hu hi hsize g n cap cur fz hg (by simpa using hfz) s hroom (by omega)
        rw [hr] at hr'
        cases hr'
        exact .inl hk
      · have holds : ∀ j u, xs[j]? = some u → w.cell? ((⟨g, 0, none⟩ : Addr).add j) = some u := hown.cells (g := g) rfl
        have hr' := Lib.run_append_grow_string (P := P) w t u o.type e i (.int .u8 0) ht hu hi hz ⟨g, 0, none⟩ n cap xs (by rw [hsize]; simpa using hxl) holds s (by omega) (by omega) (by rw [hby]; exact growslice_fits (by omega) (by omega))
        rw [hr] at hr'
        cases hr'
        simp only [Value.ownBlock, Option.some.injEq] at hk
        exact .inr (by omega)
  unfold Oper.wp execOp
  simp only [ho, resolve, invoke, builtin, Sem.run_bind, Sem.run_pure, Result.andThen_ok, List.map_toArray, List.map_cons, List.map_nil, hs, hx, hr]
  exact hK _ _ (h v' w' h2 h3 h4 h5)
set_option maxHeartbeats 2000000 in
set_option maxRecDepth 100000 in
theorem writeString_k (b : Nat) (x s : ByteArray) (w : World) (gs : List Nat) (h : BldAt w 84 5 b x gs) (hlen : x.size + s.size ≤ 140737488355328) :
    Calls Tryz.prog 42 #[.pointer (some ⟨b, 0, none⟩), .string s] w fun en w' => ∃ v gs', en = .returned v ∧ BldAt w' 84 5 b (x ++ s) gs' ∧ (∀ g ∈ gs', g ∈ gs ∨ w.heap.size ≤ g) ∧ Kept w w' gs := by
  obtain ⟨i0, hi, hz0, hz1, hz2⟩ := info_parts byte_info
  go_enter Tryz.func42, Tryz.ntmps42
  go_wp2_with (go_at_call 79; refine (copyCheck_k b x gs _ h).mono ?_)
  rintro e w1 ⟨rfl, v, hgs, ⟨hbk, hown, hne⟩, hnil, hk1⟩
  have c0 : w1.cell? ⟨b, 0, none⟩ = some (.pointer (some ⟨b, 0, none⟩)) := by rw [Lib.cell_of_heap hbk]; rfl
  have c1 : w1.cell? ⟨b, 1, none⟩ = some v := by rw [Lib.cell_of_heap hbk]; rfl
  go_wp2_with (at_builtin; refine append_own rfl _ _ 31 9 rfl 5 i0 Tryz.underlying31 Tryz.underlying9 hi hz0 hz1 hz2 _ _ _ rfl hown s rfl ?c3 ?c4 ?_)
  case c3 => unfold maxLen; omega
  case c4 => omega
  intro v' w2 hown' hgrow hblk hnil'
  have hlt : b < w1.heap.size := by
    rcases Nat.lt_or_ge b w1.heap.size with h' | h'
    · exact h'
    · simp [Array.getElem?_eq_none h'] at hbk
  have hb2 : w2.heap[b]? = some (.cells #[.pointer (some ⟨b, 0, none⟩), v] 84 (0, 0)) := by
    rw [hgrow.block b hlt (fun e => hne e.symm)]
    exact hbk
  have d0 : w2.cell? ⟨b, 0, none⟩ = some (.pointer (some ⟨b, 0, none⟩)) := by rw [Lib.cell_of_heap hb2]; rfl
  have d1 : w2.cell? ⟨b, 1, none⟩ = some v := by rw [Lib.cell_of_heap hb2]; rfl
  have f1 : w2.frozen? ⟨b, 1, none⟩ = false := Lib.frozen_of_heap hb2 1
  obtain ⟨ao, n', cap, rfl⟩ : ∃ ao n' cap, v' = .slice ao n' cap := by
    rcases hown'.2 with ⟨hv, _⟩ | ⟨g, cap, cur, fz, hv, _⟩
    · exact ⟨_, _, _, hv⟩
    · exact ⟨_, _, _, hv⟩
  go_wp2
  go_ret2
  have hk : ∀ k, k ≠ b → (w2.setCell ⟨b, 1, none⟩ (.slice ao n' cap)).heap[k]? = w2.heap[k]? := fun k hk => Below.heap_setCell _ _ _ _ hk
  have hnb : (Value.slice ao n' cap).ownBlock ≠ some b := fun e => by
    rcases hblk b e with h3 | h3
    · exact hne h3
    · omega
  refine ⟨_, b :: (Value.slice ao n' cap).ownBlock.toList, rfl, ⟨_, .slice ao n' cap, .inr rfl, by simp [World.setCell, Array.getElem?_modify, hb2], ⟨?_, ?_⟩, hnb, fun h0 => ?_, rfl⟩, fun g hg => ?_, ?_⟩
  · rw [Lib.strCells_length, Nat.mul_one]
  · rw [ByteArray.size_append, strCells_add]
    rcases hown'.2 with h | ⟨g, cap', cur, fz, e1, hb, hgg, rest⟩
    · exact .inl h
    · exact .inr ⟨g, cap', cur, fz, e1, hb, (hk g (fun e => hnb (by rw [e1, e]; rfl))).trans hgg, rest⟩
  · rw [ByteArray.size_append] at h0
    have h1 : x.size = 0 := by omega
    have h2 : s.size = 0 := by omega
    exact hnil' (hnil h1) (ba_none h2)
  · rcases List.mem_cons.1 hg with rfl | hg
    · exact .inl (by rw [hgs]; simp)
    · rcases hblk g (by simpa using hg) with h3 | h3
      · exact .inl (by rw [hgs]; simp [h3])
      · exact .inr (Nat.le_trans hk1.size h3)
  · refine ⟨hgrow.os.trans hk1.os, hgrow.tape.trans hk1.tape, hgrow.output.trans hk1.output, by have := hgrow.size; have := hk1.size; simp [World.setCell]; omega, fun k hlt' hk' => ?_⟩
    rw [hgs] at hk'
    simp only [List.mem_cons, Option.mem_toList, not_or] at hk'
    rw [hk k hk'.1, hgrow.block k (Nat.lt_of_lt_of_le hlt' hk1.size) (fun e => hk'.2 (by rw [← e])), hk1.block k hlt' (by simpa using hk'.1)]
set_option maxHeartbeats 1000000 in
set_option maxRecDepth 100000 in
theorem string_some (b : Nat) (x : ByteArray) (w : World) (gs : List Nat) (h : BldAt w 84 5 b x gs) (h0 : 0 < x.size) :
    Calls Tryz.prog 44 #[.pointer (some ⟨b, 0, none⟩)] w fun en w' => en = .returned (.string x) ∧ BldAt w' 84 5 b x gs ∧ Kept w w' gs := by
  obtain ⟨p, u, hp, hbk, hown, hne, h5, rfl⟩ := h
  obtain ⟨g, cap, cur, fz, rfl, _, hg, hfz, hnc, hcm, hcs, htake⟩ : ∃ g cap cur fz, u = .slice (some ⟨g, 0, none⟩) x.size cap ∧ 0 ≤ g ∧ w.heap[g]? = some (.cells cur 5 fz) ∧ fz.2 ≤ x.size * 1 ∧ x.size ≤ cap ∧ cap ≤ maxLen ∧ cur.size = cap * 1 ∧ cur.toList.take (x.size * 1) = Lib.strCells x := by
    rcases hown.2 with ⟨_, hz⟩ | h
    · omega
    · exact h
  have hgb : g ≠ b := fun e => hne (by rw [e]; rfl)
  have hl0 : x.data.toList.length = x.size := by rw [Array.length_toList]; rfl
  have hF : ∀ k, k ≠ g → (w.drew.freeze ⟨g, 0, none⟩ x.size).heap[k]? = w.heap[k]? := fun k hk => by
    unfold World.freeze
    rw [if_neg (by omega)]
    have hk' : ¬ g = k := fun e => hk e.symm
    simp [Array.getElem?_modify, hk']
    rfl
  have hG : ∃ fz', (w.drew.freeze ⟨g, 0, none⟩ x.size).heap[g]? = some (.cells cur 5 fz') ∧ fz'.2 ≤ x.size * 1 := by
    unfold World.freeze
    rw [if_neg (by omega)]
    obtain ⟨lo, hi⟩ := fz
    refine ⟨if lo == hi then (0, 0 + x.size) else (min lo 0, max hi (0 + x.size)), ?_, ?_⟩
    · have hg' : w.drew.heap[g]? = some (.cells cur 5 (lo, hi)) := hg
      simp [Array.getElem?_modify, hg']
    · simp only at hfz
      split
      · simp
      · show max hi (0 + x.size) ≤ _
        omega
  obtain ⟨fz', hG, hfz'⟩ := hG
  have hkeep : BldAt (w.drew.freeze ⟨g, 0, none⟩ x.size) 84 5 b x (b :: (Value.slice (some ⟨g, 0, none⟩) x.size cap).ownBlock.toList) :=
    ⟨p, _, hp, (hF b (fun e => hgb e.symm)).trans hbk, ⟨hown.1, .inr ⟨g, cap, cur, fz', rfl, Nat.zero_le _, hG, hfz', hnc, hcm, hcs, htake⟩⟩, hne, h5, rfl⟩
  have hkept : Kept w (w.drew.freeze ⟨g, 0, none⟩ x.size) (b :: (Value.slice (some ⟨g, 0, none⟩) x.size cap).ownBlock.toList) := by
    refine ⟨?_, ?_, ?_, ?_, fun k _ hk => hF k fun e => hk (by rw [e]; simp [Value.ownBlock])⟩ <;> (unfold World.freeze; rw [if_neg (by omega)]) <;> first | rfl | (simp; done) | (simp; rfl) | (simp; exact Nat.le_refl _)
  have c1 : w.drew.cell? ⟨b, 1, none⟩ = some (.slice (some ⟨g, 0, none⟩) x.size cap) := by
    have : w.drew.heap[b]? = some (.cells #[p, .slice (some ⟨g, 0, none⟩) x.size cap] 84 (0, 0)) := hbk
    rw [Lib.cell_of_heap this]; rfl
  have hSD : (Builtin.unsafeSliceData_ #[31] 131 #[.slice (some ⟨g, 0, none⟩) x.size cap]).run Tryz.prog w.drew = .ok (.pointer (some ⟨g, 0, none⟩)) w.drew :=
    Lib.run_unsafeSliceData_row _ _ _ _ _ _ (by omega)
  have hUS : (Builtin.unsafeString_ #[131, 3] 9 #[.pointer (some ⟨g, 0, none⟩), .int .i64 x.size]).run Tryz.prog w.drew = .ok (.string x) (w.drew.freeze ⟨g, 0, none⟩ x.size) := by
    have := Lib.run_unsafeString_row (P := Tryz.prog) w.drew 131 3 9 5 Tryz.underlying131 (by kernel_rfl) g cur.size (by have hg' : w.drew.heap[g]? = some (.cells cur 5 fz) := hg; simp [World.shape?, hg']) x.data.toList (fun e => by rw [e] at hl0; simp at hl0; omega) (by omega) (by unfold maxLen at hcm; omega) (fun j y hy => by
      have := hown.cells (g := g) rfl j (.int .u8 y.toNat) (by simp only [Lib.strCells, List.getElem?_map, hy]; rfl)
      exact this)
    rw [hl0] at this
    exact this
  go_enter Tryz.func44, Tryz.ntmps44
  go_wp2
  go_region
  all_goals (go_wp2; go_ret; exact ⟨rfl, hkeep, hkept⟩)

set_option maxHeartbeats 1000000 in
set_option maxRecDepth 100000 in
theorem string_nil (b : Nat) (x : ByteArray) (w : World) (gs : List Nat) (h : BldAt w 84 5 b x gs) (h0 : x.size = 0) :
    Calls Tryz.prog 44 #[.pointer (some ⟨b, 0, none⟩)] w fun en w' => en = .returned (.string x) ∧ BldAt w' 84 5 b x gs ∧ Kept w w' gs := by
  have hx := ba_none h0
  have hA : BldAt w.drew 84 5 b x gs := h.keep fun g _ => rfl
  have hkept : Kept w w.drew gs := ⟨rfl, rfl, rfl, Nat.le_refl _, fun _ _ _ => rfl⟩
  obtain ⟨p, u, hp, hbk, hown, hne, h5, hgs⟩ := h
  have hu := h5 h0
  subst hu
  have c1 : w.drew.cell? ⟨b, 1, none⟩ = some (.slice none 0 0) := by
    have : w.drew.heap[b]? = some (.cells #[p, .slice none 0 0] 84 (0, 0)) := hbk
    rw [Lib.cell_of_heap this]; rfl
  have hSD : (Builtin.unsafeSliceData_ #[31] 131 #[.slice none 0 0]).run Tryz.prog w.drew = .ok (.pointer none) w.drew := rfl
  have hUS := fun (W : World) (q : Option Addr) => Lib.run_unsafeString_none (P := Tryz.prog) W 131 3 9 q
  subst hx
  go_enter Tryz.func44, Tryz.ntmps44
  go_wp2
  go_region
  all_goals (go_wp2; go_ret; exact ⟨rfl, hA, hkept⟩)
theorem string_k (b : Nat) (x : ByteArray) (w : World) (gs : List Nat) (h : BldAt w 84 5 b x gs) :
    Calls Tryz.prog 44 #[.pointer (some ⟨b, 0, none⟩)] w fun en w' => en = .returned (.string x) ∧ BldAt w' 84 5 b x gs ∧ Kept w w' gs := by
  rcases Nat.eq_zero_or_pos x.size with h0 | h0
  · exact string_nil b x w gs h h0
  · exact string_some b x w gs h h0

theorem blt_ok : BltOK Tryz.prog 84 := by
  unfold BltOK
  kernel_rfl
theorem blw_ok : BlwOK Tryz.prog 42 84 5 :=
  ⟨⟨_, _, Tryz.func42, by kernel_rfl, rfl⟩, writeString_k⟩
theorem bls_ok : BlsOK Tryz.prog 44 84 5 :=
  ⟨⟨_, _, Tryz.func44, by kernel_rfl, rfl⟩, string_k⟩
end Rx
end Go.Proofs.YtonbgpliomhboaaGreatDoor
