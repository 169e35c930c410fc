/- The faults of a planetary gear: the law, in plain terms. No program in sight. -/
import Derived.Test.YtaaieejhbpdmoaaRxEpiLaw
import Derived.Test.YtaaieejhbpdmoaaRxFaults
namespace Go.Proofs.Ytaaieejhbpdmoaa
namespace Rx
open Go

/-! Marks -/
theorem bytesOf_one (n : Int) : (bytesOf [n]).size = 1 := rfl
theorem markTextL_tot : ∀ (n : Nat) (k : Int) (s : ByteArray), k.toNat < n → 0 ≤ k → (s.size : Int) + k ≤ 4000000000 → ∃ r : ByteArray, iterP markTextL_step n (k, s) = some (0, r) ∧ (r.size : Int) ≤ s.size + k
  | 0, _, _, h, _, _ => by omega
  | n + 1, k, s, h, h0, hb => by
    show ∃ r, ob (markTextL_step (k, s)) _ = _ ∧ _
    by_cases hk : 0 < k
    · have hd : k.tdiv 10 = k / 10 := Int.tdiv_eq_ediv_of_nonneg h0
      have e : markTextL_step (k, s) = some (LRes.next, k / 10, bytesOf [IntKind.u8.wrap (IntKind.i64.wrap (48 + k.tmod 10))] ++ s) := by
        show br (decide (0 < k)) (br (decide (_ + s.size ≤ 9223372036854775807)) _ none) _ = _
        rw [br_t (by simpa using hk), bytesOf_one, br_t (by simp; omega), hd, w64 (by omega) (by omega)]
      rw [e]
      have hsz : ((bytesOf [IntKind.u8.wrap (IntKind.i64.wrap (48 + k.tmod 10))] ++ s).size : Int) = 1 + s.size := by
        rw [ByteArray.size_append, bytesOf_one]; omega
      obtain ⟨r, h1, h2⟩ := markTextL_tot n (k / 10) (bytesOf [IntKind.u8.wrap (IntKind.i64.wrap (48 + k.tmod 10))] ++ s) (by omega) (by omega) (by omega)
      exact ⟨r, h1, by omega⟩
    · have : k = 0 := by omega
      subst this
      exact ⟨s, rfl, by omega⟩
theorem markText_tot (k : Int) (h : k ≤ 1000000000) : ∃ t, markText k = some t := by
  show ∃ t, br (decide (k ≤ 0)) _ (ob (markTextL (k, _)) _) = _
  by_cases hk : k ≤ 0
  · rw [br_t (by simpa using hk)]; exact ⟨_, rfl⟩
  · rw [br_f (by simpa using hk)]
    obtain ⟨r, h1, h2⟩ := markTextL_tot (k.toNat + 1) k ⟨⟨[]⟩⟩ (by omega) (by omega) (by show ((0 : Nat) : Int) + k ≤ _; omega)
    have h1' : markTextL (k, ⟨⟨[]⟩⟩) = some (0, r) := h1
    rw [h1']
    have h2' : (r.size : Int) ≤ ((0 : Nat) : Int) + k := h2
    show ∃ t, br (decide (1 + r.size ≤ 9223372036854775807)) _ none = _
    rw [br_t (by simp; omega)]
    exact ⟨_, rfl⟩

theorem idx_get {α : Type} {l : List α} {i : Int} (h0 : 0 ≤ i) (h1 : i < l.length) : ∃ y, idx l i = some y ∧ l[i.toNat]? = some y := by
  have h2 : i.toNat < l.length := by omega
  refine ⟨l[i.toNat], ?_, List.getElem?_eq_getElem h2⟩
  unfold idx
  rw [if_pos h0]
  exact List.getElem?_eq_getElem h2

theorem eqStrS_self {l : List ByteArray} (hl : l.length ≤ 1000000) : eqStrS (l, l) = some true := by
  have key : ∀ (n : Nat) (i : Int) (b : Bool), 0 ≤ i → l.length - i.toNat < n → ∃ i' : Int, iter eqStrSL_step n (l, l, b, i) = some (true, (l, l, b, i')) := by
    intro n
    induction n with
    | zero => intro i b _ h; omega
    | succ n ih =>
      intro i b h0 h
      show ∃ i', ob (eqStrSL_step (l, l, b, i)) _ = _
      by_cases hi : i < l.length
      · obtain ⟨y, hy, _⟩ := idx_get h0 hi
        have e : eqStrSL_step (l, l, b, i) = some (LRes.next, l, l, b, i + 1) := by
          show br (decide (i < (l.length : Int))) (ob (idx l i) fun y => ob (idx l i) fun y_1 => _) _ = _
          rw [br_t (by simpa using hi), hy]
          show br (!(y.toList == y.toList)) _ (some (LRes.next, l, l, b, IntKind.i64.wrap (i + 1))) = _
          rw [br_f (by simp), w64 (by omega) (by omega)]
        rw [e]
        exact ih (i + 1) b (by omega) (by omega)
      · have e : eqStrSL_step (l, l, b, i) = some (LRes.out, l, l, b, i) := by
          show br (decide (i < (l.length : Int))) _ _ = _
          rw [br_f (by simpa using hi)]
        rw [e]
        exact ⟨i, rfl⟩
  obtain ⟨i', h⟩ := key (l.length + 1) 0 false (by omega) (by simp)
  show br ((l.length : Int) != (l.length : Int)) _ (ob (eqStrSL (l, l, false, 0)) _) = _
  have h' : eqStrSL (l, l, false, 0) = some (true, (l, l, false, i')) := h
  rw [br_f (by simp), h']
  rfl

theorem markStrS_out {l : List ByteArray} (hl : l.length ≤ 1000000) : ∃ l', markStrS (l, 1) = some (1 + (l.length : Int), (l', 1)) ∧ l'.length = l.length ∧ ∀ (j : Nat) y, l'[j]? = some y → markText (1 + j) = some y := by
  have key : ∀ (n : Nat) (l : List ByteArray) (k i : Int), l.length ≤ 1000000 → 0 ≤ i → i ≤ l.length → k = 1 + i → l.length - i.toNat < n →
      ∃ l', iterP markStrSL_step n (l, k, i) = some (l', 1 + (l.length : Int), (l.length : Int)) ∧ l'.length = l.length ∧ (∀ (j : Nat), j < i.toNat → l'[j]? = l[j]?) ∧ ∀ (j : Nat) y, i.toNat ≤ j → l'[j]? = some y → markText (1 + j) = some y := by
    intro n
    induction n with
    | zero => intro l k i _ _ _ _ h; omega
    | succ n ih =>
      intro l k i hl h0 h1 hk h
      show ∃ l', ob (markStrSL_step (l, k, i)) _ = _ ∧ _
      by_cases hi : i < l.length
      · obtain ⟨y, hy, hy2⟩ := idx_get h0 hi
        obtain ⟨t, ht⟩ := markText_tot k (by omega)
        have e : markStrSL_step (l, k, i) = some (LRes.next, l.set i.toNat t, k + 1, i + 1) := by
          show br (decide (i < (l.length : Int))) (ob (markText k) fun y => ob (idx l i) fun _ => ob (l[i.toNat]?) fun _ => some (LRes.next, l.set i.toNat y, IntKind.i64.wrap (k + 1), IntKind.i64.wrap (i + 1))) _ = _
          rw [br_t (by simpa using hi), ht, hy, hy2]
          show some _ = _
          rw [w64 (by omega) (by omega), w64 (by omega) (by omega)]
        rw [e]
        obtain ⟨l', m1, m2, m3, m4⟩ := ih (l.set i.toNat t) (k + 1) (i + 1) (by simpa using hl) (by omega) (by simp; omega) (by omega) (by simp; omega)
        rw [List.length_set] at m1 m2
        refine ⟨l', m1, m2, fun j hj => ?_, fun j y hj hy' => ?_⟩
        · rw [m3 j (by omega), List.getElem?_set_ne (by omega)]
        · by_cases hj' : j = i.toNat
          · subst hj'
            rw [m3 _ (by omega), List.getElem?_set_self (by omega)] at hy'
            cases hy'
            rw [show (1 : Int) + (i.toNat : Nat) = k by omega]; exact ht
          · exact m4 j y (by omega) hy'
      · have e : markStrSL_step (l, k, i) = some (LRes.out, l, k, i) := by
          show br (decide (i < (l.length : Int))) _ _ = _
          rw [br_f (by simpa using hi)]
        rw [e]
        have hil : i = l.length := by omega
        refine ⟨l, by rw [hk, hil]; rfl, rfl, fun _ _ => rfl, fun j y hj hy' => ?_⟩
        have := (List.getElem?_eq_some_iff.1 hy').1
        omega
  obtain ⟨l', m1, m2, _, m4⟩ := key (l.length + 1) l 1 0 hl (by omega) (by omega) (by omega) (by simp)
  refine ⟨l', ?_, m2, fun j y hy => m4 j y (by simp) hy⟩
  have m1' : markStrSL (l, 1, 0) = some (l', 1 + (l.length : Int), (l.length : Int)) := m1
  show ob (markStrSL (l, 1, 0)) _ = _
  rw [m1']; rfl

theorem heldStrS_out {l : List ByteArray} (hl : l.length ≤ 1000000) (h : ∀ (j : Nat) y, l[j]? = some y → markText (1 + j) = some y) : heldStrS (l, 1) = some (1 + (l.length : Int)) := by
  have key : ∀ (n : Nat) (k i r : Int), 0 ≤ i → i ≤ l.length → k = 1 + i → l.length - i.toNat < n → iter heldStrSL_step n (l, k, r, i) = some (true, (l, 1 + (l.length : Int), r, (l.length : Int))) := by
    intro n
    induction n with
    | zero => intro k i r _ _ _ h; omega
    | succ n ih =>
      intro k i r h0 h1 hk hn
      show ob (heldStrSL_step (l, k, r, i)) _ = _
      by_cases hi : i < l.length
      · obtain ⟨y, hy, hy2⟩ := idx_get h0 hi
        have ht := h i.toNat y hy2
        rw [show (1 : Int) + (i.toNat : Nat) = k by omega] at ht
        have e : heldStrSL_step (l, k, r, i) = some (LRes.next, l, k + 1, r, i + 1) := by
          show br (decide (i < (l.length : Int))) (ob (idx l i) fun y => ob (markText k) fun y_1 => _) _ = _
          rw [br_t (by simpa using hi), hy, ht]
          show br (!(y.toList == y.toList)) _ (some (LRes.next, l, IntKind.i64.wrap (k + 1), r, IntKind.i64.wrap (i + 1))) = _
          rw [br_f (by simp), w64 (by omega) (by omega), w64 (by omega) (by omega)]
        rw [e]
        exact ih (k + 1) (i + 1) r (by omega) (by omega) (by omega) (by omega)
      · have e : heldStrSL_step (l, k, r, i) = some (LRes.out, l, k, r, i) := by
          show br (decide (i < (l.length : Int))) _ _ = _
          rw [br_f (by simpa using hi)]
        rw [e]
        have hil : i = l.length := by omega
        rw [hk, hil]; rfl
  have m1 : heldStrSL (l, 1, 0, 0) = some (true, (l, 1 + (l.length : Int), 0, (l.length : Int))) := key (l.length + 1) 1 0 0 (by omega) (by omega) (by omega) (by simp)
  show ob (heldStrSL (l, 1, 0, 0)) _ = _
  rw [m1]; rfl

def tl (x : Option (List ByteArray)) : Prop := ∃ l, x = some l ∧ l.length ≤ 1000000
theorem tl_s {l : List ByteArray} (h : l.length ≤ 1000000) : tl (some l) := ⟨l, rfl, h⟩
theorem tl_br {c : Bool} {a b : Option (List ByteArray)} (h1 : tl a) (h2 : tl b) : tl (br c a b) := by cases c <;> assumption
theorem tl_ob {α : Type} {a : α} {f : α → Option (List ByteArray)} (h : tl (f a)) : tl (ob (some a) f) := h
theorem faults_len (e : Int × Int × Int × Int) : tl (faultsI e) := by
  obtain ⟨a, b, c, n⟩ := e
  unfold faultsI
  simp only [toothed_eq, within_eq, ob_s]
  by_cases hn : 1 ≤ n ∧ n ≤ 8
  · simp only [br_f (c := n == 0) (by simp; omega)]
    by_cases h2 : 2 ≤ n
    · obtain ⟨k, hk⟩ := spread_tot n h2 hn.2
      simp only [hk]
      repeat' first | exact tl_s (by show _ ≤ 1000000; decide) | apply tl_br | apply tl_ob
    · simp only [br_f (c := decide ((2 : Int) ≤ n)) (by simpa using h2)]
      repeat' first | exact tl_s (by show _ ≤ 1000000; decide) | apply tl_br
  · simp only [br_t (c := !(decide (1 ≤ n) && decide (n ≤ 8))) (by rw [← Bool.decide_and]; simp only [hn, decide_false, Bool.not_false])]
    repeat' first | exact tl_s (by show _ ≤ 1000000; decide) | apply tl_br

theorem lawFaults_holds (e : Int × Int × Int × Int) : lawFaults e = some true := by
  obtain ⟨l, h1, h2⟩ := faults_len e
  obtain ⟨l', m1, m2, m3⟩ := markStrS_out h2
  have hh := heldStrS_out (by rw [m2]; exact h2) m3
  show ob (faultsS e) _ = _
  rw [faultsS_same, h1]
  show ob (faultsI e) _ = _
  rw [h1]
  show ob (eqStrS (l, l)) _ = _
  rw [eqStrS_self h2]
  show ob (markStrS (l, 1)) _ = _
  rw [m1]
  show ob (heldStrS (l', 1)) _ = _
  rw [hh, m2]
  show br (decide (1 + (l.length : Int) < 0)) (some false) (br (1 + (l.length : Int) != 1 + (l.length : Int)) (some false) (ob (faultsI e) fun y_7 => ob (eqStrS (y_7, l)) fun y => br (!y) (some false) (br (decide (1 + (l.length : Int) < 0)) (some false) (br (1 + (l.length : Int) != 1 + (l.length : Int)) (some false) (some true))))) = some true
  rw [br_f (c := decide (1 + (l.length : Int) < 0)) (by simp; omega), br_f (c := (1 + (l.length : Int) != 1 + (l.length : Int))) (by simp), h1]
  show ob (eqStrS (l, l)) _ = _
  rw [eqStrS_self h2]
  show br (decide (1 + (l.length : Int) < 0)) (some false) (br (1 + (l.length : Int) != 1 + (l.length : Int)) (some false) (some true)) = some true
  rw [br_f (c := decide (1 + (l.length : Int) < 0)) (by simp; omega), br_f (c := (1 + (l.length : Int) != 1 + (l.length : Int))) (by simp)]
end Rx
end Go.Proofs.Ytaaieejhbpdmoaa
