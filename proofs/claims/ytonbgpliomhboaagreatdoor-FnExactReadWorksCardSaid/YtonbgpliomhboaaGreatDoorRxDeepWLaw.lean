/- Loops that mark what lies in memory, and loops that look whether the marks are there. Plain facts. No conditions. -/
import Derived.Test.YtonbgpliomhboaaGreatDoorRxPlain
import Derived.Test.YtonbgpliomhboaaGreatDoorRxEnv
import Derived.Test.YtonbgpliomhboaaGreatDoorRxWorks
import Derived.Test.YtonbgpliomhboaaGreatDoorRxWorksLaw
namespace Go.Proofs.YtonbgpliomhboaaGreatDoor
namespace Rx
open Go
section
variable {α : Type}

/-- Each element is changed, with a number that goes on. -/
def scanL (f : Int → α → α) (g : Int → α → Int) : List α → Int → List α
  | [], _ => []
  | y :: l, k => f k y :: scanL f g l (g k y)
def scanK (g : Int → α → Int) : List α → Int → Int
  | [], k => k
  | y :: l, k => scanK g l (g k y)
theorem scanL_len (f : Int → α → α) (g : Int → α → Int) : ∀ (l : List α) (k : Int), (scanL f g l k).length = l.length
  | [], _ => rfl
  | y :: l, k => by
    unfold scanL
    rw [List.length_cons, List.length_cons, scanL_len f g l]
theorem scanK_bd {g : Int → α → Int} {c : Int} (hc : 0 ≤ c) : ∀ (l : List α) (k : Int), (∀ k y, y ∈ l → k ≤ g k y ∧ g k y ≤ k + c) → k ≤ scanK g l k ∧ scanK g l k ≤ k + c * l.length
  | [], k, _ => by simp [scanK]
  | y :: l, k, h => by
    have h1 := h k y (by simp)
    have h2 := scanK_bd hc l (g k y) fun k z hz => h k z (by simp [hz])
    unfold scanK
    have e : c * ((y :: l).length : Int) = c * (l.length : Int) + c := by
      rw [List.length_cons]; push_cast; rw [Int.mul_add]; omega
    rw [e]; omega
theorem set_mid {a : List α} {y z : α} {b : List α} : (a ++ y :: b).set a.length z = a ++ z :: b := by
  rw [List.set_append_right _ _ (Nat.le_refl _), Nat.sub_self]; rfl
theorem get_mid {a : List α} {y : α} {b : List α} : (a ++ y :: b)[a.length]? = some y := by
  rw [List.getElem?_append_right (Nat.le_refl _), Nat.sub_self]; rfl

theorem scan_loop {step : List α × Int × Int → Option (LRes × (List α × Int × Int))} {f : Int → α → α} {g : Int → α → Int} {c : Int} (hc : 0 ≤ c ∧ c ≤ 1048577) {l : List α} (hl : l.length ≤ 1048576) {k0 : Int} (hk0 : 0 ≤ k0)
    (hg : ∀ k y, y ∈ l → k ≤ g k y ∧ g k y ≤ k + c)
    (hn : ∀ (l' : List α) (k i : Int) (y : α), l'.length = l.length → 0 ≤ i → i < l.length → 0 ≤ k → k ≤ k0 + 1099512676352 → y ∈ l → idx l' i = some y → l'[i.toNat]? = some y → step (l', k, i) = some (.next, l'.set i.toNat (f k y), g k y, i + 1))
    (ho : ∀ (l' : List α) (k i : Int), l'.length = l.length → ¬ i < l.length → step (l', k, i) = some (.out, l', k, i)) {n : Nat} (hf : l.length < n) :
    iterP step n (l, k0, 0) = some (scanL f g l k0, scanK g l k0, (l.length : Int)) := by
  have key : ∀ (n : Nat) (b a : List α) (k : Int), a.length + b.length = l.length → (∀ y ∈ b, y ∈ l) → b.length < n → 0 ≤ k → k ≤ k0 + c * a.length →
      iterP step n (a ++ b, k, (a.length : Int)) = some (a ++ scanL f g b k, scanK g b k, (l.length : Int)) := by
    intro n
    induction n with
    | zero => intro b a k _ _ h; omega
    | succ n ih =>
      intro b a k hab hb h h0 hk
      have hci : c * (a.length : Int) ≤ 1048577 * 1048576 := Int.mul_le_mul hc.2 (by omega) (by omega) (by omega)
      show ob (step (a ++ b, k, (a.length : Int))) _ = _
      cases b with
      | nil =>
        rw [ho _ k _ (by simpa using hab) (by simp at hab; omega)]
        simp only [List.length_nil, Nat.add_zero] at hab
        rw [← hab]; rfl
      | cons y b =>
        have hy := hb y (by simp)
        have hlen : (a ++ y :: b).length = l.length := by rw [List.length_append]; exact hab
        rw [List.length_cons] at hab h
        have hy2 : (a ++ y :: b)[((a.length : Int)).toNat]? = some y := get_mid
        rw [hn (a ++ y :: b) k a.length y hlen (by omega) (by omega) h0 (by omega) hy (idx_nat (by omega) hy2) hy2]
        have e : (a ++ y :: b).set ((a.length : Int)).toNat (f k y) = (a ++ [f k y]) ++ b := by
          rw [List.append_assoc]; exact set_mid
        have h1 := hg k y hy
        show iterP step n ((a ++ y :: b).set ((a.length : Int)).toNat (f k y), g k y, (a.length : Int) + 1) = _
        have := ih b (a ++ [f k y]) (g k y) (by simp; omega) (fun z hz => hb z (by simp [hz])) (by omega) (by omega) (by
          rw [List.length_append]
          have : c * ((a.length + [f k y].length : Nat) : Int) = c * (a.length : Int) + c := by
            push_cast; rw [Int.mul_add]; simp
          omega)
        rw [e]
        rw [List.length_append] at this
        rw [show (a.length : Int) + 1 = ((a.length + [f k y].length : Nat) : Int) by push_cast; rfl, this, List.append_assoc]
        rfl
  have := key n l [] k0 (by simp) (fun y hy => hy) hf hk0 (by simp)
  exact this

theorem scan_held {step : List α × Int × Int × Int → Option (LRes × (List α × Int × Int × Int))} {f : Int → α → α} {g : Int → α → Int} {c : Int} (hc : 0 ≤ c ∧ c ≤ 1048577) {l : List α} (hl : l.length ≤ 1048576) {k0 : Int} (hk0 : 0 ≤ k0)
    (hg : ∀ k y, y ∈ l → k ≤ g k y ∧ g k y ≤ k + c)
    (hn : ∀ (k r i : Int) (y : α), 0 ≤ i → i < l.length → 0 ≤ k → k ≤ k0 + 1099512676352 → y ∈ l → idx (scanL f g l k0) i = some (f k y) → step (scanL f g l k0, k, r, i) = some (.next, scanL f g l k0, g k y, r, i + 1))
    (ho : ∀ (k r i : Int), ¬ i < l.length → step (scanL f g l k0, k, r, i) = some (.out, scanL f g l k0, k, r, i)) (r : Int) {n : Nat} (hf : l.length < n) :
    iter step n (scanL f g l k0, k0, r, 0) = some (true, (scanL f g l k0, scanK g l k0, r, (l.length : Int))) := by
  have key : ∀ (n : Nat) (b a : List α) (k : Int), a.length + b.length = l.length → (∀ y ∈ b, y ∈ l) → b.length < n → 0 ≤ k → k ≤ k0 + c * a.length → scanL f g l k0 = a ++ scanL f g b k →
      iter step n (scanL f g l k0, k, r, (a.length : Int)) = some (true, (scanL f g l k0, scanK g b k, r, (l.length : Int))) := by
    intro n
    induction n with
    | zero => intro b a k _ _ h; omega
    | succ n ih =>
      intro b a k hab hb h h0 hk he
      have hci : c * (a.length : Int) ≤ 1048577 * 1048576 := Int.mul_le_mul hc.2 (by omega) (by omega) (by omega)
      show ob (step (scanL f g l k0, k, r, (a.length : Int))) _ = _
      cases b with
      | nil =>
        rw [ho k r _ (by simp at hab; omega)]
        simp only [List.length_nil, Nat.add_zero] at hab
        rw [← hab]; rfl
      | cons y b =>
        have hy := hb y (by simp)
        rw [List.length_cons] at hab h
        have hy2 : (scanL f g l k0)[((a.length : Int)).toNat]? = some (f k y) := by
          rw [he]; exact get_mid
        rw [hn k r a.length y (by omega) (by omega) h0 (by omega) hy (idx_nat (by omega) hy2)]
        have h1 := hg k y hy
        show iter step n (scanL f g l k0, g k y, r, (a.length : Int) + 1) = _
        have := ih b (a ++ [f k y]) (g k y) (by simp; omega) (fun z hz => hb z (by simp [hz])) (by omega) (by omega) (by
          rw [List.length_append]
          have : c * ((a.length + [f k y].length : Nat) : Int) = c * (a.length : Int) + c := by
            push_cast; rw [Int.mul_add]; simp
          omega) (by rw [he, List.append_assoc]; rfl)
        rw [List.length_append] at this
        rw [show (a.length : Int) + 1 = ((a.length + [f k y].length : Nat) : Int) by push_cast; rfl, this]
        rfl
  have := key n l [] k0 (by simp) (fun y hy => hy) hf hk0 (by simp) rfl
  exact this
end

/-! ### Loops that return other variables -/
theorem iterA_sim {α β α' β' : Type} {stepA : α → Option (LS α β)} {stepB : α' → Option (LS α' β')} (I O : α → α' → Prop) (Q : β → β' → Prop) (mu : α → Nat)
    (h : ∀ a b, I a b → (∃ a' b', stepA a = some (.next a') ∧ stepB b = some (.next b') ∧ I a' b' ∧ mu a' < mu a) ∨ (∃ a' b', stepA a = some (.out a') ∧ stepB b = some (.out b') ∧ O a' b') ∨ ∃ r r', stepA a = some (.ret r) ∧ stepB b = some (.ret r') ∧ Q r r') :
    ∀ (n m : Nat) (a : α) (b : α'), I a b → mu a < n → mu a < m → (∃ a' b', iterA stepA n a = some (.inl a') ∧ iterA stepB m b = some (.inl b') ∧ O a' b') ∨ ∃ r r', iterA stepA n a = some (.inr r) ∧ iterA stepB m b = some (.inr r') ∧ Q r r'
  | 0, _, _, _, _, h, _ => by omega
  | _ + 1, 0, _, _, _, _, h => by omega
  | n + 1, m + 1, a, b, hI, hn, hm => by
    show (∃ a' b', ob (stepA a) _ = _ ∧ ob (stepB b) _ = _ ∧ _) ∨ ∃ r r', ob (stepA a) _ = _ ∧ ob (stepB b) _ = _ ∧ _
    rcases h a b hI with ⟨a', b', h1, h2, h3, h4⟩ | ⟨a', b', h1, h2, h3⟩ | ⟨r, r', h1, h2, h3⟩
    · rw [h1, h2]
      exact iterA_sim I O Q mu h n m a' b' h3 (by omega) (by omega)
    · rw [h1, h2]
      exact .inl ⟨a', b', rfl, rfl, h3⟩
    · rw [h1, h2]
      exact .inr ⟨r, r', rfl, rfl, h3⟩
theorem iterA_end {α β : Type} {step : α → Option (LS α β)} (I O : α → Prop) (Q : β → Prop) (mu : α → Nat)
    (h : ∀ a, I a → (∃ a', step a = some (.next a') ∧ I a' ∧ mu a' < mu a) ∨ (∃ a', step a = some (.out a') ∧ O a') ∨ ∃ r, step a = some (.ret r) ∧ Q r) :
    ∀ (n : Nat) (a : α), I a → mu a < n → (∃ a', iterA step n a = some (.inl a') ∧ O a') ∨ ∃ r, iterA step n a = some (.inr r) ∧ Q r
  | 0, _, _, h => by omega
  | n + 1, a, hI, hn => by
    show (∃ a', ob (step a) _ = _ ∧ _) ∨ ∃ r, ob (step a) _ = _ ∧ _
    rcases h a hI with ⟨a', h1, h3, h4⟩ | ⟨a', h1, h3⟩ | ⟨r, h1, h3⟩
    · rw [h1]
      exact iterA_end I O Q mu h n a' h3 (by omega)
    · rw [h1]
      exact .inl ⟨a', rfl, h3⟩
    · rw [h1]
      exact .inr ⟨r, rfl, h3⟩
end Rx
end Go.Proofs.YtonbgpliomhboaaGreatDoor

namespace Go.Proofs.YtonbgpliomhboaaGreatDoor
namespace Rx
open Go

def markTextL_vars : Vars := [(0, .val (i64)), (3, .val (.str))]
def markTextL_step : Int × ByteArray → Option (LRes × (Int × ByteArray)) :=
fun x =>
  br (decide ((0 : Int) < x.1))
    (br
      (decide
        ((bytesOf [IntKind.u8.wrap (IntKind.i64.wrap ((48 : Int) + x.1.tmod (10 : Int)))]).size + x.2.size ≤
          (9223372036854775807 : Nat)))
      (some
        (LRes.next, IntKind.i64.wrap (x.1.tdiv (10 : Int)),
          bytesOf [IntKind.u8.wrap (IntKind.i64.wrap ((48 : Int) + x.1.tmod (10 : Int)))] ++ x.2))
      none)
    (some (LRes.out, x.1, x.2))
def markTextL_fuel : Int × ByteArray → Nat := fun s => s.1.toNat + 1
def markTextL : Int × ByteArray → Option (Int × ByteArray) := fun s => iterP markTextL_step (markTextL_fuel s) s
def markTextL_L : LoopC := ⟨markTextL_vars, 0, .plain markTextL⟩
noncomputable def markTextL_key : Nat := key (loopAt Tryz.f61 0)
theorem markTextL_stepok (x : markTextL_vars.den) : stepOf (mkEnv [] []) Tryz.f61.ntmps markTextL_vars 0 (loopAt Tryz.f61 0) x = markTextL_step x := by kernel_rfl
theorem markTextL_ok : LoopOK Tryz.prog Tryz.f61.ntmps markTextL_L (loopAt Tryz.f61 0)   := iterP_loop (n := Tryz.f61.ntmps) (vs := markTextL_vars) (out := 0) (body := loopAt Tryz.f61 0) (mkEnv_ok (cons := []) trivial []) markTextL_step markTextL_fuel (by exact trivial) markTextL_stepok

def markText : Int → Option (ByteArray) :=
fun x =>
  br (decide (x ≤ (0 : Int))) (some (⟨⟨[(109 : UInt8), (48 : UInt8)]⟩⟩ : ByteArray))
    (ob (markTextL (x, (⟨⟨[]⟩⟩ : ByteArray))) fun r =>
      br (decide ((⟨⟨[(109 : UInt8)]⟩⟩ : ByteArray).size + ByteArray.size r.2 ≤ (9223372036854775807 : Nat)))
        (some ((⟨⟨[(109 : UInt8)]⟩⟩ : ByteArray) ++ r.2)) none)
def markText_con : Con := ⟨[i64], [.d (.str)], markText⟩
theorem markText_run (x : Dens [i64]) : runFn (mkEnv [] [(markTextL_key, markTextL_L)]) Tryz.f61 [i64] [.d (.str)] x = markText x := by kernel_rfl
theorem markText_ok : markText_con.ok Tryz.prog 61 := fn_ok (con := markText_con) (mkEnv_ok (cons := []) trivial [(markTextL_key, markTextL_L)]) Tryz.func61 rfl (by kernel_rfl) (by exact ⟨markTextL_ok, trivial⟩) (fun x y h => (markText_run x).trans h)







end Rx
end Go.Proofs.YtonbgpliomhboaaGreatDoor

namespace Go.Proofs.YtonbgpliomhboaaGreatDoor
namespace Rx
open Go

noncomputable section




def markIntDL_vars : Vars := [(0, .row 2 2 (i64)), (1, .val (i64)), (5, .val (i64))]
def markIntDL_step : List (Int) × Int × Int → Option (LRes × (List (Int) × Int × Int)) :=
fun x =>
  br (decide (x.snd.2 < (↑x.1.length : Int)))
    (ob (idx x.1 x.snd.2) fun x_1 =>
      ob (x.1.get?Internal (Int.toNat x.snd.2)) fun x_2 =>
        some
          (LRes.next, x.1.set (Int.toNat x.snd.2) x.snd.1, IntKind.i64.wrap (x.snd.1 + (1 : Int)),
            IntKind.i64.wrap (x.snd.2 + (1 : Int))))
    (some (LRes.out, x.1, x.snd.1, x.snd.2))
def markIntDL_fuel : List (Int) × Int × Int → Nat := fun s => (s.1.length - s.2.2.toNat) + 1
def markIntDL : List (Int) × Int × Int → Option (List (Int) × Int × Int) := fun s => iterP markIntDL_step (markIntDL_fuel s) s
def markIntDL_L : LoopC := ⟨markIntDL_vars, 0, .plain markIntDL⟩
noncomputable def markIntDL_key : Nat := key (loopAt Tryz.f62 0)
theorem markIntDL_stepok (x : markIntDL_vars.den) : stepOf (mkEnv [] []) Tryz.f62.ntmps markIntDL_vars 0 (loopAt Tryz.f62 0) x = markIntDL_step x := by kernel_rfl
theorem markIntDL_ok : LoopOK Tryz.prog Tryz.f62.ntmps markIntDL_L (loopAt Tryz.f62 0)   := iterP_loop (n := Tryz.f62.ntmps) (vs := markIntDL_vars) (out := 0) (body := loopAt Tryz.f62 0) (mkEnv_ok (cons := []) trivial []) markIntDL_step markIntDL_fuel (by exact trivial) markIntDL_stepok

def markIntD : List (Int) × Int → Option ((Int) × (List (Int) × Int)) :=
fun x => ob (markIntDL (x.1, x.2, (0 : Int))) fun r => some (r.snd.1, r.1, x.2)
def markIntD_con : MCon := ⟨[.v (.row 2 (i64)), .v (.d (i64))], [.d (i64)], markIntD⟩
theorem markIntD_run (x : ADens [.v (.row 2 (i64)), .v (.d (i64))]) : runFnM (mkEnv [] [(markIntDL_key, markIntDL_L)]) Tryz.f62 [.v (.row 2 (i64)), .v (.d (i64))] [.d (i64)] x = markIntD x := by kernel_rfl
theorem markIntD_ok : markIntD_con.ok Tryz.prog 62 := fnM_ok (con := markIntD_con) (mkEnv_ok (cons := []) trivial [(markIntDL_key, markIntDL_L)]) Tryz.func62 rfl (by kernel_rfl) (by exact ⟨markIntDL_ok, trivial⟩) (fun x y h => (markIntD_run x).trans h)

def markArborL_vars : Vars := [(0, .deep 2 56 (.pair (.d (.str)) (.row 2 (i64)))), (1, .val (i64)), (5, .val (i64))]
def markArborL_step : List ((ByteArray × List (Int))) × Int × Int → Option (LRes × (List ((ByteArray × List (Int))) × Int × Int)) :=
fun x =>
  br (decide (x.snd.2 < (↑x.1.length : Int)))
    (ob (markText x.snd.1) fun y =>
      ob (idx x.1 x.snd.2) fun x_1 =>
        ob (x.1.get?Internal (Int.toNat x.snd.2)) fun x_2 =>
          ob (idx x.1 x.snd.2) fun x_3 =>
            br (decide (Int.toNat x.snd.2 = Int.toNat x.snd.2))
              (ob (markIntD (x_2.2, IntKind.i64.wrap (x.snd.1 + (1 : Int)))) fun y_1 =>
                some
                  (LRes.next, x.1.set (Int.toNat x.snd.2) (y, y_1.snd.1), y_1.1,
                    IntKind.i64.wrap (x.snd.2 + (1 : Int))))
              none)
    (some (LRes.out, x.1, x.snd.1, x.snd.2))
def markArborL_fuel : List ((ByteArray × List (Int))) × Int × Int → Nat := fun s => (s.1.length - s.2.2.toNat) + 1
def markArborL : List ((ByteArray × List (Int))) × Int × Int → Option (List ((ByteArray × List (Int))) × Int × Int) := fun s => iterP markArborL_step (markArborL_fuel s) s
def markArborL_L : LoopC := ⟨markArborL_vars, 0, .plain markArborL⟩
noncomputable def markArborL_key : Nat := key (loopAt Tryz.f28 0)
theorem markArborL_stepok (x : markArborL_vars.den) : stepOf (deepE [(56, .pair (.d (.str)) (.row 2 (i64)))] (mkEnvM [(61, markText_con)] [(62, markIntD_con)] [])) Tryz.f28.ntmps markArborL_vars 0 (loopAt Tryz.f28 0) x = markArborL_step x := by kernel_rfl
theorem markArborL_ok : LoopOK Tryz.prog Tryz.f28.ntmps markArborL_L (loopAt Tryz.f28 0)   := iterP_loop (n := Tryz.f28.ntmps) (vs := markArborL_vars) (out := 0) (body := loopAt Tryz.f28 0) (deepE_ok (d := [(56, .pair (.d (.str)) (.row 2 (i64)))]) (mkEnvM_ok (cons := [(61, markText_con)]) (mcons := [(62, markIntD_con)]) ⟨markText_ok, trivial⟩ ⟨markIntD_ok, trivial⟩ [])) markArborL_step markArborL_fuel (by exact trivial) markArborL_stepok

def markArborD : List ((ByteArray × List (Int))) × Int → Option ((Int) × (List ((ByteArray × List (Int))) × Int)) :=
fun x => ob (markArborL (x.1, x.2, (0 : Int))) fun r => some (r.snd.1, r.1, x.2)
def markArborD_con : MCon := ⟨[.v (.deep 56 (.pair (.d (.str)) (.row 2 (i64)))), .v (.d (i64))], [.d (i64)], markArborD⟩
theorem markArborD_run (x : ADens [.v (.deep 56 (.pair (.d (.str)) (.row 2 (i64)))), .v (.d (i64))]) : runFnM (deepE [(56, .pair (.d (.str)) (.row 2 (i64)))] (mkEnvM [(61, markText_con)] [(62, markIntD_con)] [(markArborL_key, markArborL_L)])) Tryz.f28 [.v (.deep 56 (.pair (.d (.str)) (.row 2 (i64)))), .v (.d (i64))] [.d (i64)] x = markArborD x := by kernel_rfl
theorem markArborD_ok : markArborD_con.ok Tryz.prog 28 := fnM_ok (con := markArborD_con) (deepE_ok (d := [(56, .pair (.d (.str)) (.row 2 (i64)))]) (mkEnvM_ok (cons := [(61, markText_con)]) (mcons := [(62, markIntD_con)]) ⟨markText_ok, trivial⟩ ⟨markIntD_ok, trivial⟩ [(markArborL_key, markArborL_L)])) Tryz.func28 rfl (by kernel_rfl) (by exact ⟨markArborL_ok, trivial⟩) (fun x y h => (markArborD_run x).trans h)

def markMeshL_vars : Vars := [(0, .row 2 61 (.pair (i64) (.pair (i64) (.pair (i64) (i64))))), (1, .val (i64)), (5, .val (i64))]
def markMeshL_step : List ((Int × Int × Int × Int)) × Int × Int → Option (LRes × (List ((Int × Int × Int × Int)) × Int × Int)) :=
fun x =>
  br (decide (x.snd.2 < (↑x.1.length : Int)))
    (ob (idx x.1 x.snd.2) fun x_1 =>
      ob (x.1.get?Internal (Int.toNat x.snd.2)) fun x_2 =>
        ob (idx (x.1.set (Int.toNat x.snd.2) (x.snd.1, x_2.snd.1, x_2.snd.snd.1, x_2.snd.snd.2)) x.snd.2) fun x_3 =>
          ob
            ((x.1.set (Int.toNat x.snd.2) (x.snd.1, x_2.snd.1, x_2.snd.snd.1, x_2.snd.snd.2)).get?Internal
              (Int.toNat x.snd.2))
            fun x_4 =>
            ob
              (idx
                ((x.1.set (Int.toNat x.snd.2) (x.snd.1, x_2.snd.1, x_2.snd.snd.1, x_2.snd.snd.2)).set
                  (Int.toNat x.snd.2) (x_4.1, IntKind.i64.wrap (x.snd.1 + (1 : Int)), x_4.snd.snd.1, x_4.snd.snd.2))
                x.snd.2)
              fun x_5 =>
              ob
                (((x.1.set (Int.toNat x.snd.2) (x.snd.1, x_2.snd.1, x_2.snd.snd.1, x_2.snd.snd.2)).set
                      (Int.toNat x.snd.2)
                      (x_4.1, IntKind.i64.wrap (x.snd.1 + (1 : Int)), x_4.snd.snd.1, x_4.snd.snd.2)).get?Internal
                  (Int.toNat x.snd.2))
                fun x_6 =>
                ob
                  (idx
                    (((x.1.set (Int.toNat x.snd.2) (x.snd.1, x_2.snd.1, x_2.snd.snd.1, x_2.snd.snd.2)).set
                          (Int.toNat x.snd.2)
                          (x_4.1, IntKind.i64.wrap (x.snd.1 + (1 : Int)), x_4.snd.snd.1, x_4.snd.snd.2)).set
                      (Int.toNat x.snd.2)
                      (x_6.1, x_6.snd.1, IntKind.i64.wrap (IntKind.i64.wrap (x.snd.1 + (1 : Int)) + (1 : Int)),
                        x_6.snd.snd.2))
                    x.snd.2)
                  fun x_7 =>
                  ob
                    ((((x.1.set (Int.toNat x.snd.2) (x.snd.1, x_2.snd.1, x_2.snd.snd.1, x_2.snd.snd.2)).set
                              (Int.toNat x.snd.2)
                              (x_4.1, IntKind.i64.wrap (x.snd.1 + (1 : Int)), x_4.snd.snd.1, x_4.snd.snd.2)).set
                          (Int.toNat x.snd.2)
                          (x_6.1, x_6.snd.1, IntKind.i64.wrap (IntKind.i64.wrap (x.snd.1 + (1 : Int)) + (1 : Int)),
                            x_6.snd.snd.2)).get?Internal
                      (Int.toNat x.snd.2))
                    fun x_8 =>
                    some
                      (LRes.next,
                        (((x.1.set (Int.toNat x.snd.2) (x.snd.1, x_2.snd.1, x_2.snd.snd.1, x_2.snd.snd.2)).set
                                  (Int.toNat x.snd.2)
                                  (x_4.1, IntKind.i64.wrap (x.snd.1 + (1 : Int)), x_4.snd.snd.1, x_4.snd.snd.2)).set
                              (Int.toNat x.snd.2)
                              (x_6.1, x_6.snd.1, IntKind.i64.wrap (IntKind.i64.wrap (x.snd.1 + (1 : Int)) + (1 : Int)),
                                x_6.snd.snd.2)).set
                          (Int.toNat x.snd.2)
                          (x_8.1, x_8.snd.1, x_8.snd.snd.1,
                            IntKind.i64.wrap
                              (IntKind.i64.wrap (IntKind.i64.wrap (x.snd.1 + (1 : Int)) + (1 : Int)) + (1 : Int))),
                        IntKind.i64.wrap
                          (IntKind.i64.wrap
                              (IntKind.i64.wrap (IntKind.i64.wrap (x.snd.1 + (1 : Int)) + (1 : Int)) + (1 : Int)) +
                            (1 : Int)),
                        IntKind.i64.wrap (x.snd.2 + (1 : Int))))
    (some (LRes.out, x.1, x.snd.1, x.snd.2))
def markMeshL_fuel : List ((Int × Int × Int × Int)) × Int × Int → Nat := fun s => (s.1.length - s.2.2.toNat) + 1
def markMeshL : List ((Int × Int × Int × Int)) × Int × Int → Option (List ((Int × Int × Int × Int)) × Int × Int) := fun s => iterP markMeshL_step (markMeshL_fuel s) s
def markMeshL_L : LoopC := ⟨markMeshL_vars, 0, .plain markMeshL⟩
noncomputable def markMeshL_key : Nat := key (loopAt Tryz.f29 0)
theorem markMeshL_stepok (x : markMeshL_vars.den) : stepOf (mkEnv [] []) Tryz.f29.ntmps markMeshL_vars 0 (loopAt Tryz.f29 0) x = markMeshL_step x := by kernel_rfl
theorem markMeshL_ok : LoopOK Tryz.prog Tryz.f29.ntmps markMeshL_L (loopAt Tryz.f29 0)   := iterP_loop (n := Tryz.f29.ntmps) (vs := markMeshL_vars) (out := 0) (body := loopAt Tryz.f29 0) (mkEnv_ok (cons := []) trivial []) markMeshL_step markMeshL_fuel (by exact trivial) markMeshL_stepok

def markMeshD : List ((Int × Int × Int × Int)) × Int → Option ((Int) × (List ((Int × Int × Int × Int)) × Int)) :=
fun x => ob (markMeshL (x.1, x.2, (0 : Int))) fun r => some (r.snd.1, r.1, x.2)
def markMeshD_con : MCon := ⟨[.v (.row 61 (.pair (i64) (.pair (i64) (.pair (i64) (i64))))), .v (.d (i64))], [.d (i64)], markMeshD⟩
theorem markMeshD_run (x : ADens [.v (.row 61 (.pair (i64) (.pair (i64) (.pair (i64) (i64))))), .v (.d (i64))]) : runFnM (mkEnv [] [(markMeshL_key, markMeshL_L)]) Tryz.f29 [.v (.row 61 (.pair (i64) (.pair (i64) (.pair (i64) (i64))))), .v (.d (i64))] [.d (i64)] x = markMeshD x := by kernel_rfl
theorem markMeshD_ok : markMeshD_con.ok Tryz.prog 29 := fnM_ok (con := markMeshD_con) (mkEnv_ok (cons := []) trivial [(markMeshL_key, markMeshL_L)]) Tryz.func29 rfl (by kernel_rfl) (by exact ⟨markMeshL_ok, trivial⟩) (fun x y h => (markMeshD_run x).trans h)

def markWorksD : (List ((ByteArray × List (Int))) × List ((Int × Int × Int × Int))) × Int → Option ((Int) × ((List ((ByteArray × List (Int))) × List ((Int × Int × Int × Int))) × Int)) :=
fun x =>
  ob (markArborD (x.fst.1, x.2)) fun y =>
    ob (markMeshD (x.fst.2, y.1)) fun y_1 => some (y_1.1, (y.snd.1, y_1.snd.1), x.2)
def markWorksD_con : MCon := ⟨[.v (.pair (.deep 56 (.pair (.d (.str)) (.row 2 (i64)))) (.row 61 (.pair (i64) (.pair (i64) (.pair (i64) (i64)))))), .v (.d (i64))], [.d (i64)], markWorksD⟩
theorem markWorksD_run (x : ADens [.v (.pair (.deep 56 (.pair (.d (.str)) (.row 2 (i64)))) (.row 61 (.pair (i64) (.pair (i64) (.pair (i64) (i64)))))), .v (.d (i64))]) : runFnM (deepE [(56, .pair (.d (.str)) (.row 2 (i64)))] (mkEnvM [] [(28, markArborD_con), (29, markMeshD_con)] [])) Tryz.f8 [.v (.pair (.deep 56 (.pair (.d (.str)) (.row 2 (i64)))) (.row 61 (.pair (i64) (.pair (i64) (.pair (i64) (i64)))))), .v (.d (i64))] [.d (i64)] x = markWorksD x := by kernel_rfl
theorem markWorksD_ok : markWorksD_con.ok Tryz.prog 8 := fnM_ok (con := markWorksD_con) (deepE_ok (d := [(56, .pair (.d (.str)) (.row 2 (i64)))]) (mkEnvM_ok (cons := []) (mcons := [(28, markArborD_con), (29, markMeshD_con)]) trivial ⟨markArborD_ok, markMeshD_ok, trivial⟩ [])) Tryz.func8 rfl (by kernel_rfl) (by exact trivial) (fun x y h => (markWorksD_run x).trans h)

def heldIntDL_vars : Vars := [(0, .val (.slice (i64))), (1, .val (i64)), (4, .val (i64)), (5, .val (i64))]
def heldIntDL_step : List (Int) × Int × Int × Int → Option (LRes × (List (Int) × Int × Int × Int)) :=
fun x =>
  br (decide (x.snd.snd.2 < (↑x.1.length : Int)))
    (ob (idx x.1 x.snd.snd.2) fun y =>
      br (y != x.snd.1) (some (LRes.ret, x.1, x.snd.1, (-1 : Int), x.snd.snd.2))
        (some
          (LRes.next, x.1, IntKind.i64.wrap (x.snd.1 + (1 : Int)), x.snd.snd.1,
            IntKind.i64.wrap (x.snd.snd.2 + (1 : Int)))))
    (some (LRes.out, x.1, x.snd.1, x.snd.snd.1, x.snd.snd.2))
def heldIntDL_fuel : List (Int) × Int × Int × Int → Nat := fun s => (s.1.length - s.2.2.2.toNat) + 1
def heldIntDL : List (Int) × Int × Int × Int → Option (Bool × (List (Int) × Int × Int × Int)) := fun s => iter heldIntDL_step (heldIntDL_fuel s) s
def heldIntDL_L : LoopC := ⟨heldIntDL_vars, 0, .two heldIntDL⟩
noncomputable def heldIntDL_key : Nat := key (loopAt Tryz.f63 0)
theorem heldIntDL_stepok (x : heldIntDL_vars.den) : stepOf (mkEnv [] []) Tryz.f63.ntmps heldIntDL_vars 0 (loopAt Tryz.f63 0) x = heldIntDL_step x := by kernel_rfl
theorem heldIntDL_ok : LoopOK Tryz.prog Tryz.f63.ntmps heldIntDL_L (loopAt Tryz.f63 0)   := iter_loop (n := Tryz.f63.ntmps) (vs := heldIntDL_vars) (out := 0) (body := loopAt Tryz.f63 0) (mkEnv_ok (cons := []) trivial []) heldIntDL_step heldIntDL_fuel (by exact trivial) heldIntDL_stepok

def heldIntD : List (Int) × Int → Option (Int) :=
fun x => ob (heldIntDL (x.1, x.2, (0 : Int), (0 : Int))) fun r => br r.1 (some r.snd.snd.1) (some r.snd.snd.snd.1)
def heldIntD_con : Con := ⟨[.slice (i64), i64], [.d (i64)], heldIntD⟩
theorem heldIntD_run (x : Dens [.slice (i64), i64]) : runFn (mkEnv [] [(heldIntDL_key, heldIntDL_L)]) Tryz.f63 [.slice (i64), i64] [.d (i64)] x = heldIntD x := by kernel_rfl
theorem heldIntD_ok : heldIntD_con.ok Tryz.prog 63 := fn_ok (con := heldIntD_con) (mkEnv_ok (cons := []) trivial [(heldIntDL_key, heldIntDL_L)]) Tryz.func63 rfl (by kernel_rfl) (by exact ⟨heldIntDL_ok, trivial⟩) (fun x y h => (heldIntD_run x).trans h)

def heldArborL_vars : Vars := [(0, .val (.slice (.pair (.str) (.slice (i64))))), (1, .val (i64)), (4, .val (i64)), (5, .val (i64))]
def heldArborL_step : List ((ByteArray × List (Int))) × Int × Int × Int → Option (LRes × (List ((ByteArray × List (Int))) × Int × Int × Int)) :=
fun x =>
  br (decide (x.snd.snd.2 < (↑x.1.length : Int)))
    (ob (idx x.1 x.snd.snd.2) fun y =>
      ob (markText x.snd.1) fun y_1 =>
        br (!ByteArray.toList y.1 == ByteArray.toList y_1) (some (LRes.ret, x.1, x.snd.1, (-1 : Int), x.snd.snd.2))
          (ob (idx x.1 x.snd.snd.2) fun y =>
            ob (heldIntD (y.2, IntKind.i64.wrap (x.snd.1 + (1 : Int)))) fun y =>
              br (decide (y < (0 : Int))) (some (LRes.ret, x.1, y, (-1 : Int), x.snd.snd.2))
                (some (LRes.next, x.1, y, x.snd.snd.1, IntKind.i64.wrap (x.snd.snd.2 + (1 : Int))))))
    (some (LRes.out, x.1, x.snd.1, x.snd.snd.1, x.snd.snd.2))
def heldArborL_fuel : List ((ByteArray × List (Int))) × Int × Int × Int → Nat := fun s => (s.1.length - s.2.2.2.toNat) + 1
def heldArborL : List ((ByteArray × List (Int))) × Int × Int × Int → Option (Bool × (List ((ByteArray × List (Int))) × Int × Int × Int)) := fun s => iter heldArborL_step (heldArborL_fuel s) s
def heldArborL_L : LoopC := ⟨heldArborL_vars, 0, .two heldArborL⟩
noncomputable def heldArborL_key : Nat := key (loopAt Tryz.f30 0)
theorem heldArborL_stepok (x : heldArborL_vars.den) : stepOf (mkEnv [(61, markText_con), (63, heldIntD_con)] []) Tryz.f30.ntmps heldArborL_vars 0 (loopAt Tryz.f30 0) x = heldArborL_step x := by kernel_rfl
theorem heldArborL_ok : LoopOK Tryz.prog Tryz.f30.ntmps heldArborL_L (loopAt Tryz.f30 0)   := iter_loop (n := Tryz.f30.ntmps) (vs := heldArborL_vars) (out := 0) (body := loopAt Tryz.f30 0) (mkEnv_ok (cons := [(61, markText_con), (63, heldIntD_con)]) ⟨markText_ok, heldIntD_ok, trivial⟩ []) heldArborL_step heldArborL_fuel (by exact trivial) heldArborL_stepok

def heldArborD : List ((ByteArray × List (Int))) × Int → Option (Int) :=
fun x => ob (heldArborL (x.1, x.2, (0 : Int), (0 : Int))) fun r => br r.1 (some r.snd.snd.1) (some r.snd.snd.snd.1)
def heldArborD_con : Con := ⟨[.slice (.pair (.str) (.slice (i64))), i64], [.d (i64)], heldArborD⟩
theorem heldArborD_run (x : Dens [.slice (.pair (.str) (.slice (i64))), i64]) : runFn (mkEnv [(61, markText_con), (63, heldIntD_con)] [(heldArborL_key, heldArborL_L)]) Tryz.f30 [.slice (.pair (.str) (.slice (i64))), i64] [.d (i64)] x = heldArborD x := by kernel_rfl
theorem heldArborD_ok : heldArborD_con.ok Tryz.prog 30 := fn_ok (con := heldArborD_con) (mkEnv_ok (cons := [(61, markText_con), (63, heldIntD_con)]) ⟨markText_ok, heldIntD_ok, trivial⟩ [(heldArborL_key, heldArborL_L)]) Tryz.func30 rfl (by kernel_rfl) (by exact ⟨heldArborL_ok, trivial⟩) (fun x y h => (heldArborD_run x).trans h)

def heldMeshL_vars : Vars := [(0, .val (.slice (.pair (i64) (.pair (i64) (.pair (i64) (i64)))))), (1, .val (i64)), (4, .val (i64)), (5, .val (i64))]
def heldMeshL_step : List ((Int × Int × Int × Int)) × Int × Int × Int → Option (LRes × (List ((Int × Int × Int × Int)) × Int × Int × Int)) :=
fun x =>
  br (decide (x.snd.snd.2 < (↑x.1.length : Int)))
    (ob (idx x.1 x.snd.snd.2) fun y =>
      br (y.1 != x.snd.1) (some (LRes.ret, x.1, x.snd.1, (-1 : Int), x.snd.snd.2))
        (ob (idx x.1 x.snd.snd.2) fun y =>
          br (y.snd.1 != IntKind.i64.wrap (x.snd.1 + (1 : Int)))
            (some (LRes.ret, x.1, IntKind.i64.wrap (x.snd.1 + (1 : Int)), (-1 : Int), x.snd.snd.2))
            (ob (idx x.1 x.snd.snd.2) fun y =>
              br (y.snd.snd.1 != IntKind.i64.wrap (IntKind.i64.wrap (x.snd.1 + (1 : Int)) + (1 : Int)))
                (some
                  (LRes.ret, x.1, IntKind.i64.wrap (IntKind.i64.wrap (x.snd.1 + (1 : Int)) + (1 : Int)), (-1 : Int),
                    x.snd.snd.2))
                (ob (idx x.1 x.snd.snd.2) fun y =>
                  br
                    (y.snd.snd.2 !=
                      IntKind.i64.wrap
                        (IntKind.i64.wrap (IntKind.i64.wrap (x.snd.1 + (1 : Int)) + (1 : Int)) + (1 : Int)))
                    (some
                      (LRes.ret, x.1,
                        IntKind.i64.wrap
                          (IntKind.i64.wrap (IntKind.i64.wrap (x.snd.1 + (1 : Int)) + (1 : Int)) + (1 : Int)),
                        (-1 : Int), x.snd.snd.2))
                    (some
                      (LRes.next, x.1,
                        IntKind.i64.wrap
                          (IntKind.i64.wrap
                              (IntKind.i64.wrap (IntKind.i64.wrap (x.snd.1 + (1 : Int)) + (1 : Int)) + (1 : Int)) +
                            (1 : Int)),
                        x.snd.snd.1, IntKind.i64.wrap (x.snd.snd.2 + (1 : Int))))))))
    (some (LRes.out, x.1, x.snd.1, x.snd.snd.1, x.snd.snd.2))
def heldMeshL_fuel : List ((Int × Int × Int × Int)) × Int × Int × Int → Nat := fun s => (s.1.length - s.2.2.2.toNat) + 1
def heldMeshL : List ((Int × Int × Int × Int)) × Int × Int × Int → Option (Bool × (List ((Int × Int × Int × Int)) × Int × Int × Int)) := fun s => iter heldMeshL_step (heldMeshL_fuel s) s
def heldMeshL_L : LoopC := ⟨heldMeshL_vars, 0, .two heldMeshL⟩
noncomputable def heldMeshL_key : Nat := key (loopAt Tryz.f31 0)
theorem heldMeshL_stepok (x : heldMeshL_vars.den) : stepOf (mkEnv [] []) Tryz.f31.ntmps heldMeshL_vars 0 (loopAt Tryz.f31 0) x = heldMeshL_step x := by kernel_rfl
theorem heldMeshL_ok : LoopOK Tryz.prog Tryz.f31.ntmps heldMeshL_L (loopAt Tryz.f31 0)   := iter_loop (n := Tryz.f31.ntmps) (vs := heldMeshL_vars) (out := 0) (body := loopAt Tryz.f31 0) (mkEnv_ok (cons := []) trivial []) heldMeshL_step heldMeshL_fuel (by exact trivial) heldMeshL_stepok

def heldMeshD : List ((Int × Int × Int × Int)) × Int → Option (Int) :=
fun x => ob (heldMeshL (x.1, x.2, (0 : Int), (0 : Int))) fun r => br r.1 (some r.snd.snd.1) (some r.snd.snd.snd.1)
def heldMeshD_con : Con := ⟨[.slice (.pair (i64) (.pair (i64) (.pair (i64) (i64)))), i64], [.d (i64)], heldMeshD⟩
theorem heldMeshD_run (x : Dens [.slice (.pair (i64) (.pair (i64) (.pair (i64) (i64)))), i64]) : runFn (mkEnv [] [(heldMeshL_key, heldMeshL_L)]) Tryz.f31 [.slice (.pair (i64) (.pair (i64) (.pair (i64) (i64)))), i64] [.d (i64)] x = heldMeshD x := by kernel_rfl
theorem heldMeshD_ok : heldMeshD_con.ok Tryz.prog 31 := fn_ok (con := heldMeshD_con) (mkEnv_ok (cons := []) trivial [(heldMeshL_key, heldMeshL_L)]) Tryz.func31 rfl (by kernel_rfl) (by exact ⟨heldMeshL_ok, trivial⟩) (fun x y h => (heldMeshD_run x).trans h)

def heldWorksD : (List ((ByteArray × List (Int))) × List ((Int × Int × Int × Int))) × Int → Option (Int) :=
fun x =>
  ob (heldArborD (x.fst.1, x.2)) fun y =>
    br (decide (y < (0 : Int))) (some (-1 : Int))
      (ob (heldMeshD (x.fst.2, y)) fun y => br (decide (y < (0 : Int))) (some (-1 : Int)) (some y))
def heldWorksD_con : Con := ⟨[.pair (.slice (.pair (.str) (.slice (i64)))) (.slice (.pair (i64) (.pair (i64) (.pair (i64) (i64))))), i64], [.d (i64)], heldWorksD⟩
theorem heldWorksD_run (x : Dens [.pair (.slice (.pair (.str) (.slice (i64)))) (.slice (.pair (i64) (.pair (i64) (.pair (i64) (i64))))), i64]) : runFn (mkEnv [(30, heldArborD_con), (31, heldMeshD_con)] []) Tryz.f9 [.pair (.slice (.pair (.str) (.slice (i64)))) (.slice (.pair (i64) (.pair (i64) (.pair (i64) (i64))))), i64] [.d (i64)] x = heldWorksD x := by kernel_rfl
theorem heldWorksD_ok : heldWorksD_con.ok Tryz.prog 9 := fn_ok (con := heldWorksD_con) (mkEnv_ok (cons := [(30, heldArborD_con), (31, heldMeshD_con)]) ⟨heldArborD_ok, heldMeshD_ok, trivial⟩ []) Tryz.func9 rfl (by kernel_rfl) (by exact trivial) (fun x y h => (heldWorksD_run x).trans h)

end
end Rx
end Go.Proofs.YtonbgpliomhboaaGreatDoor

namespace Go.Proofs.YtonbgpliomhboaaGreatDoor
namespace Rx
open Go

/-! Marks that are texts -/
theorem bytesOf_one' (n : Int) : (bytesOf [n]).size = 1 := rfl
theorem markTxtL_tot : ∀ (n : Nat) (k : Int) (s : ByteArray), k.toNat < n → 0 ≤ k → (s.size : Int) + k ≤ 400000000000000 → ∃ r : ByteArray, iterP markTextL_step n (k, s) = some (0, r) ∧ (r.size : Int) ≤ s.size + k
  | 0, _, _, h, _, _ => by omega
  | n + 1, k, s, h, h0, hb => by
    show ∃ r, ob (markTextL_step (k, s)) _ = _ ∧ _
    by_cases hk : 0 < k
    · have hd : k.tdiv 10 = k / 10 := Int.tdiv_eq_ediv_of_nonneg h0
      have e : markTextL_step (k, s) = some (LRes.next, k / 10, bytesOf [IntKind.u8.wrap (IntKind.i64.wrap (48 + k.tmod 10))] ++ s) := by
        show br (decide (0 < k)) (br (decide (_ + s.size ≤ 9223372036854775807)) _ none) _ = _
        rw [br_t (by simpa using hk), bytesOf_one', br_t (by simp; omega), hd, w64 (by omega) (by omega)]
      rw [e]
      have hsz : ((bytesOf [IntKind.u8.wrap (IntKind.i64.wrap (48 + k.tmod 10))] ++ s).size : Int) = 1 + s.size := by
        rw [ByteArray.size_append, bytesOf_one']; omega
      obtain ⟨r, h1, h2⟩ := markTxtL_tot n (k / 10) (bytesOf [IntKind.u8.wrap (IntKind.i64.wrap (48 + k.tmod 10))] ++ s) (by omega) (by omega) (by omega)
      exact ⟨r, h1, by omega⟩
    · have : k = 0 := by omega
      subst this
      exact ⟨s, rfl, by omega⟩
theorem markTxt_tot (k : Int) (h : k ≤ 200000000000000) : ∃ t, markText k = some t := by
  show ∃ t, br (decide (k ≤ 0)) _ (ob (markTextL (k, _)) _) = _
  by_cases hk : k ≤ 0
  · rw [br_t (by simpa using hk)]; exact ⟨_, rfl⟩
  · rw [br_f (by simpa using hk)]
    obtain ⟨r, h1, h2⟩ := markTxtL_tot (k.toNat + 1) k ⟨⟨[]⟩⟩ (by omega) (by omega) (by show ((0 : Nat) : Int) + k ≤ _; omega)
    have h1' : markTextL (k, ⟨⟨[]⟩⟩) = some (0, r) := h1
    rw [h1']
    have h2' : (r.size : Int) ≤ ((0 : Nat) : Int) + k := h2
    show ∃ t, br (decide (1 + r.size ≤ 9223372036854775807)) _ none = _
    rw [br_t (by simp; omega)]
    exact ⟨_, rfl⟩
noncomputable def txtOf (k : Int) : ByteArray := (markText k).getD ⟨⟨[]⟩⟩
theorem markTxt_eq {k : Int} (h : k ≤ 200000000000000) : markText k = some (txtOf k) := by
  obtain ⟨t, ht⟩ := markTxt_tot k h
  unfold txtOf
  rw [ht]; rfl

/-! Copies -/

/-! Marks of numbers -/
abbrev fI : Int → Int → Int := fun k _ => k
abbrev gI : Int → Int → Int := fun k _ => k + 1
theorem scanK_I : ∀ (l : List Int) (k : Int), scanK gI l k = k + l.length
  | [], k => by simp [scanK]
  | y :: l, k => by
    unfold scanK
    rw [scanK_I l, List.length_cons]
    show k + 1 + _ = _
    push_cast; omega
theorem markIntD_eq {l : List Int} (hl : l.length ≤ 1048576) {k : Int} (hk : 0 ≤ k ∧ k ≤ 10000000000000) : markIntD (l, k) = some (k + l.length, scanL fI gI l k, k) := by
  have h := scan_loop (step := markIntDL_step) (f := fI) (g := gI) (c := 1) (by omega) hl hk.1 (fun k y _ => ⟨by show k ≤ k + 1; omega, Int.le_refl _⟩)
    (fun l' k i y hl' h0 h1 k0 k1 _ hy hy2 => by
      show br (decide (i < (l'.length : Int))) (ob (idx l' i) fun _ => ob (l'[i.toNat]?) fun _ => some (LRes.next, l'.set i.toNat k, IntKind.i64.wrap (k + 1), IntKind.i64.wrap (i + 1))) _ = _
      rw [br_t (by simp; omega), hy, hy2, w64 (x := k + 1) (by omega) (by omega), w64 (x := i + 1) (by omega) (by omega)]; rfl)
    (fun l' k i hl' hi => by
      show br (decide (i < (l'.length : Int))) _ _ = _
      rw [br_f (by simp; omega)]) (n := l.length - (0 : Int).toNat + 1) (by simp)
  have h' : markIntDL (l, k, 0) = some (scanL fI gI l k, scanK gI l k, (l.length : Int)) := h
  unfold markIntD
  rw [h', scanK_I]; rfl
theorem heldIntD_eq {l : List Int} (hl : l.length ≤ 1048576) {k : Int} (hk : 0 ≤ k ∧ k ≤ 10000000000000) : heldIntD (scanL fI gI l k, k) = some (k + l.length) := by
  have hlen := scanL_len fI gI l k
  have h := scan_held (step := heldIntDL_step) (f := fI) (g := gI) (c := 1) (by omega) hl hk.1 (fun k y _ => ⟨by show k ≤ k + 1; omega, Int.le_refl _⟩)
    (fun k' r i y h0 h1 k0 k1 _ hy => by
      show br (decide (i < ((scanL fI gI l k).length : Int))) (ob (idx (scanL fI gI l k) i) fun y => br (y != k') _ (some (LRes.next, scanL fI gI l k, IntKind.i64.wrap (k' + 1), r, IntKind.i64.wrap (i + 1)))) _ = _
      rw [br_t (by simp; omega), hy, ob_s, br_f (by simp [fI]), w64 (x := k' + 1) (by omega) (by omega), w64 (x := i + 1) (by omega) (by omega)])
    (fun k' r i hi => by
      show br (decide (i < ((scanL fI gI l k).length : Int))) _ _ = _
      rw [br_f (by simp; omega)]) 0 (n := (scanL fI gI l k).length - (0 : Int).toNat + 1) (by rw [hlen]; simp)
  have h' : heldIntDL (scanL fI gI l k, k, 0, 0) = some (true, (scanL fI gI l k, scanK gI l k, 0, (l.length : Int))) := h
  unfold heldIntD
  rw [h', scanK_I]; rfl

/-! Marks of arbors -/
noncomputable abbrev fA : Int → ArborD → ArborD := fun k y => (txtOf k, scanL fI gI y.2 (k + 1))
abbrev gA : Int → ArborD → Int := fun k y => k + 1 + (y.2.length : Int)
theorem gA_bd {l : List ArborD} (hs : ∀ a ∈ l, a.2.length ≤ 1048576) (k : Int) (y : ArborD) (hy : y ∈ l) : k ≤ gA k y ∧ gA k y ≤ k + 1048577 := by
  have := hs y hy
  show k ≤ k + 1 + _ ∧ k + 1 + (y.2.length : Int) ≤ _
  omega
theorem scanA_bd {l : List ArborD} (hl : l.length ≤ 1048576) (hs : ∀ a ∈ l, a.2.length ≤ 1048576) (k : Int) : k ≤ scanK gA l k ∧ scanK gA l k ≤ k + 1100000000000 := by
  have h := scanK_bd (c := 1048577) (by omega) l k (gA_bd hs)
  omega
theorem markArborD_eq {l : List ArborD} (hl : l.length ≤ 1048576) (hs : ∀ a ∈ l, a.2.length ≤ 1048576) {k : Int} (hk : 0 ≤ k ∧ k ≤ 1000000000000) : markArborD (l, k) = some (scanK gA l k, scanL fA gA l k, k) := by
  have h := scan_loop (step := markArborL_step) (f := fA) (g := gA) (c := 1048577) (by omega) hl hk.1 (gA_bd hs)
    (fun l' k i y hl' h0 h1 k0 k1 hm hy hy2 => by
      have := hs y hm
      show br (decide (i < (l'.length : Int))) (ob (markText k) fun z => ob (idx l' i) fun _ => ob (l'[i.toNat]?) fun y => ob (idx l' i) fun _ => br (decide (i.toNat = i.toNat)) (ob (markIntD (y.2, IntKind.i64.wrap (k + 1))) fun u => some (LRes.next, l'.set i.toNat (z, u.snd.1), u.1, IntKind.i64.wrap (i + 1))) none) _ = _
      rw [br_t (by simp; omega), markTxt_eq (by omega), hy, hy2, ob_s, ob_s, ob_s, ob_s, br_t (by simp), w64 (x := k + 1) (by omega) (by omega), w64 (x := i + 1) (by omega) (by omega)]
      have e : markIntD (y.2, k + 1) = some (k + 1 + y.2.length, scanL fI gI y.2 (k + 1), k + 1) := markIntD_eq this ⟨by omega, by omega⟩
      rw [e]; rfl)
    (fun l' k i hl' hi => by
      show br (decide (i < (l'.length : Int))) _ _ = _
      rw [br_f (by simp; omega)]) (n := l.length - (0 : Int).toNat + 1) (by simp)
  have h' : markArborL (l, k, 0) = some (scanL fA gA l k, scanK gA l k, (l.length : Int)) := h
  unfold markArborD
  rw [h']; rfl
theorem heldArborD_eq {l : List ArborD} (hl : l.length ≤ 1048576) (hs : ∀ a ∈ l, a.2.length ≤ 1048576) {k : Int} (hk : 0 ≤ k ∧ k ≤ 1000000000000) : heldArborD (scanL fA gA l k, k) = some (scanK gA l k) := by
  have hlen := scanL_len fA gA l k
  have h := scan_held (step := heldArborL_step) (f := fA) (g := gA) (c := 1048577) (by omega) hl hk.1 (gA_bd hs)
    (fun k' r i y h0 h1 k0 k1 hm hy => by
      have := hs y hm
      have e : heldIntD (scanL fI gI y.2 (k' + 1), k' + 1) = some (k' + 1 + y.2.length) := heldIntD_eq this ⟨by omega, by omega⟩
      show br (decide (i < ((scanL fA gA l k).length : Int))) (ob (idx (scanL fA gA l k) i) fun y => ob (markText k') fun z => br (!(y.1.toList == z.toList)) _ (ob (idx (scanL fA gA l k) i) fun y => ob (heldIntD (y.2, IntKind.i64.wrap (k' + 1))) fun u => br (decide (u < 0)) _ (some (LRes.next, scanL fA gA l k, u, r, IntKind.i64.wrap (i + 1))))) _ = _
      rw [br_t (by simp; omega), hy, ob_s, markTxt_eq (by omega), ob_s, br_f (by simp), ob_s, w64 (x := k' + 1) (by omega) (by omega), w64 (x := i + 1) (by omega) (by omega)]
      show ob (heldIntD (scanL fI gI y.2 (k' + 1), k' + 1)) _ = _
      rw [e, ob_s, br_f (by simp; omega)])
    (fun k' r i hi => by
      show br (decide (i < ((scanL fA gA l k).length : Int))) _ _ = _
      rw [br_f (by simp; omega)]) 0 (n := (scanL fA gA l k).length - (0 : Int).toNat + 1) (by rw [hlen]; simp)
  have h' : heldArborL (scanL fA gA l k, k, 0, 0) = some (true, (scanL fA gA l k, scanK gA l k, 0, (l.length : Int))) := h
  unfold heldArborD
  rw [h']; rfl

/-! Marks of meshes -/
abbrev fM : Int → MeshD → MeshD := fun k _ => (k, k + 1, k + 2, k + 3)
abbrev gM : Int → MeshD → Int := fun k _ => k + 4
theorem gM_bd (k : Int) (y : MeshD) : k ≤ gM k y ∧ gM k y ≤ k + 4 := ⟨by show k ≤ k + 4; omega, Int.le_refl _⟩
theorem scanM_bd {l : List MeshD} (hl : l.length ≤ 1048576) (k : Int) : k ≤ scanK gM l k ∧ scanK gM l k ≤ k + 10000000 := by
  have h := scanK_bd (c := 4) (by omega) l k fun k y _ => gM_bd k y
  omega
theorem markMeshD_eq {l : List MeshD} (hl : l.length ≤ 1048576) {k : Int} (hk : 0 ≤ k ∧ k ≤ 10000000000000) : markMeshD (l, k) = some (scanK gM l k, scanL fM gM l k, k) := by
  have h := scan_loop (step := markMeshL_step) (f := fM) (g := gM) (c := 4) (by omega) hl hk.1 (fun k y _ => gM_bd k y)
    (fun l' k i y hl' h0 h1 k0 k1 _ hy hy2 => by
      unfold markMeshL_step
      dsimp only
      rw [br_t (by simp; omega), hy, gi, hy2, ob_s, ob_s, gi, idx_set h0 (by omega), get_set (by omega), ob_s, ob_s, gi, List.set_set, idx_set h0 (by omega), get_set (by omega), ob_s, ob_s, gi, List.set_set, idx_set h0 (by omega), get_set (by omega), ob_s, ob_s, List.set_set]
      rw [w64 (x := k + 1) (by omega) (by omega), w64 (x := k + 1 + 1) (by omega) (by omega), w64 (x := k + 1 + 1 + 1) (by omega) (by omega), w64 (x := k + 1 + 1 + 1 + 1) (by omega) (by omega), w64 (x := i + 1) (by omega) (by omega), show k + 1 + 1 = k + 2 by omega, show k + 2 + 1 = k + 3 by omega, show k + 3 + 1 = k + 4 by omega])
    (fun l' k i hl' hi => by
      show br (decide (i < (l'.length : Int))) _ _ = _
      rw [br_f (by simp; omega)]) (n := l.length - (0 : Int).toNat + 1) (by simp)
  have h' : markMeshL (l, k, 0) = some (scanL fM gM l k, scanK gM l k, (l.length : Int)) := h
  unfold markMeshD
  rw [h']; rfl
theorem heldMeshD_eq {l : List MeshD} (hl : l.length ≤ 1048576) {k : Int} (hk : 0 ≤ k ∧ k ≤ 10000000000000) : heldMeshD (scanL fM gM l k, k) = some (scanK gM l k) := by
  have hlen := scanL_len fM gM l k
  have h := scan_held (step := heldMeshL_step) (f := fM) (g := gM) (c := 4) (by omega) hl hk.1 (fun k y _ => gM_bd k y)
    (fun k' r i y h0 h1 k0 k1 _ hy => by
      unfold heldMeshL_step
      dsimp only
      rw [br_t (by simp; omega), hy, ob_s, br_f (by simp), ob_s, w64 (x := k' + 1) (by omega) (by omega), br_f (by simp), ob_s, w64 (x := k' + 1 + 1) (by omega) (by omega), br_f (by simp; omega), ob_s, w64 (x := k' + 1 + 1 + 1) (by omega) (by omega), br_f (by simp; omega), w64 (x := k' + 1 + 1 + 1 + 1) (by omega) (by omega), w64 (x := i + 1) (by omega) (by omega), show k' + 1 + 1 + 1 + 1 = k' + 4 by omega])
    (fun k' r i hi => by
      show br (decide (i < ((scanL fM gM l k).length : Int))) _ _ = _
      rw [br_f (by simp; omega)]) 0 (n := (scanL fM gM l k).length - (0 : Int).toNat + 1) (by rw [hlen]; simp)
  have h' : heldMeshL (scanL fM gM l k, k, 0, 0) = some (true, (scanL fM gM l k, scanK gM l k, 0, (l.length : Int))) := h
  unfold heldMeshD
  rw [h']; rfl
/-! Marks of works -/
noncomputable def markedW (w : WorksD) : WorksD := (scanL fA gA w.1 1, scanL fM gM w.2 (scanK gA w.1 1))
def marksW (w : WorksD) : Int := scanK gM w.2 (scanK gA w.1 1)
theorem marksW_pos {w : WorksD} (h : smallW w) : 0 ≤ marksW w := by
  have h1 := scanA_bd h.1 h.2.1 1
  have h2 := scanM_bd h.2.2 (scanK gA w.1 1)
  unfold marksW
  omega
theorem markWorksD_eq {w : WorksD} (h : smallW w) : markWorksD (w, 1) = some (marksW w, markedW w, 1) := by
  have h1 := scanA_bd h.1 h.2.1 1
  unfold markWorksD
  dsimp only
  rw [markArborD_eq h.1 h.2.1 ⟨by omega, by omega⟩, ob_s, markMeshD_eq h.2.2 ⟨by omega, by omega⟩]
  rfl
theorem markWorksD_tot {w : WorksD} (h : smallW w) : ∃ k w', markWorksD (w, 1) = some (k, w', 1) ∧ 0 ≤ k := ⟨_, _, markWorksD_eq h, marksW_pos h⟩
theorem heldWorksD_eq {w : WorksD} (h : smallW w) : heldWorksD (markedW w, 1) = some (marksW w) := by
  have h1 := scanA_bd h.1 h.2.1 1
  have h2 := scanM_bd h.2.2 (scanK gA w.1 1)
  unfold heldWorksD markedW
  dsimp only
  rw [heldArborD_eq h.1 h.2.1 ⟨by omega, by omega⟩, ob_s, br_f (by simp; omega), heldMeshD_eq h.2.2 ⟨by omega, by omega⟩, ob_s, br_f (by simp; omega)]
  rfl
end Rx
end Go.Proofs.YtonbgpliomhboaaGreatDoor
