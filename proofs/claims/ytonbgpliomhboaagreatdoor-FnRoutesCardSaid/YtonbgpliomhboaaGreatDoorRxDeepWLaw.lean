/- Loops that mark what lies in memory, and loops that look whether the marks are there. Plain facts. No conditions. -/
import Derived.Test.YtonbgpliomhboaaGreatDoorRxPlain
import Derived.Test.YtonbgpliomhboaaGreatDoorRxEnv
import Derived.Test.YtonbgpliomhboaaGreatDoorRxWorks
import Derived.Test.YtonbgpliomhboaaGreatDoorRxWorksLaw
namespace Go.Proofs.YtonbgpliomhboaaGreatDoor
namespace Rx
open Go
section
variable {α : Type}

/-- Each element is changed, with a number that goes on. -/
def scanL (f : Int → α → α) (g : Int → α → Int) : List α → Int → List α
  | [], _ => []
  | y :: l, k => f k y :: scanL f g l (g k y)
theorem get_mid {a : List α} {y : α} {b : List α} : (a ++ y :: b)[a.length]? = some y := by
  rw [List.getElem?_append_right (Nat.le_refl _), Nat.sub_self]; rfl

end

/-! ### Loops that return other variables -/
theorem iterA_sim {α β α' β' : Type} {stepA : α → Option (LS α β)} {stepB : α' → Option (LS α' β')} (I O : α → α' → Prop) (Q : β → β' → Prop) (mu : α → Nat)
    (h : ∀ a b, I a b → (∃ a' b', stepA a = some (.next a') ∧ stepB b = some (.next b') ∧ I a' b' ∧ mu a' < mu a) ∨ (∃ a' b', stepA a = some (.out a') ∧ stepB b = some (.out b') ∧ O a' b') ∨ ∃ r r', stepA a = some (.ret r) ∧ stepB b = some (.ret r') ∧ Q r r') :
    ∀ (n m : Nat) (a : α) (b : α'), I a b → mu a < n → mu a < m → (∃ a' b', iterA stepA n a = some (.inl a') ∧ iterA stepB m b = some (.inl b') ∧ O a' b') ∨ ∃ r r', iterA stepA n a = some (.inr r) ∧ iterA stepB m b = some (.inr r') ∧ Q r r'
  | 0, _, _, _, _, h, _ => by omega
  | _ + 1, 0, _, _, _, _, h => by omega
  | n + 1, m + 1, a, b, hI, hn, hm => by
    show (∃ a' b', ob (stepA a) _ = _ ∧ ob (stepB b) _ = _ ∧ _) ∨ ∃ r r', ob (stepA a) _ = _ ∧ ob (stepB b) _ = _ ∧ _
    rcases h a b hI with ⟨a', b', h1, h2, h3, h4⟩ | ⟨a', b', h1, h2, h3⟩ | ⟨r, r', h1, h2, h3⟩
    · rw [h1, h2]
      exact iterA_sim I O Q mu h n m a' b' h3 (by omega) (by omega)
    · rw [h1, h2]
      exact .inl ⟨a', b', rfl, rfl, h3⟩
    · rw [h1, h2]
      exact .inr ⟨r, r', rfl, rfl, h3⟩
end Rx
end Go.Proofs.YtonbgpliomhboaaGreatDoor

namespace Go.Proofs.YtonbgpliomhboaaGreatDoor
namespace Rx
open Go

def markTextL_step : Int × ByteArray → Option (LRes × (Int × ByteArray)) :=
fun x =>
  br (decide ((0 : Int) < x.1))
    (br
      (decide
        ((bytesOf [IntKind.u8.wrap (IntKind.i64.wrap ((48 : Int) + x.1.tmod (10 : Int)))]).size + x.2.size ≤
          (9223372036854775807 : Nat)))
      (some
        (LRes.next, IntKind.i64.wrap (x.1.tdiv (10 : Int)),
          bytesOf [IntKind.u8.wrap (IntKind.i64.wrap ((48 : Int) + x.1.tmod (10 : Int)))] ++ x.2))
      none)
    (some (LRes.out, x.1, x.2))
def markTextL_fuel : Int × ByteArray → Nat := fun s => s.1.toNat + 1
def markTextL : Int × ByteArray → Option (Int × ByteArray) := fun s => iterP markTextL_step (markTextL_fuel s) s
def markText : Int → Option (ByteArray) :=
fun x =>
  br (decide (x ≤ (0 : Int))) (some (⟨⟨[(109 : UInt8), (48 : UInt8)]⟩⟩ : ByteArray))
    (ob (markTextL (x, (⟨⟨[]⟩⟩ : ByteArray))) fun r =>
      br (decide ((⟨⟨[(109 : UInt8)]⟩⟩ : ByteArray).size + ByteArray.size r.2 ≤ (9223372036854775807 : Nat)))
        (some ((⟨⟨[(109 : UInt8)]⟩⟩ : ByteArray) ++ r.2)) none)
end Rx
end Go.Proofs.YtonbgpliomhboaaGreatDoor

namespace Go.Proofs.YtonbgpliomhboaaGreatDoor
namespace Rx
open Go

noncomputable section




end
end Rx
end Go.Proofs.YtonbgpliomhboaaGreatDoor

namespace Go.Proofs.YtonbgpliomhboaaGreatDoor
namespace Rx
open Go

/-! Marks that are texts -/
noncomputable def txtOf (k : Int) : ByteArray := (markText k).getD ⟨⟨[]⟩⟩
/-! Copies -/

/-! Marks of numbers -/
abbrev fI : Int → Int → Int := fun k _ => k
abbrev gI : Int → Int → Int := fun k _ => k + 1
/-! Marks of arbors -/
noncomputable abbrev fA : Int → ArborD → ArborD := fun k y => (txtOf k, scanL fI gI y.2 (k + 1))
/-! Marks of meshes -/
/-! Marks of works -/
end Rx
end Go.Proofs.YtonbgpliomhboaaGreatDoor
