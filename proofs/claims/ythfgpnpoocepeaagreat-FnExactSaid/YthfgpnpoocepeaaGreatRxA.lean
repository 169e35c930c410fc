/- An evaluator over readable data: what a function's code makes of data in memory. Definitions alone. No conditions. -/
import Derived.Test.YthfgpnpoocepeaaGreatBase
namespace Go.Proofs.YthfgpnpoocepeaaGreat
namespace Rx

/-- The kinds of data. -/
inductive Ty where
  | int (k : IntKind)
  | bool
  | str
  | unit
  | slice (e : Ty)
  | pair (a b : Ty)
  | ref (e : Ty)
  | clo (f : Nat) (e : Ty)

def kindDec : (a b : IntKind) → Decidable (a = b) := inferInstance
def Ty.dec : (a b : Ty) → Decidable (a = b)
  | .int k, .int k' => match kindDec k k' with
    | isTrue h => isTrue (by rw [h])
    | isFalse h => isFalse (fun e => h (by injection e))
  | .bool, .bool => isTrue rfl
  | .str, .str => isTrue rfl
  | .unit, .unit => isTrue rfl
  | .slice e, .slice e' => match Ty.dec e e' with
    | isTrue h => isTrue (by rw [h])
    | isFalse h => isFalse (fun e => h (by injection e))
  | .pair a b, .pair a' b' => match Ty.dec a a', Ty.dec b b' with
    | isTrue h, isTrue h' => isTrue (by rw [h, h'])
    | isFalse h, _ => isFalse (fun e => h (by injection e))
    | _, isFalse h => isFalse (fun e => h (by injection e))
  | .ref e, .ref e' => match Ty.dec e e' with
    | isTrue h => isTrue (by rw [h])
    | isFalse h => isFalse (fun e => h (by injection e))
  | .clo f e, .clo f' e' => match Nat.decEq f f', Ty.dec e e' with
    | isTrue h, isTrue h' => isTrue (by rw [h, h'])
    | isFalse h, _ => isFalse (fun e => h (by injection e))
    | _, isFalse h => isFalse (fun e => h (by injection e))
  | .int _, .bool => isFalse (fun e => by cases e)
  | .int _, .str => isFalse (fun e => by cases e)
  | .int _, .unit => isFalse (fun e => by cases e)
  | .int _, .slice _ => isFalse (fun e => by cases e)
  | .int _, .pair _ _ => isFalse (fun e => by cases e)
  | .int _, .ref _ => isFalse (fun e => by cases e)
  | .int _, .clo _ _ => isFalse (fun e => by cases e)
  | .bool, .int _ => isFalse (fun e => by cases e)
  | .bool, .str => isFalse (fun e => by cases e)
  | .bool, .unit => isFalse (fun e => by cases e)
  | .bool, .slice _ => isFalse (fun e => by cases e)
  | .bool, .pair _ _ => isFalse (fun e => by cases e)
  | .bool, .ref _ => isFalse (fun e => by cases e)
  | .bool, .clo _ _ => isFalse (fun e => by cases e)
  | .str, .int _ => isFalse (fun e => by cases e)
  | .str, .bool => isFalse (fun e => by cases e)
  | .str, .unit => isFalse (fun e => by cases e)
  | .str, .slice _ => isFalse (fun e => by cases e)
  | .str, .pair _ _ => isFalse (fun e => by cases e)
  | .str, .ref _ => isFalse (fun e => by cases e)
  | .str, .clo _ _ => isFalse (fun e => by cases e)
  | .unit, .int _ => isFalse (fun e => by cases e)
  | .unit, .bool => isFalse (fun e => by cases e)
  | .unit, .str => isFalse (fun e => by cases e)
  | .unit, .slice _ => isFalse (fun e => by cases e)
  | .unit, .pair _ _ => isFalse (fun e => by cases e)
  | .unit, .ref _ => isFalse (fun e => by cases e)
  | .unit, .clo _ _ => isFalse (fun e => by cases e)
  | .slice _, .int _ => isFalse (fun e => by cases e)
  | .slice _, .bool => isFalse (fun e => by cases e)
  | .slice _, .str => isFalse (fun e => by cases e)
  | .slice _, .unit => isFalse (fun e => by cases e)
  | .slice _, .pair _ _ => isFalse (fun e => by cases e)
  | .slice _, .ref _ => isFalse (fun e => by cases e)
  | .slice _, .clo _ _ => isFalse (fun e => by cases e)
  | .pair _ _, .int _ => isFalse (fun e => by cases e)
  | .pair _ _, .bool => isFalse (fun e => by cases e)
  | .pair _ _, .str => isFalse (fun e => by cases e)
  | .pair _ _, .unit => isFalse (fun e => by cases e)
  | .pair _ _, .slice _ => isFalse (fun e => by cases e)
  | .pair _ _, .ref _ => isFalse (fun e => by cases e)
  | .pair _ _, .clo _ _ => isFalse (fun e => by cases e)
  | .ref _, .int _ => isFalse (fun e => by cases e)
  | .ref _, .bool => isFalse (fun e => by cases e)
  | .ref _, .str => isFalse (fun e => by cases e)
  | .ref _, .unit => isFalse (fun e => by cases e)
  | .ref _, .slice _ => isFalse (fun e => by cases e)
  | .ref _, .pair _ _ => isFalse (fun e => by cases e)
  | .ref _, .clo _ _ => isFalse (fun e => by cases e)
  | .clo _ _, .int _ => isFalse (fun e => by cases e)
  | .clo _ _, .bool => isFalse (fun e => by cases e)
  | .clo _ _, .str => isFalse (fun e => by cases e)
  | .clo _ _, .unit => isFalse (fun e => by cases e)
  | .clo _ _, .slice _ => isFalse (fun e => by cases e)
  | .clo _ _, .pair _ _ => isFalse (fun e => by cases e)
  | .clo _ _, .ref _ => isFalse (fun e => by cases e)
instance : DecidableEq Ty := Ty.dec

def Ty.den : Ty → Type
  | .int _ => Int
  | .bool => Bool
  | .str => ByteArray
  | .unit => Unit
  | .slice e => List e.den
  | .pair a b => a.den × b.den
  | .ref e => e.den
  | .clo _ e => e.den
/-- How many cells. -/
def Ty.size : Ty → Nat
  | .int _ => 1
  | .bool => 1
  | .str => 1
  | .unit => 0
  | .slice _ => 1
  | .pair a b => a.size + b.size
  | .ref _ => 1
  | .clo _ _ => 1
/-- Whether data of this kind lie outside of the value. -/
def Ty.far : Ty → Bool
  | .slice _ => true
  | .ref _ => true
  | .clo _ _ => true
  | .pair a b => a.far || b.far
  | _ => false
def Ty.isUnit : Ty → Bool
  | .unit => true
  | _ => false

inductive Cell where
  | int (k : IntKind) (n : Int)
  | bool (b : Bool)
  | str (s : ByteArray)
  | sl (e : Ty) (xs : List e.den)
  | nils
  | row (b : Nat)
  | ptr (b off : Nat)
  | eptr (b i sz off : Nat)
  | qptr (b i sz : Nat)
  | rptr (T : Ty) (x : T.den) (off : Nat)
  | clo (f : Nat) (T : Ty) (x : T.den)
  | oclo (f b : Nat)
  | sln (b : Bool) (e : Ty) (xs : List e.den)
  | nilm
  | mp (b : Nat)
  | lsl (n : Nat)

inductive V1 where
  | one (c : Cell)
  | agg (cs : List Cell)

def V1.cells : V1 → List Cell
  | .one c => [c]
  | .agg cs => cs

inductive AV where
  | undef
  | v (x : V1)
  | tup (xs : List V1)

/-- A result: plain data, or a slice in memory of its own; deep: a slice of its own whose elements hold slices of their own. -/
inductive RTy where
  | d (T : Ty)
  | row (t : TypeId) (e : Ty)
  | pair (a b : RTy)
  | box (t : TypeId) (T : Ty)
  | deep (t : TypeId) (R : RTy)
  | mp (fr : Bool) (t : TypeId) (e : Ty)
/-- The same, looked at as data. -/
def RTy.data : RTy → Ty
  | .d T => T
  | .row _ e => .slice e
  | .pair a b => .pair a.data b.data
  | .box _ T => .ref T
  | .deep _ R => .slice R.data
  | .mp _ _ e => .slice (.pair (.int .i64) (.slice e))
def RTy.den (R : RTy) : Type := R.data.den
def RTy.far : RTy → Bool
  | .d T => T.far
  | .row _ e => e.far
  | .pair a b => a.far || b.far
  | .box _ T => T.far
  | .deep _ R => R.far
  | .mp fr _ e => fr || e.far

/-- It has no pointers to boxes. -/
def RTy.noBox : RTy → Bool
  | .box _ _ => false
  | .pair a b => a.noBox && b.noBox
  | _ => true
/-- Things of the call's own that are looked at by their operations alone: a row whose front part is cut off; a builder of a text. -/
inductive OK where
  | que (t : TypeId) (e : Ty)
  | bld (t e : TypeId)
  | mp (fr : Bool) (t : TypeId) (e : Ty)
  | mph (t : TypeId) (e : Ty)
  | nrow (t : TypeId) (e : Ty)
def OK.den : OK → Type
  | .que _ e => List e.den
  | .bld _ _ => ByteArray
  | .mp _ _ e => List (Int × List e.den)
  | .mph _ e => List (Int × List e.den) × Int
  | .nrow _ e => Option (List e.den)
/-- What points to it. -/
def OK.cell : OK → Nat → Cell
  | .que _ _, b => .row b
  | .bld _ _, b => .ptr b 0
  | .mp _ _ _, b => .mp b
  | .mph _ _, b => .mp b
  | .nrow _ _, b => .row b
def OK.rows {fr : Bool} {t : TypeId} {e : Ty} (x : (OK.mp fr t e).den) : List (Int × List e.den) := x
def OK.hole {t : TypeId} {e : Ty} (x : (OK.mph t e).den) : List (Int × List e.den) × Int := x
def OK.opt {t : TypeId} {e : Ty} (x : (OK.nrow t e).den) : Option (List e.den) := x
def OK.olist {t : TypeId} {e : Ty} (x : (OK.nrow t e).den) : List e.den := (OK.opt x).getD []
/-- What a map holds at a key. -/
def getM {α : Type} : List (Int × List α) → Int → List α
  | [], _ => []
  | p :: r, k => if p.1 = k then p.2 else getM r k
def putM {α : Type} : List (Int × List α) → Int → List α → List (Int × List α)
  | [], k, v => [(k, v)]
  | p :: r, k, v => if p.1 = k then (p.1, v) :: r else p :: putM r k v
def OK.list {t : TypeId} {e : Ty} (x : (OK.que t e).den) : List e.den := x
def OK.text {t e : TypeId} (x : (OK.bld t e).den) : ByteArray := x
def OK.dec : (a b : OK) → Decidable (a = b)
  | .que x0 x1, .que y0 y1 => match Nat.decEq x0 y0, Ty.dec x1 y1 with
    | isTrue h0, isTrue h1 => isTrue (by rw [h0, h1])
    | isFalse h, _ => isFalse (fun e => h (by injection e))
    | _, isFalse h => isFalse (fun e => h (by injection e))
  | .bld x0 x1, .bld y0 y1 => match Nat.decEq x0 y0, Nat.decEq x1 y1 with
    | isTrue h0, isTrue h1 => isTrue (by rw [h0, h1])
    | isFalse h, _ => isFalse (fun e => h (by injection e))
    | _, isFalse h => isFalse (fun e => h (by injection e))
  | .mp x0 x1 x2, .mp y0 y1 y2 => match Bool.decEq x0 y0, Nat.decEq x1 y1, Ty.dec x2 y2 with
    | isTrue h0, isTrue h1, isTrue h2 => isTrue (by rw [h0, h1, h2])
    | isFalse h, _, _ => isFalse (fun e => h (by injection e))
    | _, isFalse h, _ => isFalse (fun e => h (by injection e))
    | _, _, isFalse h => isFalse (fun e => h (by injection e))
  | .mph x0 x1, .mph y0 y1 => match Nat.decEq x0 y0, Ty.dec x1 y1 with
    | isTrue h0, isTrue h1 => isTrue (by rw [h0, h1])
    | isFalse h, _ => isFalse (fun e => h (by injection e))
    | _, isFalse h => isFalse (fun e => h (by injection e))
  | .nrow x0 x1, .nrow y0 y1 => match Nat.decEq x0 y0, Ty.dec x1 y1 with
    | isTrue h0, isTrue h1 => isTrue (by rw [h0, h1])
    | isFalse h, _ => isFalse (fun e => h (by injection e))
    | _, isFalse h => isFalse (fun e => h (by injection e))
  | .que _ _, .bld _ _ => isFalse (fun e => by cases e)
  | .que _ _, .mp _ _ _ => isFalse (fun e => by cases e)
  | .que _ _, .mph _ _ => isFalse (fun e => by cases e)
  | .que _ _, .nrow _ _ => isFalse (fun e => by cases e)
  | .bld _ _, .que _ _ => isFalse (fun e => by cases e)
  | .bld _ _, .mp _ _ _ => isFalse (fun e => by cases e)
  | .bld _ _, .mph _ _ => isFalse (fun e => by cases e)
  | .bld _ _, .nrow _ _ => isFalse (fun e => by cases e)
  | .mp _ _ _, .que _ _ => isFalse (fun e => by cases e)
  | .mp _ _ _, .bld _ _ => isFalse (fun e => by cases e)
  | .mp _ _ _, .mph _ _ => isFalse (fun e => by cases e)
  | .mp _ _ _, .nrow _ _ => isFalse (fun e => by cases e)
  | .mph _ _, .que _ _ => isFalse (fun e => by cases e)
  | .mph _ _, .bld _ _ => isFalse (fun e => by cases e)
  | .mph _ _, .mp _ _ _ => isFalse (fun e => by cases e)
  | .mph _ _, .nrow _ _ => isFalse (fun e => by cases e)
  | .nrow _ _, .que _ _ => isFalse (fun e => by cases e)
  | .nrow _ _, .bld _ _ => isFalse (fun e => by cases e)
  | .nrow _ _, .mp _ _ _ => isFalse (fun e => by cases e)
  | .nrow _ _, .mph _ _ => isFalse (fun e => by cases e)
instance : DecidableEq OK := OK.dec
/-- op: the element that is laid open, and its cells (its rows are blocks by themselves then). -/
inductive Blk where
  | cells (t : TypeId) (cs : List Cell) (fz : Nat)
  | row (t : TypeId) (e : Ty) (xs : List e.den) (fz : Nat)
  | deep (t : TypeId) (R : RTy) (xs : List R.den) (op : Option (Nat × List Cell)) (fz : Nat)
  | obj (o : OK) (x : o.den) (fz : Nat)
/-- How a block is held: 0 the call's own; 1 its own, and looked at from outside: not to be written; 2 + 2 i: the i-th that was handed over; 3 + 2 i: it lay within that one. -/
def Blk.fz : Blk → Nat
  | .cells _ _ fz => fz
  | .row _ _ _ fz => fz
  | .deep _ _ _ _ fz => fz
  | .obj _ _ fz => fz
def Blk.held : Blk → Nat → Blk
  | .cells t cs _, fz => .cells t cs fz
  | .row t e xs _, fz => .row t e xs fz
  | .deep t R xs op _, fz => .deep t R xs op fz
  | .obj o x _, fz => .obj o x fz
/-- What of its memory is looked at where it is looked at from outside. -/
def Blk.sees : Blk → Nat → Prop
  | .cells _ cs _, o => o < cs.length
  | .row _ e xs _, o => o < xs.length * e.size
  | .deep _ _ _ _ _, _ => True
  | .obj _ _ _, _ => True
/-- No element is laid open. -/
def Blk.shut : Blk → Bool
  | .deep _ _ _ (some _) _ => false
  | .obj _ _ _ => false
  | _ => true
/-- How a row is held that lies within another one. -/
def inner (fz : Nat) : Nat := match fz with
  | 0 => 0
  | 1 => 1
  | n + 2 => 2 * (n / 2) + 3

/-- The blocks of the call's own, the newest entry first. -/
abbrev Heap := List (Nat × Option Blk)
structure St where
  tmps : List AV
  heap : Heap

inductive TD where
  | int (k : IntKind)
  | bool
  | str
  | slice (e : TypeId)
  | struct (fs : List (Nat × TypeId))
  | ptr (e : TypeId)
  | array (n : Nat) (e : TypeId)
  | map (k e : TypeId)
  | other

structure TI where
  desc : TD
  ty : Ty
  size : Nat
  bytes : Nat
  zero : List Cell

def TI.isAgg (i : TI) : Bool :=
  match i.desc with
  | .struct _ => true
  | .array _ _ => true
  | _ => false


def Dens : List Ty → Type
  | [] => Unit
  | [T] => T.den
  | T :: U :: Ts => T.den × Dens (U :: Ts)
def RDens : List RTy → Type
  | [] => Unit
  | [T] => T.den
  | T :: U :: Ts => T.den × RDens (U :: Ts)

structure Con where
  dom : List Ty
  cod : List RTy
  F : Dens dom → Option (RDens cod)

def RTy.dec : (a b : RTy) → Decidable (a = b)
  | .d T, .d T' => match Ty.dec T T' with
    | isTrue h => isTrue (by rw [h])
    | isFalse h => isFalse (fun e => h (by injection e))
  | .row t T, .row t' T' => match Nat.decEq t t', Ty.dec T T' with
    | isTrue h, isTrue h' => isTrue (by rw [h, h'])
    | isFalse h, _ => isFalse (fun e => h (by injection e))
    | _, isFalse h => isFalse (fun e => h (by injection e))
  | .pair a b, .pair a' b' => match RTy.dec a a', RTy.dec b b' with
    | isTrue h, isTrue h' => isTrue (by rw [h, h'])
    | isFalse h, _ => isFalse (fun e => h (by injection e))
    | _, isFalse h => isFalse (fun e => h (by injection e))
  | .box t T, .box t' T' => match Nat.decEq t t', Ty.dec T T' with
    | isTrue h, isTrue h' => isTrue (by rw [h, h'])
    | isFalse h, _ => isFalse (fun e => h (by injection e))
    | _, isFalse h => isFalse (fun e => h (by injection e))
  | .deep t T, .deep t' T' => match Nat.decEq t t', RTy.dec T T' with
    | isTrue h, isTrue h' => isTrue (by rw [h, h'])
    | isFalse h, _ => isFalse (fun e => h (by injection e))
    | _, isFalse h => isFalse (fun e => h (by injection e))
  | .mp fr t T, .mp fr' t' T' => match Bool.decEq fr fr', Nat.decEq t t', Ty.dec T T' with
    | isTrue h, isTrue h', isTrue h'' => isTrue (by rw [h, h', h''])
    | isFalse h, _, _ => isFalse (fun e => h (by injection e))
    | _, isFalse h, _ => isFalse (fun e => h (by injection e))
    | _, _, isFalse h => isFalse (fun e => h (by injection e))
  | .mp _ _ _, .d _ => isFalse (fun e => by cases e)
  | .d _, .mp _ _ _ => isFalse (fun e => by cases e)
  | .mp _ _ _, .row _ _ => isFalse (fun e => by cases e)
  | .row _ _, .mp _ _ _ => isFalse (fun e => by cases e)
  | .mp _ _ _, .pair _ _ => isFalse (fun e => by cases e)
  | .pair _ _, .mp _ _ _ => isFalse (fun e => by cases e)
  | .mp _ _ _, .box _ _ => isFalse (fun e => by cases e)
  | .box _ _, .mp _ _ _ => isFalse (fun e => by cases e)
  | .mp _ _ _, .deep _ _ => isFalse (fun e => by cases e)
  | .deep _ _, .mp _ _ _ => isFalse (fun e => by cases e)
  | .deep _ _, .d _ => isFalse (fun e => by cases e)
  | .deep _ _, .row _ _ => isFalse (fun e => by cases e)
  | .deep _ _, .pair _ _ => isFalse (fun e => by cases e)
  | .deep _ _, .box _ _ => isFalse (fun e => by cases e)
  | .d _, .deep _ _ => isFalse (fun e => by cases e)
  | .row _ _, .deep _ _ => isFalse (fun e => by cases e)
  | .pair _ _, .deep _ _ => isFalse (fun e => by cases e)
  | .box _ _, .deep _ _ => isFalse (fun e => by cases e)
  | .box _ _, .d _ => isFalse (fun e => by cases e)
  | .box _ _, .row _ _ => isFalse (fun e => by cases e)
  | .box _ _, .pair _ _ => isFalse (fun e => by cases e)
  | .d _, .box _ _ => isFalse (fun e => by cases e)
  | .row _ _, .box _ _ => isFalse (fun e => by cases e)
  | .pair _ _, .box _ _ => isFalse (fun e => by cases e)
  | .d _, .row _ _ => isFalse (fun e => by cases e)
  | .d _, .pair _ _ => isFalse (fun e => by cases e)
  | .row _ _, .d _ => isFalse (fun e => by cases e)
  | .row _ _, .pair _ _ => isFalse (fun e => by cases e)
  | .pair _ _, .d _ => isFalse (fun e => by cases e)
  | .pair _ _, .row _ _ => isFalse (fun e => by cases e)

instance : DecidableEq RTy := RTy.dec
/-- A variable of a loop; boxR: a box that holds rows; same: the k-th row in the box of a variable ahead. -/
inductive Desc where
  | val (T : Ty)
  | row (fz : Nat) (t : TypeId) (e : Ty)
  | box (fz : Nat) (t : TypeId) (T : Ty)
  | boxR (fz : Nat) (t : TypeId) (R : RTy)
  | same (t : Nat) (R : RTy) (k : Nat)
  | deep (fz : Nat) (t : TypeId) (R : RTy)
  | obj (o : OK)
def Desc.den : Desc → Type
  | .val T => T.den
  | .row _ _ e => List e.den
  | .box _ _ T => T.den
  | .boxR _ _ R => R.den
  | .same _ _ _ => Unit
  | .deep _ _ R => List R.den
  | .obj o => o.den
abbrev Vars := List (Nat × Desc)
def Vars.den : Vars → Type
  | [] => Unit
  | [x] => x.2.den
  | x :: y :: xs => x.2.den × Vars.den (y :: xs)

/-- What a round of a loop comes to that has other variables where the function returns. -/
inductive LS (α β : Type) where
  | next (s : α)
  | out (s : α)
  | ret (r : β)
/-- What a loop comes to: it is left; or it is left, or the function returns; where it returns, it may leave other variables. -/
inductive LF (α : Type) where
  | plain (F : α → Option α)
  | two (F : α → Option (Bool × α))
  | alt (rv : Vars) (F : α → Option (Sum α rv.den))
structure LoopC where
  vars : Vars
  out : Nat
  F : LF vars.den

/-- What is handed to a function that writes: data and slices that it may write; a pointer that it may write through. -/
inductive ATy where
  | v (R : RTy)
  | box (t : TypeId) (T : Ty)
def ATy.den : ATy → Type
  | .v R => R.den
  | .box _ T => T.den
def ADens : List ATy → Type
  | [] => Unit
  | [A] => A.den
  | A :: B :: As => A.den × ADens (B :: As)
structure MCon where
  dom : List ATy
  cod : List RTy
  F : ADens dom → Option (RDens cod × ADens dom)

/-- A function that is handed a pointer to a box with rows of the caller's own, and data: it may write the box, and its rows may be others then. -/
structure NCon where
  t : TypeId
  R : RTy
  dom : List Ty
  cod : Ty
  F : R.den × Dens dom → Option (cod.den × R.den)
/-- The kinds of the cells of structs that may be compared. -/
inductive EK where
  | int (k : IntKind)
  | bool
  | str
def kindsOk : List EK → List Cell → Bool
  | [], [] => true
  | .int k :: r, .int k' _ :: cs => (match kindDec k k' with | isTrue _ => true | isFalse _ => false) && kindsOk r cs
  | .bool :: r, .bool _ :: cs => kindsOk r cs
  | .str :: r, .str _ :: cs => kindsOk r cs
  | _, _ => false
structure Env where
  tab : List (TypeId × TI)
  eqs : List (TypeId × List EK)
  cons : List (FuncId × Con)
  mcons : List (FuncId × MCon)
  loops : List (Nat × LoopC)
  deeps : List (TypeId × RTy)
  frz : List (Nat × List Nat)
  blt : List (TypeId × TypeId)
  blw : List (FuncId × TypeId × TypeId)
  bls : List (FuncId × TypeId × TypeId)
  ncons : List (FuncId × NCon)
  peek : List Nat
  mfrz : List (Nat × List Nat)

def cellsOf : (T : Ty) → T.den → List Cell
  | .int k, n => [.int k n]
  | .bool, b => [.bool b]
  | .str, s => [.str s]
  | .unit, _ => []
  | .slice e, xs => [.sl e xs]
  | .ref e, x => [.rptr e x 0]
  | .clo f e, x => [.clo f e x]
  | .pair a b, x => cellsOf a x.1 ++ cellsOf b x.2

/-- One value out of data. -/
def v1Of (T : Ty) (x : T.den) : V1 :=
  match T, x with
  | .pair a b, x => .agg (cellsOf (.pair a b) x)
  | .unit, _ => .agg []
  | .int k, n => .one (.int k n)
  | .bool, b => .one (.bool b)
  | .str, s => .one (.str s)
  | .slice e, xs => .one (.sl e xs)
  | .ref e, x => .one (.rptr e x 0)
  | .clo f e, x => .one (.clo f e x)

def lk : Heap → Nat → Option (Option Blk)
  | [], _ => none
  | x :: r, b => if x.1 = b then some x.2 else lk r b
def blkAt (H : Heap) (b : Nat) : Option Blk := (lk H b).getD none
def isNew (H : Heap) (b : Nat) : Bool := (lk H b).isNone

def castL {e e' : Ty} (h : e' = e) (xs : List e'.den) : List e.den := h ▸ xs
def castD {e e' : Ty} (h : e' = e) (x : e'.den) : e.den := h ▸ x
def castO {o o' : OK} (h : o' = o) (x : o'.den) : o.den := h ▸ x
def castR {R R' : RTy} (h : R' = R) (xs : List R'.den) : List R.den := h ▸ xs

/-- Blocks that cells point to. -/
def rowsIn : List Cell → List Nat
  | [] => []
  | .row b :: r => b :: rowsIn r
  | .ptr b _ :: r => b :: rowsIn r
  | .oclo _ b :: r => b :: rowsIn r
  | .mp b :: r => b :: rowsIn r
  | _ :: r => rowsIn r

/-- Data out of cells. -/
def takeD (H : Heap) : (T : Ty) → List Cell → Option (T.den × List Cell)
  | .unit, cs => some ((), cs)
  | .pair a b, cs => (takeD H a cs).bind fun x => (takeD H b x.2).bind fun y => some ((x.1, y.1), y.2)
  | .int k, cs =>
    match cs with
    | .int k' n :: r => if k' = k then some (n, r) else none
    | _ => none
  | .bool, cs =>
    match cs with
    | .bool b :: r => some (b, r)
    | _ => none
  | .str, cs =>
    match cs with
    | .str s :: r => some (s, r)
    | _ => none
  | .slice e, cs =>
    match cs with
    | .sl e' xs :: r => if h : e' = e then some (castL h xs, r) else none
    | .sln _ e' xs :: r => if h : e' = e then some (castL h xs, r) else none
    | .nils :: r => some ([], r)
    | .row b :: r =>
      match blkAt H b with
      | some (.row _ e' xs _) => if h : e' = e then some (castL h xs, r) else none
      | some (.deep _ R xs none _) => if h : R.data = e then some (castL h xs, r) else none
      | some (.obj (.nrow _ e') x _) => if h : e' = e then some (castL h (OK.olist x), r) else none
      | _ => none
    | _ => none
  | .ref e, cs =>
    match cs with
    | .rptr e' x 0 :: r => if h : e' = e then some (castD (e := e) h x, r) else none
    | .ptr b 0 :: r =>
      match blkAt H b with
      | some (.cells _ cs' _) => match rowsIn cs' with
        | [] => (takeD H e cs').bind fun y => match y.2 with
          | [] => some (y.1, r)
          | _ => none
        | _ => none
      | _ => none
    | _ => none
  | .clo f e, cs =>
    match cs with
    | .clo f' e' x :: r => if h : e' = e then (if f' = f then some (castD (e := e) h x, r) else none) else none
    | .oclo f' b :: r =>
      if f' = f ∧ e.isUnit = false then
        match blkAt H b with
        | some (.cells _ cs' _) => match rowsIn cs' with
          | [] => (takeD H e cs').bind fun y => match y.2 with
            | [] => some (y.1, r)
            | _ => none
          | _ => none
        | _ => none
      else none
    | _ => none

def takeAll (H : Heap) (T : Ty) (cs : List Cell) : Option T.den :=
  (takeD H T cs).bind fun x => match x.2 with | [] => some x.1 | _ => none

/-- Whether a value has the shape of its kind. -/
def shapeOk : Ty → V1 → Bool
  | .pair _ _, .agg _ => true
  | .pair _ _, .one _ => false
  | .unit, .agg _ => true
  | .unit, .one _ => false
  | _, .one _ => true
  | _, .agg _ => false
def takeV (H : Heap) (T : Ty) (x : V1) : Option T.den := if shapeOk T x then takeAll H T x.cells else none

def absC : Value → Option Cell
  | .int k n => some (.int k n)
  | .bool b => some (.bool b)
  | .string s => some (.str s)
  | .slice none 0 0 => some .nils
  | .map none => some .nilm
  | _ => none
def absV (v : Value) : AV :=
  match absC v with
  | some c => .v (.one c)
  | none => .undef

def St.ev (S : St) : Operand → AV
  | .tmp t => (S.tmps[t]?).getD .undef
  | .const v => absV v
  | .func f => .v (.one (.clo f .unit ()))
  | _ => .undef

/-- What an operation yields: a value, what it writes of the blocks, and which blocks it looks at. -/
structure Eff where
  val : AV
  wr : List (Nat × Option Blk)
  rd : List Nat

def idx {α : Type} (xs : List α) (i : Int) : Option α := if 0 ≤ i then xs[i.toNat]? else none
def sidx (s : ByteArray) (i : Int) : Option UInt8 := if 0 ≤ i then s[i.toNat]? else none

def putCells (cs : List Cell) (off : Nat) (new : List Cell) : List Cell := cs.take off ++ new ++ cs.drop (off + new.length)

def v1At (i : TI) (cs : List Cell) (off : Nat) : Option V1 :=
  let r := (cs.drop off).take i.size
  if r.length = i.size then
    (if i.isAgg then some (.agg r) else match r with | [c] => some (.one c) | _ => none)
  else none

def eqCells : List Cell → List Cell → Option Bool
  | [], [] => some true
  | .int k a :: r, .int k' b :: r' => if k = k' then (match r, r' with | [], [] => some (a == b) | _, _ => (eqCells r r').bind fun x => some ((a == b) && x)) else none
  | .bool a :: r, .bool b :: r' => (match r, r' with | [], [] => some (a == b) | _, _ => (eqCells r r').bind fun x => some ((a == b) && x))
  | .str a :: r, .str b :: r' => (match r, r' with | [], [] => some (a == b) | _, _ => (eqCells r r').bind fun x => some ((a == b) && x))
  | _, _ => none

def andI (k : IntKind) (a b : Int) : Int := k.wrap (BitVec.ofInt k.bits a &&& BitVec.ofInt k.bits b).toNat
def orI (k : IntKind) (a b : Int) : Int := k.wrap (BitVec.ofInt k.bits a ||| BitVec.ofInt k.bits b).toNat
def xorI (k : IntKind) (a b : Int) : Int := k.wrap (BitVec.ofInt k.bits a ^^^ BitVec.ofInt k.bits b).toNat
def shlI (k : IntKind) (a b : Int) : Int := k.wrap (a * 2 ^ min b.toNat k.bits)
def shrI (k : IntKind) (a b : Int) : Int := a.fdiv (2 ^ min b.toNat k.bits)
def intBin (op : BinOp) (k : IntKind) (a b : Int) : Option Cell :=
  match op with
  | .add => some (.int k (k.wrap (a + b)))
  | .sub => some (.int k (k.wrap (a - b)))
  | .mul => some (.int k (k.wrap (a * b)))
  | .eql => some (.bool (a == b))
  | .neq => some (.bool (a != b))
  | .lss => some (.bool (decide (a < b)))
  | .leq => some (.bool (decide (a ≤ b)))
  | .gtr => some (.bool (decide (b < a)))
  | .geq => some (.bool (decide (b ≤ a)))
  | .and => some (.int k (andI k a b))
  | .or => some (.int k (orI k a b))
  | .xor => some (.int k (xorI k a b))
  | _ => none
def intShift (op : BinOp) (k : IntKind) (a b : Int) : Option Int :=
  match op with
  | .shl => some (shlI k a b)
  | .shr => some (shrI k a b)
  | _ => none

/-- A choice that waits for what is not known; a value that may be missing. -/
def br {α : Type} (c : Bool) (a b : α) : α :=
  match c with
  | true => a
  | false => b
def el {α β γ : Type} (x : Sum α β) (f : α → Option γ) (g : β → Option γ) : Option γ :=
  match x with
  | .inl a => f a
  | .inr b => g b
def ob {α β : Type} (x : Option α) (f : α → Option β) : Option β :=
  match x with
  | some a => f a
  | none => none

/-- What is checked on the way. -/
def chk {α : Type} (c : Bool) (x : Option α) : Option α :=
  match c with
  | true => x
  | false => none

section
variable {R : Type}

def ret1 (c : Cell) (k : Eff → Option R) : Option R := k ⟨.v (.one c), [], []⟩

def binK (E : Env) (op : BinOp) (t : TypeId) (x y : AV) (k : Eff → Option R) : Option R :=
  match x, y with
  | .v (.one (.int ka a)), .v (.one (.int kb b)) =>
    match intShift op ka a b with
    | some n => br (decide (b < 0)) none (ret1 (.int ka n) k)
    | none =>
      if ka = kb then
        match op with
        | .quo => br (b == 0) none (ret1 (.int ka (ka.wrap (a.tdiv b))) k)
        | .rem => br (b == 0) none (ret1 (.int ka (a.tmod b)) k)
        | op => match intBin op ka a b with
          | some c => ret1 c k
          | none => none
      else none
  | .v (.one (.bool a)), .v (.one (.bool b)) =>
    match E.tab.lookup t with
    | some i => match i.desc with
      | .bool => match op with
        | .eql => ret1 (.bool (a == b)) k
        | .neq => ret1 (.bool (!(a == b))) k
        | _ => none
      | _ => none
    | none => none
  | .v (.one (.str a)), .v (.one (.str b)) =>
    match op with
    | .add => br (decide (a.size + b.size ≤ 9223372036854775807)) (ret1 (.str (a ++ b)) k) none
    | .eql => ret1 (.bool (a.toList == b.toList)) k
    | .neq => ret1 (.bool (!(a.toList == b.toList))) k
    | _ => none
  | .v (.agg cs), .v (.agg cs') =>
    match E.eqs.lookup t with
    | some ks => match kindsOk ks cs, op, eqCells cs cs' with
      | true, .eql, some b => ret1 (.bool b) k
      | true, .neq, some b => ret1 (.bool (!b)) k
      | _, _, _ => none
    | none => none
  | .v (.one (.sln b _ _)), .v (.one .nils) =>
    match E.tab.lookup t with
    | some i => match i.desc with
      | .slice _ => match op with
        | .eql => ret1 (.bool b) k
        | .neq => ret1 (.bool (!b)) k
        | _ => none
      | _ => none
    | none => none
  | _, _ => none

/-- An element's cells, its rows laid open as blocks from a number on. -/
def openC (fz : Nat) : (T : RTy) → T.den → Nat → List Cell × List (Nat × Option Blk) × Nat
  | .d T, x, n => (cellsOf T x, [], n)
  | .row t e, xs, n => ([.row n], [(n, some (.row t e xs fz))], n + 1)
  | .pair a b, x, n =>
    let p := openC fz a x.1 n
    let q := openC fz b x.2 p.2.2
    (p.1 ++ q.1, p.2.1 ++ q.2.1, q.2.2)
  | .box _ _, _, n => ([], [], n)
  | .deep _ _, _, n => ([], [], n)
  | .mp _ _ _, _, n => ([], [], n)
/-- A deep row laid open at an element; what is written; the numbers looked at. -/
def openK {β : Type} (H : Heap) (b : Nat) (t : TypeId) (S : RTy) (xs : List S.den) (op : Option (Nat × List Cell)) (fz : Nat) (n id : Nat) (k : List Cell → List (Nat × Option Blk) → List Nat → Option β) : Option β :=
  match op with
  | none => ob (xs[n]?) fun x =>
      let p := openC (inner fz) S x id
      chk ((p.2.1.map (·.1)).all (isNew H) && !(p.2.1.map (·.1)).contains b) (k p.1 p.2.1 (p.2.1.map (·.1)))
  | some (m, cs) => br (decide (n = m)) (k cs [] []) none
/-- What lies at a place. -/
def loadK (H : Heap) (i : TI) (c : Cell) (id : Nat) (k : Eff → Option R) : Option R :=
  match c with
  | .ptr b off =>
    match blkAt H b with
    | some (.cells _ cs _) => match v1At i cs off with
      | some x => k ⟨.v x, [], [b]⟩
      | none => none
    | _ => none
  | .eptr b n sz off =>
    match blkAt H b with
    | some (.row _ e xs _) => if sz = e.size then
        ob (xs[n]?) fun x => match v1At i (cellsOf e x) off with
          | some x => k ⟨.v x, [], [b]⟩
          | none => none
      else none
    | some (.deep t S xs op fz) => if sz = S.data.size ∧ fz ≠ 1 then
        openK H b t S xs op fz n id fun cs wr ids => match v1At i cs off with
          | some x => k ⟨.v x, wr ++ [(b, some (.deep t S xs (some (n, cs)) fz))], b :: ids⟩
          | none => none
      else none
    | _ => none
  | .qptr b n sz =>
    match blkAt H b with
    | some (.obj (.que _ e) xs _) => if sz = e.size then
        ob ((OK.list xs)[n]?) fun x => match v1At i (cellsOf e x) 0 with
          | some x => k ⟨.v x, [], [b]⟩
          | none => none
      else none
    | _ => none
  | .rptr T x off => match v1At i (cellsOf T x) off with
      | some x => k ⟨.v x, [], []⟩
      | none => none
  | _ => none

def storeK (H : Heap) (i : TI) (c : Cell) (x : V1) (id : Nat) (k : Eff → Option R) : Option R :=
  let new := x.cells
  if new.length = i.size then
    match c with
    | .ptr b off =>
      match blkAt H b with
      | some (.cells t cs fz) => if fz ≠ 1 ∧ off + new.length ≤ cs.length then k ⟨.undef, [(b, some (.cells t (putCells cs off new) fz))], [b]⟩ else none
      | _ => none
    | .eptr b n sz off =>
      match blkAt H b with
      | some (.row t e xs fz) => if fz ≠ 1 ∧ sz = e.size ∧ off + new.length ≤ e.size then
          ob (xs[n]?) fun x => (takeAll [] e (putCells (cellsOf e x) off new)).bind fun y => k ⟨.undef, [(b, some (.row t e (xs.set n y) fz))], [b]⟩
        else none
      | some (.deep t S xs op fz) => if sz = S.data.size ∧ fz ≠ 1 ∧ off + new.length ≤ S.data.size then
          openK H b t S xs op fz n id fun cs wr ids => k ⟨.undef, wr ++ [(b, some (.deep t S xs (some (n, cs)) fz)), (b, some (.deep t S xs (some (n, putCells cs off new)) fz))], b :: ids⟩
        else none
      | _ => none
    | _ => none
  else none

/-- A struct's parts over its zero value. -/
def fillK (fs : List (Nat × Nat)) : List Cell → List (Nat × AV) → Option (List Cell)
  | cs, [] => some cs
  | cs, (i, .v x) :: r =>
    match fs[i]? with
    | some (off, size) => if x.cells.length = size ∧ off + size ≤ cs.length then fillK fs (putCells cs off x.cells) r else none
    | none => none
  | _, _ => none

def partsD (e : Ty) : Nat → List (Nat × AV) → Option (List e.den)
  | _, [] => some []
  | n, (i, .v x) :: r => if i = n then (takeAll [] e x.cells).bind fun d => (partsD e (n + 1) r).bind fun ds => some (d :: ds) else none
  | _, _ => none

/-- Data and rows of the call's own out of cells: the data, what is left, the rows. -/
def takeO (H : Heap) (fz : Nat) : (T : RTy) → List Cell → Option (T.den × List Cell × List Nat)
  | .d T, cs => (takeAll [] T (cs.take T.size)).map fun x => (x, cs.drop T.size, [])
  | .row t e, cs =>
    match cs with
    | .nils :: r => some ([], r, [])
    | .row b :: r => match blkAt H b with
      | some (.row t' e' xs fz') => if h : e' = e then (if t' = t ∧ fz' = fz then some (castL h xs, r, [b]) else none) else none
      | _ => none
    | _ => none
  | .pair a b, cs => (takeO H fz a cs).bind fun x => (takeO H fz b x.2.1).bind fun y => some ((x.1, y.1), y.2.1, x.2.2 ++ y.2.2)
  | .box _ _, _ => none
  | .deep _ _, _ => none
  | .mp _ _ _, _ => none
def takeE (H : Heap) (fz : Nat) (T : RTy) (cs : List Cell) : Option (T.den × List Nat) :=
  (takeO H fz T cs).bind fun x => match x.2.1 with | [] => some (x.1, x.2.2) | _ => none
def partsO (H : Heap) (T : RTy) : Nat → List (Nat × AV) → Option (List T.den × List Nat)
  | _, [] => some ([], [])
  | n, (i, .v x) :: r => if i = n then (takeE H 0 T x.cells).bind fun d => (partsO H T (n + 1) r).bind fun ds => some (d.1 :: ds.1, d.2 ++ ds.2) else none
  | _, _ => none
def avCells : AV → List Cell
  | .undef => []
  | .v x => x.cells
  | .tup xs => xs.flatMap V1.cells
/-- Slices that came in are among the parts: then they are data. -/
def isSl : Cell → Bool
  | .sl _ _ => true
  | _ => false
def hasSl : List (Nat × AV) → Bool
  | [] => false
  | p :: r => (avCells p.2).any isSl || hasSl r
def gone (ids : List Nat) : List (Nat × Option Blk) := ids.map fun b => (b, none)

def fieldsOf (tab : List (TypeId × TI)) (fs : List (Nat × TypeId)) : Option (List (Nat × Nat)) :=
  fs.mapM fun f => (tab.lookup f.2).map fun i => (f.1, i.size)

def intOfAV : AV → Option (IntKind × Int)
  | .v (.one (.int k n)) => some (k, n)
  | _ => none

/-- The rows that a box holds. -/
def nestRows (H : Heap) (b : Nat) : List Nat :=
  match blkAt H b with
  | some (.cells _ cs _) => rowsIn cs
  | _ => []
/-- Data out of a value; a pointer may lead to a box that holds rows. -/
def takeVR (H : Heap) (T : Ty) (x : V1) : Option T.den :=
  match takeV H T x with
  | some d => some d
  | none => match T, x with
    | .ref e, .one (.ptr b 0) => match blkAt H b with
      | some (.cells _ cs _) => takeAll H e cs
      | _ => none
    | _, _ => none
def argsD (H : Heap) : (Ts : List Ty) → List AV → Option (Dens Ts)
  | [], xs => match xs with
    | [] => some ()
    | _ => none
  | [T], xs => match xs with
    | [.v x] => takeVR H T x
    | _ => none
  | T :: U :: Ts, xs => match xs with
    | .v x :: r => (takeVR H T x).bind fun d => (argsD H (U :: Ts) r).bind fun ds => some (d, ds)
    | _ => none

def freeze (H : Heap) : List Nat → List (Nat × Option Blk)
  | [] => []
  | b :: r => match blkAt H b with
    | some B => (b, some (B.held 1)) :: freeze H r
    | none => freeze H r

/-- Rows that may be frozen. -/
def mayFreeze (H : Heap) : List Nat → Bool
  | [] => true
  | b :: r => (match blkAt H b with | some B => decide (B.fz < 2) && B.shut | none => true) && mayFreeze H r

/-- The cells of a result: slices of their own get blocks from a number on. -/
def resCells : (T : RTy) → T.den → Nat → List Cell × List (Nat × Option Blk) × Nat
  | .d T, x, n => (cellsOf T x, [], n)
  | .row t e, xs, n => ([.row n], [(n, some (.row t e xs 0))], n + 1)
  | .pair a b, x, n =>
    let p := resCells a x.1 n
    let q := resCells b x.2 p.2.2
    (p.1 ++ q.1, p.2.1 ++ q.2.1, q.2.2)
  | .box t T, x, n => ([.ptr n 0], [(n, some (.cells t (cellsOf T x) 0))], n + 1)
  | .deep t R, xs, n => ([.row n], [(n, some (.deep t R xs none 0))], n + 1)
  | .mp fr t e, x, n => ([.mp n], [(n, some (.obj (.mp fr t e) x 0))], n + 1)
def resV1 (T : RTy) (x : T.den) (n : Nat) : V1 × List (Nat × Option Blk) × Nat :=
  match T, x with
  | .d T, x => (v1Of T x, [], n)
  | .row t e, xs => (.one (.row n), [(n, some (.row t e xs 0))], n + 1)
  | .pair a b, x => let p := resCells (.pair a b) x n; (.agg p.1, p.2.1, p.2.2)
  | .box t T, x => (.one (.ptr n 0), [(n, some (.cells t (cellsOf T x) 0))], n + 1)
  | .deep t R, xs => (.one (.row n), [(n, some (.deep t R xs none 0))], n + 1)
  | .mp fr t e, x => (.one (.mp n), [(n, some (.obj (.mp fr t e) x 0))], n + 1)
def resAll : (Ts : List RTy) → RDens Ts → Nat → List V1 × List (Nat × Option Blk)
  | [], _, _ => ([], [])
  | [T], x, n => let p := resV1 T x n; ([p.1], p.2.1)
  | T :: U :: Ts, x, n => let p := resV1 T x.1 n; let q := resAll (U :: Ts) x.2 p.2.2; (p.1 :: q.1, p.2.1 ++ q.2)
def tupAV : List V1 → AV
  | [y] => .v y
  | ys => .tup ys
def resAV (Ts : List RTy) (x : RDens Ts) (n : Nat) : AV × List (Nat × Option Blk) :=
  let p := resAll Ts x n
  (tupAV p.1, p.2)

/-- The blocks that arguments lie in. -/
def argRows (H : Heap) (args : List AV) : List Nat :=
  let r := rowsIn (args.flatMap avCells)
  r ++ r.flatMap (nestRows H)
def callK (S : St) (c : Con) (args : List AV) (id : Nat) (k : Eff → Option R) : Option R :=
  (argsD S.heap c.dom args).bind fun x => ob (c.F x) fun y =>
    let p := resAV c.cod y id
    let rows := argRows S.heap args
    let new := p.2.map (·.1)
    chk (new.all (isNew S.heap) && (!c.cod.any (·.far) || mayFreeze S.heap rows)) (k ⟨p.1, (if c.cod.any (·.far) then freeze S.heap rows else []) ++ p.2, new ++ rows⟩)

/-- An argument that may be written: what it is, what is left, the blocks handed over, the rows that its data lie in. -/
def takeW (H : Heap) : (T : RTy) → List Cell → Option (T.den × List Cell × List Nat × List Nat)
  | .d T, cs => (takeAll H T (cs.take T.size)).map fun x => (x, cs.drop T.size, [], rowsIn (cs.take T.size))
  | .row t e, cs =>
    match cs with
    | .row b :: r => match blkAt H b with
      | some (.row t' e' xs fz) => if h : e' = e then (if t' = t ∧ fz ≠ 1 then some (castL h xs, r, [b], []) else none) else none
      | _ => none
    | _ => none
  | .pair a b, cs => (takeW H a cs).bind fun x => (takeW H b x.2.1).bind fun y => some ((x.1, y.1), y.2.1, x.2.2.1 ++ y.2.2.1, x.2.2.2 ++ y.2.2.2)
  | .box t T, cs =>
    match cs with
    | .ptr b 0 :: r => match blkAt H b with
      | some (.cells t' cs' fz) => if t' = t ∧ fz ≠ 1 then (takeAll [] T cs').map fun x => (x, r, [b], []) else none
      | _ => none
    | _ => none
  | .deep t R, cs =>
    match cs with
    | .row b :: r => match blkAt H b with
      | some (.deep t' R' xs none fz) => if h : R' = R then (if t' = t ∧ fz ≠ 1 then some (castR h xs, r, [b], []) else none) else none
      | _ => none
    | _ => none
  | .mp _ _ _, _ => none
def shapeR : RTy → V1 → Bool
  | .d T, x => shapeOk T x
  | .row _ _, .one _ => true
  | .row _ _, .agg _ => false
  | .pair _ _, .agg _ => true
  | .pair _ _, .one _ => false
  | .box _ _, .one _ => true
  | .box _ _, .agg _ => false
  | .deep _ _, .one _ => true
  | .deep _ _, .agg _ => false
  | .mp _ _ _, .one _ => true
  | .mp _ _ _, .agg _ => false
def takeA (H : Heap) : (A : ATy) → V1 → Option (A.den × List Nat × List Nat)
  | .v R, x => if shapeR R x then (takeW H R x.cells).bind fun y => match y.2.1 with
      | [] => some (y.1, y.2.2.1, y.2.2.2)
      | _ => none
      else none
  | .box t T, x => match x with
    | .one (.ptr b 0) => match blkAt H b with
      | some (.cells t' cs fz) => if t' = t ∧ fz ≠ 1 then (takeAll [] T cs).map fun d => (d, [b], []) else none
      | _ => none
    | _ => none
def argsA (H : Heap) : (As : List ATy) → List AV → Option (ADens As × List Nat × List Nat)
  | [], xs => match xs with
    | [] => some ((), [], [])
    | _ => none
  | [A], xs => match xs with
    | [.v x] => takeA H A x
    | _ => none
  | A :: B :: As, xs => match xs with
    | .v x :: r => (takeA H A x).bind fun d => (argsA H (B :: As) r).bind fun ds => some ((d.1, ds.1), d.2.1 ++ ds.2.1, d.2.2 ++ ds.2.2)
    | _ => none
/-- The blocks as they are afterwards. -/
def RTy.blks : (T : RTy) → T.den → List Blk
  | .d _, _ => []
  | .row t e, xs => [.row t e xs 0]
  | .pair a b, x => a.blks x.1 ++ b.blks x.2
  | .box t T, x => [.cells t (cellsOf T x) 0]
  | .deep t R, xs => [.deep t R xs none 0]
  | .mp fr t e, x => [.obj (.mp fr t e) x 0]
def ATy.blks : (A : ATy) → A.den → List Blk
  | .v R, x => R.blks x
  | .box t T, x => [.cells t (cellsOf T x) 0]
def blksA : (As : List ATy) → ADens As → List Blk
  | [], _ => []
  | [A], x => A.blks x
  | A :: B :: As, x => A.blks x.1 ++ blksA (B :: As) x.2
def fzAt (H : Heap) (b : Nat) : Nat :=
  match blkAt H b with
  | some B => B.fz
  | none => 0
def backs (H : Heap) : List Nat → List Blk → List (Nat × Option Blk)
  | b :: bs, B :: Bs => (b, some (B.held (fzAt H b))) :: backs H bs Bs
  | _, _ => []
def disj (a b : List Nat) : Bool := a.all fun x => !b.contains x
def noDup : List Nat → Bool
  | [] => true
  | x :: r => !r.contains x && noDup r
def mcallK (S : St) (c : MCon) (args : List AV) (id : Nat) (k : Eff → Option R) : Option R :=
  (argsA S.heap c.dom args).bind fun q => ob (c.F q.1) fun y =>
    let p := resAV c.cod y.1 id
    let new := p.2.map (·.1)
    chk (new.all (isNew S.heap) && noDup q.2.1 && disj q.2.1 q.2.2 && mayFreeze S.heap q.2.2) (k ⟨p.1, freeze S.heap q.2.2 ++ backs S.heap q.2.1 (blksA c.dom y.2) ++ p.2, new ++ q.2.1 ++ q.2.2⟩)

def lenK (H : Heap) (x : AV) (k : Eff → Option R) : Option R :=
  match x with
  | .v (.one (.sl _ xs)) => ret1 (.int .i64 xs.length) k
  | .v (.one (.sln _ _ xs)) => ret1 (.int .i64 xs.length) k
  | .v (.one .nils) => ret1 (.int .i64 0) k
  | .v (.one (.row b)) => match blkAt H b with
    | some (.row _ _ xs _) => k ⟨.v (.one (.int .i64 xs.length)), [], [b]⟩
    | some (.deep _ _ xs _ _) => k ⟨.v (.one (.int .i64 xs.length)), [], [b]⟩
    | some (.obj (.que _ e) xs _) => k ⟨.v (.one (.int .i64 (OK.list xs).length)), [], [b]⟩
    | _ => none
  | .v (.one (.lsl n)) => ret1 (.int .i64 n) k
  | _ => none

/-- A slice's elements, with the blocks looked at. -/
def elems (H : Heap) (e : Ty) (x : AV) : Option (List e.den × List Nat) :=
  match x with
  | .v (.one (.sl e' xs)) => if h : e' = e then some (castL h xs, []) else none
  | .v (.one (.sln _ e' xs)) => if h : e' = e then some (castL h xs, []) else none
  | .v (.one .nils) => some ([], [])
  | .v (.one (.row b)) => match blkAt H b with
    | some (.row _ e' xs _) => if h : e' = e then some (castL h xs, [b]) else none
    | _ => none
  | _ => none

def bytesOf (xs : List Int) : ByteArray := xs.foldl (fun r n => r.push (UInt8.ofNat n.toNat)) ByteArray.empty
/-- The bytes of a text. -/
def bytesIn (s : ByteArray) : List Int := s.data.toList.map fun b => (b.toNat : Int)
/-- A text out of bytes. -/
def bytesK (E : Env) (H : Heap) (i' i : TI) (x : AV) (k : Eff → Option R) : Option R :=
  match i'.desc, i.desc with
  | .slice et, .str => match E.tab.lookup et with
    | some ei => match ei.desc with
      | .int .u8 => match elems H (.int .u8) x with
        | some (xs, rd) => k ⟨.v (.one (.str (bytesOf xs))), [], rd⟩
        | none => none
      | _ => none
    | none => none
  | _, _ => none

/-- append onto a slice of the call's own. -/
def appendR (H : Heap) (et : TypeId) (e : Ty) (s x : AV) (id : Nat) (k : Eff → Option R) : Option R :=
  match elems H e x with
  | none => none
  | some (ys, rd) =>
    match s with
    | .v (.one .nils) => chk (isNew H id) (br (decide (ys.length ≤ 4294967296)) (k ⟨.v (.one (.row id)), [(id, some (.row et e ys 0))], id :: rd⟩) none)
    | .v (.one (.row b)) => match blkAt H b with
      | some (.row t e' xs fz) => if h : e' = e then
          (if t = et ∧ fz < 2 then chk (isNew H id) (br (decide (xs.length + ys.length ≤ 4294967296)) (k ⟨.v (.one (.row id)), [(b, none), (id, some (.row et e (castL h xs ++ ys) fz))], id :: b :: rd⟩) none) else none)
        else none
      | some (.obj (.que t e') xs fz) => if h : e' = e then
          (if t = et ∧ fz = 0 then chk (isNew H id) (br (decide ((OK.list xs).length + ys.length ≤ 4294967296)) (k ⟨.v (.one (.row id)), [(b, none), (id, some (.obj (.que et e) (castL h xs ++ ys) 0))], id :: b :: rd⟩) none) else none)
        else none
      | _ => none
    | _ => none

/-- append of a deep row (bx) onto a deep row or nil: the new row has what both had. -/
def appendD (H : Heap) (et : TypeId) (e : Ty) (s : AV) (bx : Nat) (t : TypeId) (T : RTy) (ys : List T.den) (id : Nat) (k : Eff → Option R) : Option R :=
  match s with
  | .v (.one .nils) => if t = et ∧ T.data.size = e.size then chk (isNew H id) (br (decide (ys.length ≤ 4294967296)) (k ⟨.v (.one (.row id)), [(bx, none), (id, some (.deep et T ys none 0))], [id, bx]⟩) none) else none
  | .v (.one (.row b)) => match blkAt H b with
    | some (.deep t' T' xs none fz) => if h : T' = T then
        (if t = et ∧ t' = et ∧ b ≠ bx ∧ T.data.size = e.size ∧ fz = 0 then chk (isNew H id) (br (decide (xs.length + ys.length ≤ 4294967296)) (k ⟨.v (.one (.row id)), [(b, none), (bx, none), (id, some (.deep et T (castR h xs ++ ys) none 0))], [id, b, bx]⟩) none) else none)
      else none
    | _ => none
  | _ => none
def appendK (H : Heap) (et : TypeId) (e : Ty) (s x : AV) (id : Nat) (k : Eff → Option R) : Option R :=
  match x with
  | .v (.one (.row bx)) => match blkAt H bx with
    | some (.deep t T ys none fz) => chk (Nat.beq fz 0) (appendD H et e s bx t T ys id k)
    | _ => appendR H et e s x id k
  | _ => appendR H et e s x id k

/-- A result out of cells: the data, what is left, the rows that are handed out, the rows that the data lie in. -/
def takeR (H : Heap) : (T : RTy) → List Cell → Option (T.den × List Cell × List Nat × List Nat)
  | .d T, cs => (takeAll H T (cs.take T.size)).map fun x => (x, cs.drop T.size, [], rowsIn (cs.take T.size))
  | .row t e, cs =>
    match cs with
    | .nils :: r => some ([], r, [], [])
    | .row b :: r => match blkAt H b with
      | some (.row t' e' xs fz) => if h : e' = e then (if t' = t ∧ fz = 0 then some (castL h xs, r, [b], []) else none) else none
      | some (.obj (.nrow t' e') x fz) => if h : e' = e then (if t' = t ∧ fz = 0 then some (castL h (OK.olist x), r, [b], []) else none) else none
      | _ => none
    | _ => none
  | .pair a b, cs => (takeR H a cs).bind fun x => (takeR H b x.2.1).bind fun y => some ((x.1, y.1), y.2.1, x.2.2.1 ++ y.2.2.1, x.2.2.2 ++ y.2.2.2)
  | .box t T, cs =>
    match cs with
    | .ptr b 0 :: r => match blkAt H b with
      | some (.cells t' cs' fz) => if t' = t ∧ fz = 0 then (takeAll [] T cs').map fun x => (x, r, [b], []) else none
      | _ => none
    | _ => none
  | .deep t R, cs =>
    match cs with
    | .nils :: r => some ([], r, [], [])
    | .row b :: r => match blkAt H b with
      | some (.deep t' R' xs none fz) => if h : R' = R then (if t' = t ∧ fz = 0 then some (castR h xs, r, [b], []) else none) else none
      | _ => none
    | _ => none
  | .mp fr t e, cs =>
    match cs with
    | .mp b :: r => match blkAt H b with
      | some (.obj o x fz) => if h : o = .mp fr t e then (if fz = 0 then some (castO h x, r, [b], []) else none) else none
      | _ => none
    | _ => none
def nestId (t k : Nat) : Nat := 4 * (t + 512 * (k + 1)) + 3
def nestCells (t : Nat) : (R : RTy) → R.den → Nat → List Cell × List (Nat × Option Blk) × Nat
  | .d T, x, k => (cellsOf T x, [], k)
  | .row rt e, xs, k => ([.row (nestId t k)], [(nestId t k, some (.row rt e xs 0))], k + 1)
  | .pair a b, x, k =>
    let p := nestCells t a x.1 k
    let q := nestCells t b x.2 p.2.2
    (p.1 ++ q.1, q.2.1 ++ p.2.1, q.2.2)
  | .box _ _, _, k => ([], [], k)
  | .deep rt R, xs, k => ([.row (nestId t k)], [(nestId t k, some (.deep rt R xs none 0))], k + 1)
  | .mp fr rt e, x, k => ([.mp (nestId t k)], [(nestId t k, some (.obj (.mp fr rt e) x 0))], k + 1)
/-- A call that may write a box, and may put other rows into it: the box and its rows are laid anew. -/
def ncallK (H : Heap) (c : NCon) (args : List AV) (id : Nat) (k : Eff → Option R) : Option R :=
  match args with
  | .v (.one (.ptr b 0)) :: rest => match blkAt H b with
    | some (.cells t' cs fz) => chk (decide (t' = c.t) && Nat.beq fz 0 && !c.R.far && !c.cod.far)
        ((takeR H c.R cs).bind fun q => chk (q.2.1.isEmpty && q.2.2.2.isEmpty) ((argsD H c.dom rest).bind fun x => ob (c.F (q.1, x)) fun y =>
              let p := nestCells id c.R y.2 0
              let new := p.2.1.map (·.1)
              let rows := argRows H rest
              chk (new.all (isNew H) && noDup (b :: q.2.2.1) && disj (b :: q.2.2.1) rows) (k ⟨.v (v1Of c.cod y.1), gone q.2.2.1 ++ ((b, none) :: (p.2.1.reverse ++ [(b, some (.cells c.t p.1 0))])), new ++ (b :: q.2.2.1) ++ rows⟩)))
    | _ => none
  | _ => none
/-- A text written to a builder; the text that was written. -/
def bldW (H : Heap) (t e : TypeId) (args : List AV) (k : Eff → Option R) : Option R :=
  match args with
  | [.v (.one (.ptr b 0)), .v (.one (.str s))] => match blkAt H b with
    | some (.obj (.bld t' e') x fz) => if t' = t ∧ e' = e ∧ fz = 0 then br (decide ((OK.text x).size + s.size ≤ 140737488355328)) (k ⟨.undef, [(b, some (.obj (.bld t e) (OK.text x ++ s) 0))], [b]⟩) none else none
    | _ => none
  | _ => none
def bldS (H : Heap) (t e : TypeId) (args : List AV) (k : Eff → Option R) : Option R :=
  match args with
  | [.v (.one (.ptr b 0))] => match blkAt H b with
    | some (.obj (.bld t' e') x fz) => if t' = t ∧ e' = e ∧ fz = 0 then k ⟨.v (.one (.str (OK.text x))), [(b, some (.obj (.bld t e) x 0))], [b]⟩ else none
    | _ => none
  | _ => none
/-- Whether a row of the call's own is nil. -/
def nilAt (H : Heap) (x y : AV) : Option (Bool × Nat) :=
  match x, y with
  | .v (.one (.row b)), .v (.one .nils) => match blkAt H b with
    | some (.obj (.nrow _ _) x _) => some ((OK.opt x).isNone, b)
    | _ => none
  | _, _ => none
def nilK (E : Env) (op : BinOp) (t : TypeId) (c : Bool) (b : Nat) (k : Eff → Option R) : Option R :=
  match E.tab.lookup t with
  | some i => match i.desc with
    | .slice _ => match op with
      | .eql => k ⟨.v (.one (.bool c)), [], [b]⟩
      | .neq => k ⟨.v (.one (.bool (!c))), [], [b]⟩
      | _ => none
    | _ => none
  | none => none
/-- A map's kinds: of its keys an int64, of what it holds a slice: that one's elements. -/
def mapOf (E : Env) (t : TypeId) : Option (TypeId × TI) :=
  match E.tab.lookup t with
  | some i => match i.desc with
    | .map kt et => match E.tab.lookup kt, E.tab.lookup et with
      | some ki, some ei => match ki.desc, ei.desc, ei.zero with
        | .int .i64, .slice rt, [.nils] => match E.tab.lookup rt with
          | some ri => some (rt, ri)
          | none => none
        | _, _, _ => none
      | _, _ => none
    | _ => none
  | none => none
/-- What a map holds at a key: data; its length alone (pk); or the row, which is taken out. -/
def lookK (H : Heap) (rt : TypeId) (b : Nat) (n : Int) (id : Nat) (pk : Bool) (k : Eff → Option R) : Option R :=
  match blkAt H b with
  | some (.obj (.mp true t e) x fz) => if t = rt then k ⟨.v (.one (.sl e (getM (OK.rows x) n))), [], [b]⟩ else none
  | some (.obj (.mp false t e) x fz) => if t = rt ∧ fz = 0 then match pk with
      | true => k ⟨.v (.one (.lsl (getM (OK.rows x) n).length)), [], [b]⟩
      | false => chk (isNew H id) (k ⟨.v (.one (.row id)), [(b, some (.obj (.mph t e) (OK.rows x, n) 0)), (id, some (.row t e (getM (OK.rows x) n) 0))], [id, b]⟩)
    else none
  | _ => none
def updK (H : Heap) (rt : TypeId) (b : Nat) (n : Int) (v : AV) (k : Eff → Option R) : Option R :=
  match v with
  | .v (.one (.row c)) => match blkAt H b, blkAt H c with
    | some (.obj (.mph t e) x fz), some (.row t' e' ys fz') => if h : e' = e then
        (if t = rt ∧ t' = t ∧ fz = 0 ∧ fz' = 0 ∧ b ≠ c then br (decide ((OK.hole x).2 = n)) (k ⟨.undef, [(c, none), (b, some (.obj (.mp false t e) (putM (OK.hole x).1 n (castL h ys)) 0))], [b, c]⟩) none else none)
      else none
    | _, _ => none
  | _ => none
def boundOf (S : St) (o : Option Operand) (d : Int) : Option Int :=
  match o with
  | none => some d
  | some o => (intOfAV (S.ev o)).map (·.2)

def opK (E : Env) (o : Op) (id : Nat) (S : St) (k : Eff → Option R) : Option R :=
  match o with
  | .move x => match S.ev x with
    | .undef => none
    | v => k ⟨v, [], []⟩
  | .assign x => match S.ev x with
    | .undef => match x with
      | .const _ => k ⟨.undef, [], []⟩
      | _ => none
    | v => k ⟨v, [], []⟩
  | .pick c a b =>
    match S.ev c with
    | .v (.one (.bool c)) =>
      match S.ev a, S.ev b with
      | .v (.one (.bool x)), .v (.one (.bool y)) => ret1 (.bool (br c x y)) k
      | x, y => br c (k ⟨x, [], []⟩) (k ⟨y, [], []⟩)
    | _ => none
  | .alloc t => match E.blt.lookup t with
    | some e => chk (isNew S.heap id) (k ⟨.v (.one (.ptr id 0)), [(id, some (.obj (.bld t e) ByteArray.empty 0))], [id]⟩)
    | none => match E.tab.lookup t with
    | some i => chk (isNew S.heap id) (k ⟨.v (.one (.ptr id 0)), [(id, some (.cells t i.zero 0))], [id]⟩)
    | none => none
  | .box t x => match S.ev x with
    | .v x => chk (isNew S.heap id) (k ⟨.v (.one (.ptr id 0)), [(id, some (.cells t x.cells 0))], [id]⟩)
    | _ => none
  | .build t parts => match E.tab.lookup t with
    | some i => match i.desc with
      | .struct fs => match fieldsOf E.tab fs with
        | some fs => match fillK fs i.zero (parts.toList.map fun p => (p.1, S.ev p.2)) with
          | some cs => k ⟨.v (.agg cs), [], []⟩
          | none => none
        | none => none
      | .array m et => match E.tab.lookup et with
        | some ei => match fillK ((List.range m).map fun j => (j * ei.size, ei.size)) i.zero (parts.toList.map fun p => (p.1, S.ev p.2)) with
          | some cs => k ⟨.v (.agg cs), [], []⟩
          | none => none
        | none => none
      | _ => none
    | none => none
  | .buildSlice t n parts => match E.tab.lookup t with
    | some i => match i.desc with
      | .slice et => match E.tab.lookup et with
        | some ei => match E.deeps.lookup et with
          | none => match partsD ei.ty 0 (parts.toList.map fun p => (p.1, S.ev p.2)) with
            | some xs => if xs.length = n ∧ n ≤ 65536 then chk (isNew S.heap id) (k ⟨.v (.one (.row id)), [(id, some (.row et ei.ty xs 0))], [id]⟩) else none
            | none => none
          | some T => match hasSl (parts.toList.map fun p => (p.1, S.ev p.2)) with
            | false => match partsO S.heap T 0 (parts.toList.map fun p => (p.1, S.ev p.2)) with
              | some xs => if xs.1.length = n ∧ n ≤ 65536 ∧ T.data.size = ei.size then chk (isNew S.heap id && noDup xs.2) (k ⟨.v (.one (.row id)), gone xs.2 ++ [(id, some (.deep et T xs.1 none 0))], id :: xs.2⟩) else none
              | none => none
            | true => match partsD ei.ty 0 (parts.toList.map fun p => (p.1, S.ev p.2)) with
              | some xs => if xs.length = n ∧ n ≤ 65536 then chk (isNew S.heap id) (k ⟨.v (.one (.row id)), [(id, some (.row et ei.ty xs 0))], [id]⟩) else none
              | none => none
        | none => none
      | _ => none
    | none => none
  | .load t x => match E.tab.lookup t, S.ev x with
    | some i, .v (.one c) => loadK S.heap i c id k
    | _, _ => none
  | .store t x v => match E.tab.lookup t, S.ev x, S.ev v with
    | some i, .v (.one c), .v v => storeK S.heap i c v id k
    | _, _, _ => none
  | .nilCheck x => match S.ev x with
    | .v (.one (.ptr b off)) => ret1 (.ptr b off) k
    | .v (.one (.eptr b i s off)) => ret1 (.eptr b i s off) k
    | .v (.one (.rptr T x off)) => ret1 (.rptr T x off) k
    | _ => none
  | .binOp op t x y _ => match nilAt S.heap (S.ev x) (S.ev y) with
    | some c => nilK E op t c.1 c.2 k
    | none => binK E op t (S.ev x) (S.ev y) k
  | .makeMap t r => match r, mapOf E t with
    | none, some p => chk (isNew S.heap id) (k ⟨.v (.one (.mp id)), [(id, some (.obj (.mp false p.1 p.2.ty) [] 0))], [id]⟩)
    | _, _ => none
  | .lookup t x y ok => match ok, mapOf E t, S.ev x, intOfAV (S.ev y) with
    | false, some p, .v (.one (.mp b)), some (.i64, n) => lookK S.heap p.1 b n id (E.peek.contains id) k
    | _, _, _, _ => none
  | .mapUpdate t x y v => match mapOf E t, S.ev x, intOfAV (S.ev y) with
    | some p, .v (.one (.mp b)), some (.i64, n) => updK S.heap p.1 b n (S.ev v) k
    | _, _, _ => none
  | .unOp op _ x => match op, S.ev x with
    | .not, .v (.one (.bool b)) => ret1 (.bool (!b)) k
    | .neg, .v (.one (.int kd n)) => ret1 (.int kd (kd.wrap (0 - n))) k
    | _, _ => none
  | .convert src dst x => match E.tab.lookup src, E.tab.lookup dst, S.ev x with
    | some _, some i, .v (.one (.int _ n)) => match i.desc with
      | .int kd => ret1 (.int kd (kd.wrap n)) k
      | _ => none
    | some i', some i, .v (.one (.str s)) => match i'.desc, i.desc with
      | .str, .str => ret1 (.str s) k
      | .str, .slice et => match E.tab.lookup et with
        | some ei => match ei.desc with
          | .int .u8 => br (decide (s.size ≤ 4294967296)) (ret1 (.sl (.int .u8) (bytesIn s)) k) none
          | _ => none
        | none => none
      | _, _ => none
    | some i', some i, x => bytesK E S.heap i' i x k
    | _, _, _ => none
  | .makeSlice t l c => match E.tab.lookup t, intOfAV (S.ev l), intOfAV (S.ev c) with
    | some i, some (.i64, n), some (.i64, m) => match i.desc with
      | .slice et => match E.tab.lookup et with
        | some ei => match E.deeps.lookup et with
          | none => match takeAll [] ei.ty ei.zero with
            | some z => chk (isNew S.heap id) (br (decide (0 ≤ n ∧ n = m ∧ n ≤ 1048576)) (k ⟨.v (.one (.row id)), [(id, some (.row et ei.ty (List.replicate n.toNat z) 0))], [id]⟩) none)
            | none => none
          | some T => match takeE [] 0 T ei.zero with
            | some z => chk (isNew S.heap id && decide (T.data.size = ei.size)) (br (decide (0 ≤ n ∧ n = m ∧ n ≤ 1048576)) (k ⟨.v (.one (.row id)), [(id, some (.deep et T (List.replicate n.toNat z.1) none 0))], [id]⟩) none)
            | none => none
        | none => none
      | _ => none
    | _, _, _ => none
  | .fieldAddr t x f => match E.tab.lookup t, S.ev x with
    | some i, .v (.one c) => match i.desc with
      | .struct fs => match fs[f]? with
        | some p => match E.tab.lookup p.2 with
          | some _ => match c with
            | .ptr b off => ret1 (.ptr b (off + p.1)) k
            | .eptr b n s off => ret1 (.eptr b n s (off + p.1)) k
            | .rptr T x off => ret1 (.rptr T x (off + p.1)) k
            | _ => none
          | none => none
        | none => none
      | _ => none
    | _, _ => none
  | .field t x f => match E.tab.lookup t, S.ev x with
    | some i, .v (.agg cs) => match i.desc with
      | .struct fs => match fs[f]? with
        | some p => match E.tab.lookup p.2 with
          | some fi => match v1At fi cs p.1 with
            | some x => k ⟨.v x, [], []⟩
            | none => none
          | none => none
        | none => none
      | _ => none
    | _, _ => none
  | .indexAddr t x i => match E.tab.lookup t, S.ev x, intOfAV (S.ev i) with
    | some ti, .v (.one c), some (_, n) => match ti.desc with
      | .slice et => match E.tab.lookup et with
        | some ei => match c with
          | .sl e xs => if e.size = ei.size then ob (idx xs n) fun y => ret1 (.rptr e y 0) k else none
          | .sln _ e xs => if e.size = ei.size then ob (idx xs n) fun y => ret1 (.rptr e y 0) k else none
          | .row b => match blkAt S.heap b with
            | some (.row _ e xs _) => if e.size = ei.size then ob (idx xs n) fun _ => k ⟨.v (.one (.eptr b n.toNat e.size 0)), [], [b]⟩ else none
            | some (.deep _ T xs _ _) => if T.data.size = ei.size then ob (idx xs n) fun _ => k ⟨.v (.one (.eptr b n.toNat T.data.size 0)), [], [b]⟩ else none
            | some (.obj (.que _ e) xs _) => if e.size = ei.size then ob (idx (OK.list xs) n) fun _ => k ⟨.v (.one (.qptr b n.toNat e.size)), [], [b]⟩ else none
            | _ => none
          | _ => none
        | none => none
      | .array m et => match E.tab.lookup et, c with
        | some ei, .ptr b off => if 0 ≤ n ∧ n < m ∧ 1 < m then ret1 (.ptr b (off + n.toNat * ei.size)) k else none
        | _, _ => none
      | _ => none
    | _, _, _ => none
  | .index t x i => match E.tab.lookup t, S.ev x, intOfAV (S.ev i) with
    | some ti, .v (.one (.str s)), some (_, n) => match ti.desc with
      | .str => ob (sidx s n) fun b => ret1 (.int .u8 b.toNat) k
      | _ => none
    | _, _, _ => none
  | .slice t x lo hi mx => match mx, E.tab.lookup t, S.ev x with
    | none, some ti, .v (.one (.str s)) => match ti.desc with
      | .str => match boundOf S lo 0, boundOf S hi s.size with
        | some l, some h => br (decide (0 ≤ l ∧ l ≤ h ∧ h ≤ s.size)) (ret1 (.str (s.extract l.toNat h.toNat)) k) none
        | _, _ => none
      | _ => none
    | none, some ti, .v (.one (.sl e xs)) => match ti.desc with
      | .slice et => match E.tab.lookup et with
        | some ei => if e.size = ei.size then match boundOf S lo 0, boundOf S hi xs.length with
          | some l, some h => br (decide (0 ≤ l ∧ l ≤ h ∧ h ≤ xs.length)) (ret1 (.sl e ((xs.take h.toNat).drop l.toNat)) k) none
          | _, _ => none
          else none
        | none => none
      | _ => none
    | none, some ti, .v (.one (.row b)) => match ti.desc with
      | .slice et => match E.tab.lookup et with
        | some ei => match blkAt S.heap b with
          | some (.row t e xs fz) => if e.size = ei.size ∧ fz < 2 then match boundOf S lo 0, boundOf S hi xs.length with
            | some l, some h => br (decide (0 ≤ l ∧ l ≤ h ∧ h ≤ xs.length)) (k ⟨.v (.one (.sl e ((xs.take h.toNat).drop l.toNat))), [(b, some (.row t e xs 1))], [b]⟩) none
            | _, _ => none
            else none
          | some (.obj (.que t e) xs fz) => match hi with
            | none => if e.size = ei.size ∧ fz = 0 then match boundOf S lo 0 with
              | some l => chk (isNew S.heap id) (br (decide (0 ≤ l ∧ l ≤ (OK.list xs).length)) (k ⟨.v (.one (.row id)), [(b, none), (id, some (.obj (.que t e) ((OK.list xs).drop l.toNat) 0))], [id, b]⟩) none)
              | none => none
              else none
            | some _ => none
          | _ => none
        | none => none
      | _ => none
    | _, _, _ => none
  | .extract x n => match S.ev x with
    | .tup xs => match xs[n]? with
      | some x => k ⟨.v x, [], []⟩
      | none => none
    | _ => none
  | .makeFunc fn first caps => match fn, first.toList, caps.toList with
    | .func f, [], [] => ret1 (.clo f .unit ()) k
    | .func f, [], [x] => match S.ev x with
      | .v (.one (.ptr b 0)) => ret1 (.oclo f b) k
      | .v (.one (.rptr T x 0)) => if T.isUnit = false then ret1 (.clo f T x) k else none
      | _ => none
    | _, _, _ => none
  | .call c => match c.callee with
    | .value (.func f) => match E.cons.lookup f with
      | some con => callK S con (c.args.toList.map S.ev) id k
      | none => match E.mcons.lookup f with
        | some con => mcallK S con (c.args.toList.map S.ev) id k
        | none => match E.blw.lookup f with
          | some p => bldW S.heap p.1 p.2 (c.args.toList.map S.ev) k
          | none => match E.bls.lookup f with
            | some p => bldS S.heap p.1 p.2 (c.args.toList.map S.ev) k
            | none => match E.ncons.lookup f with
              | some con => ncallK S.heap con (c.args.toList.map S.ev) id k
              | none => none
    | .value x => match S.ev x with
      | .v (.one (.clo f T y)) => match E.cons.lookup f with
        | some con => callK S con (c.args.toList.map S.ev ++ (if T.isUnit then [] else [.v (.one (.rptr T y 0))])) id k
        | none => none
      | .v (.one (.oclo f b)) => match E.cons.lookup f with
        | some con => callK S con (c.args.toList.map S.ev ++ [.v (.one (.ptr b 0))]) id k
        | none => none
      | _ => none
    | .builtin .len => match c.argTypes.toList, c.args.toList with
      | [t], [x] => match E.tab.lookup t with
        | some i => match i.desc, S.ev x with
          | .str, .v (.one (.str s)) => ret1 (.int .i64 s.size) k
          | .slice _, x => lenK S.heap x k
          | _, _ => none
        | none => none
      | _, _ => none
    | .builtin .min => match c.args.toList.mapM fun x => intOfAV (S.ev x) with
      | some ((kd, n) :: r) => ret1 (.int kd (r.foldl (fun m y => br (decide (y.2 < m)) y.2 m) n)) k
      | _ => none
    | .builtin .max => match c.args.toList.mapM fun x => intOfAV (S.ev x) with
      | some ((kd, n) :: r) => ret1 (.int kd (r.foldl (fun m y => br (decide (m < y.2)) y.2 m) n)) k
      | _ => none
    | .builtin .append => match c.argTypes.toList, c.args.toList with
      | [t, t2], [s, x] => if t2 = t then match E.tab.lookup t with
        | some i => match i.desc with
          | .slice et => match E.tab.lookup et with
            | some ei => appendK S.heap et ei.ty (S.ev s) (S.ev x) id k
            | none => none
          | _ => none
        | none => none
        else none
      | _, _ => none
    | _ => none
  | _ => none

def setAll (H : Heap) : List (Nat × Option Blk) → Heap
  | [] => H
  | x :: r => setAll (x :: H) r
/-- Lays a list out, so that it is reckoned once. -/
def force {α β : Type} : List α → (List α → β) → β
  | [], k => k []
  | x :: xs, k => force xs fun ys => k (x :: ys)
def putT (l : List AV) (dst : Option Tmp) (v : AV) : List AV :=
  match dst with
  | some d => l.set d v
  | none => l
def St.app (S : St) (dst : Option Tmp) (e : Eff) : St :=
  { tmps := putT S.tmps dst e.val, heap := setAll S.heap e.wr }
def appK {α : Type} (S : St) (dst : Option Tmp) (e : Eff) (k : St → α) : α :=
  force (putT S.tmps dst e.val) fun tm => force (setAll S.heap e.wr) fun hp => k ⟨tm, hp⟩
def St.refine (S : St) (t : Nat) (b : Bool) : St := { S with tmps := S.tmps.set t (.v (.one (.bool b))) }

/-- The number of an operation's block. -/
def blockId (dst : Option Tmp) : Nat := match dst with | some d => 4 * d | none => 0

/-- One operation with its guard. -/
def guardK (E : Env) (ops : Array Oper) (o : Oper) (S : St) (k : St → Eff → Option R) : Option R :=
  match o.guard with
  | none => opK E o.op (blockId o.dst) S fun e => k S e
  | some (j, want) =>
    match (ops[j]?).bind (·.dst) with
    | none => none
    | some t =>
      match (S.tmps[t]?).getD .undef with
      | .v (.one (.bool b)) =>
        match want with
        | true => br b (opK E o.op (blockId o.dst) (S.refine t true) fun e => k (S.refine t true) e) (k (S.refine t false) ⟨.tup [], [], []⟩)
        | false => br b (k (S.refine t true) ⟨.tup [], [], []⟩) (opK E o.op (blockId o.dst) (S.refine t false) fun e => k (S.refine t false) e)
      | .tup [] => k S ⟨.tup [], [], []⟩
      | _ => none

/-- Two operations that may change places. -/
def indep (ops : Array Oper) (x y : Oper) (ex ey : Eff) : Bool :=
  x.apart ops y && disj (ex.wr.map (·.1)) (ey.rd ++ ey.wr.map (·.1)) && disj (ey.wr.map (·.1)) ex.rd
def waits (y : Oper) (i : Nat) : Bool := y.after.toList.any fun e => Region.binds .any e && e.on == i
/-- It waits for one that waits, and so on. -/
def waitsT (ops : Array Oper) : Nat → Oper → Nat → Bool
  | 0, _, _ => false
  | n + 1, y, i => y.after.toList.any fun e => Region.binds .any e && (e.on == i || (match ops[e.on]? with | some z => waitsT ops n z i | none => false))
def edgesBack (i : Nat) (o : Oper) : Bool := o.after.toList.all fun e => !Region.binds .any e || decide (e.on < i)

/-- The operations in their order. -/
def runOps (E : Env) (ops : Array Oper) : List Oper → St → (St → Option R) → Option R
  | [], S, k => k S
  | o :: rest, S, k => guardK E ops o S fun S e => appK S o.dst e fun S => runOps E ops rest S k
/-- The same, with what each did; those behind are looked at by those ahead at the end. -/
def runDraw (E : Env) (ops : Array Oper) : Nat → List Oper → List (Nat × Oper × Eff) → St → (List (Nat × Oper × Eff) → St → Option R) → Option R
  | _, [], acc, S, k => k acc S
  | i, o :: rest, acc, S, k => guardK E ops o S fun S e => appK S o.dst e fun S => runDraw E ops (i + 1) rest ((i, o, e) :: acc) S k

/-- Each behind against each ahead: the list has the last one first. -/
def allOk (ops : Array Oper) : List (Nat × Oper × Eff) → Bool
  | [] => true
  | y :: r => (r.all fun x => waits y.2.1 x.1 || indep ops x.2.1 y.2.1 x.2.2 y.2.2 || waitsT ops 14 y.2.1 x.1) && edgesBack y.1 y.2.1 && allOk ops r

inductive Ex where
  | normal
  | ret
  | exit (id : Nat)

def projVal (S : St) (t : Nat) (T : Ty) : Option T.den :=
  match (S.tmps[t]?).getD .undef with
  | .v v => takeV [] T v
  | _ => none
def projRow (S : St) (t : Nat) (fl : Nat) (et : TypeId) (e : Ty) : Option (List e.den) :=
  match (S.tmps[t]?).getD .undef with
  | .v (.one .nils) => if fl = 0 then some [] else none
  | .v (.one (.row b)) => match blkAt S.heap b with
    | some (.row et' e' xs fz) => if h : e' = e then (if et' = et ∧ fz = fl ∧ fz ≠ 1 then some (castL h xs) else none) else none
    | _ => none
  | _ => none
def projBox (S : St) (t : Nat) (fl : Nat) (et : TypeId) (T : Ty) : Option T.den :=
  match (S.tmps[t]?).getD .undef with
  | .v (.one (.ptr b 0)) => match blkAt S.heap b with
    | some (.cells et' cs fz) => if et' = et ∧ fz = fl ∧ fz ≠ 1 then takeAll [] T cs else none
    | _ => none
  | _ => none
/-- A row as what its operations alone look at. -/
def rowObj (o : OK) (t : TypeId) (e : Ty) (xs : List e.den) : Option o.den :=
  match o with
  | .que t' e' => if h : e = e' then (if t = t' then some (castL h xs) else none) else none
  | _ => none
def projBld (S : St) (t : Nat) (bt be : TypeId) : Option ByteArray :=
  match (S.tmps[t]?).getD .undef with
  | .v (.one (.ptr b 0)) => match blkAt S.heap b with
    | some (.obj (.bld t' e') x fz) => if t' = bt ∧ e' = be ∧ fz = 0 then some (OK.text x) else none
    | _ => none
  | _ => none
def projQue (S : St) (t : Nat) (o : OK) : Option o.den :=
  match (S.tmps[t]?).getD .undef with
  | .v (.one (.row b)) => match blkAt S.heap b with
    | some (.obj o' x fz) => if h : o' = o then (if fz = 0 then some (castO h x) else none) else none
    | some (.row t' e' xs fz) => if fz = 0 then rowObj o t' e' xs else none
    | _ => none
  | _ => none
/-- A row that is nil or not; one that is not known to be nil must not be empty (need). -/
def projNrow (S : St) (t : Nat) (rt : TypeId) (e : Ty) : Option (Option (List e.den)) :=
  match (S.tmps[t]?).getD .undef with
  | .v (.one .nils) => some none
  | .v (.one (.row b)) => match blkAt S.heap b with
    | some (.obj (.nrow t' e') x fz) => if h : e' = e then (if t' = rt ∧ fz = 0 then some ((OK.opt x).map (castL h)) else none) else none
    | some (.row t' e' xs fz) => if h : e' = e then (if t' = rt ∧ fz = 0 then some (some (castL h xs)) else none) else none
    | _ => none
  | _ => none
def projObj (S : St) (t : Nat) : (o : OK) → Option o.den
  | .que qt e => projQue S t (.que qt e)
  | .bld bt be => projBld S t bt be
  | .nrow rt e => projNrow S t rt e
  | .mp _ _ _ => none
  | .mph _ _ => none
/-- A row of the call's own that is to be kept as one that is not nil: it must not be empty. -/
def needOneK {α : Type} (S : St) (t : Nat) (d : Desc) (k : Option α) : Option α :=
  match d with
  | .obj (.nrow _ _) => match (S.tmps[t]?).getD .undef with
    | .v (.one (.row b)) => match blkAt S.heap b with
      | some (.row _ _ xs _) => br xs.isEmpty none k
      | _ => k
    | _ => k
  | _ => k
def needK {α : Type} (S : St) : Vars → Option α → Option α
  | [], k => k
  | x :: xs, k => needOneK S x.1 x.2 (needK S xs k)
/-- A deep row, its laid open element put back; the rows put back. -/
def shutB (H : Heap) (T : RTy) (xs : List T.den) (op : Option (Nat × List Cell)) (fz : Nat) : Option (List T.den × List Nat) :=
  match op with
  | none => some (xs, [])
  | some (n, cs) => (takeE H (inner fz) T cs).map fun y => (xs.set n y.1, y.2)
def deepAt (S : St) (t : Nat) (fl : Nat) (et : TypeId) (R : RTy) : Option (Nat × List R.den × List Nat) :=
  match (S.tmps[t]?).getD .undef with
  | .v (.one (.row b)) => match blkAt S.heap b with
    | some (.deep et' R' xs op fz) => if h : R' = R then (if et' = et ∧ fz = fl ∧ fz ≠ 1 then (shutB S.heap R' xs op fz).map fun y => (b, castR h y.1, y.2) else none) else none
    | _ => none
  | _ => none
def projDeep (S : St) (t : Nat) (fl : Nat) (et : TypeId) (R : RTy) : Option (List R.den) :=
  match (S.tmps[t]?).getD .undef with
  | .v (.one .nils) => if fl = 0 then some [] else none
  | _ => (deepAt S t fl et R).map (·.2.1)
/-- Data and rows out of a box's cells: the data, what is left, the rows. -/
def takeN (H : Heap) : (R : RTy) → List Cell → Option (R.den × List Cell × List (Option Nat))
  | .d T, cs => (takeAll [] T (cs.take T.size)).map fun x => (x, cs.drop T.size, [])
  | .row t e, cs =>
    match cs with
    | .nils :: r => some ([], r, [none])
    | .row b :: r => match blkAt H b with
      | some (.row t' e' xs fz) => if h : e' = e then (if t' = t ∧ fz = 0 then some (castL h xs, r, [some b]) else none) else none
      | _ => none
    | _ => none
  | .pair a b, cs => (takeN H a cs).bind fun x => (takeN H b x.2.1).bind fun y => some ((x.1, y.1), y.2.1, x.2.2 ++ y.2.2)
  | .box _ _, _ => none
  | .deep t R, cs =>
    match cs with
    | .nils :: r => some ([], r, [none])
    | .row b :: r => match blkAt H b with
      | some (.deep t' R' xs none fz) => if h : R' = R then (if t' = t ∧ fz = 0 then some (castR h xs, r, [some b]) else none) else none
      | _ => none
    | _ => none
  | .mp fr t e, cs =>
    match cs with
    | .nilm :: r => match fr with
      | true => some ([], r, [none])
      | false => none
    | .mp b :: r => match blkAt H b with
      | some (.obj o x fz) => if h : o = .mp fr t e then (if fz = 0 then some (castO h x, r, [some b]) else none) else none
      | _ => none
    | _ => none
/-- A box with rows: its block, what it holds. -/
def nestAt (S : St) (t : Nat) (fl : Nat) (et : TypeId) (R : RTy) : Option (Nat × R.den × List (Option Nat)) :=
  match (S.tmps[t]?).getD .undef with
  | .v (.one (.ptr b 0)) => match blkAt S.heap b with
    | some (.cells et' cs fz) => if et' = et ∧ fz = fl ∧ fz ≠ 1 then (takeN S.heap R cs).bind fun y => match y.2.1 with
        | [] => some (b, y.1, y.2.2)
        | _ => none
      else none
    | _ => none
  | _ => none
/-- The block of the k-th row in a box. -/
def sameAt (S : St) (t' : Nat) (R : RTy) (k : Nat) : Option Nat :=
  match (S.tmps[t']?).getD .undef with
  | .v (.one (.ptr b 0)) => match blkAt S.heap b with
    | some (.cells _ cs _) => match takeN S.heap R cs with
      | some y => match y.2.2[k]? with
        | some (some b) => some b
        | _ => none
      | none => none
    | _ => none
  | _ => none
def projSame (S : St) (t t' : Nat) (R : RTy) (k : Nat) : Option Unit :=
  match (S.tmps[t]?).getD .undef, sameAt S t' R k with
  | .v (.one (.row b)), some b' => if b = b' then some () else none
  | _, _ => none
def projOne (S : St) (t : Nat) : (d : Desc) → Option d.den
  | .val T => projVal S t T
  | .row fl et e => projRow S t fl et e
  | .box fl et T => projBox S t fl et T
  | .boxR fl et R => (nestAt S t fl et R).map (·.2.1)
  | .same t' R k => projSame S t t' R k
  | .deep fl et R => projDeep S t fl et R
  | .obj o => projObj S t o
def proj (S : St) : (vs : Vars) → Option vs.den
  | [] => some ()
  | [x] => projOne S x.1 x.2
  | x :: y :: xs => (projOne S x.1 x.2).bind fun a => (proj S (y :: xs)).bind fun b => some (a, b)
def embOne (t : Nat) (d : Desc) (x : d.den) (S : St) : St :=
  match d, x with
  | .val T, x => { S with tmps := S.tmps.set t (.v (v1Of T x)) }
  | .row fl et e, xs => { tmps := S.tmps.set t (.v (.one (.row (4 * t + 3)))), heap := (4 * t + 3, some (.row et e xs fl)) :: S.heap }
  | .box fl et T, x => { tmps := S.tmps.set t (.v (.one (.ptr (4 * t + 3) 0))), heap := (4 * t + 3, some (.cells et (cellsOf T x) fl)) :: S.heap }
  | .boxR fl et R, x => { tmps := S.tmps.set t (.v (.one (.ptr (4 * t + 3) 0))), heap := (4 * t + 3, some (.cells et (nestCells t R x 0).1 fl)) :: ((nestCells t R x 0).2.1 ++ S.heap) }
  | .same t' _ k, _ => { S with tmps := S.tmps.set t (.v (.one (.row (nestId t' k)))) }
  | .deep fl et R, xs => { tmps := S.tmps.set t (.v (.one (.row (4 * t + 3)))), heap := (4 * t + 3, some (.deep et R xs none fl)) :: S.heap }
  | .obj o, x => { tmps := S.tmps.set t (.v (.one (o.cell (4 * t + 3)))), heap := (4 * t + 3, some (.obj o x 0)) :: S.heap }
def emb : (vs : Vars) → vs.den → St → St
  | [], _, S => S
  | [x], s, S => embOne x.1 x.2 s S
  | x :: y :: xs, s, S => emb (y :: xs) s.2 (embOne x.1 x.2 s.1 S)
/-- The blocks that a loop's variables lie in. -/
def projIds (S : St) : Vars → List Nat
  | [] => []
  | x :: xs => (match x.2, (S.tmps[x.1]?).getD .undef with
    | .row _ _ _, .v (.one (.row b)) => [b]
    | .box _ _ _, .v (.one (.ptr b _)) => [b]
    | .obj _, .v (.one (.row b)) => [b]
    | .obj _, .v (.one (.ptr b _)) => [b]
    | .boxR fl et R, _ => (match nestAt S x.1 fl et R with
      | some y => y.1 :: y.2.2.filterMap (fun b => b)
      | none => [])
    | .deep fl et R, _ => (match deepAt S x.1 fl et R with
      | some y => y.1 :: y.2.2
      | none => [])
    | _, _ => []) ++ projIds S xs
/-- Rows that are looked up in a box ahead. -/
def sameOk : List (Nat × RTy) → Vars → Bool
  | _, [] => true
  | seen, x :: xs => match x.2 with
    | .boxR _ _ R => sameOk ((x.1, R) :: seen) xs
    | .same t' R _ => seen.any (fun p => p.1 == t' && (match RTy.dec p.2 R with | isTrue _ => true | isFalse _ => false)) && sameOk seen xs
    | _ => sameOk seen xs
def projOk (n : Nat) (vs : Vars) (S : St) : Bool := S.tmps.length == n && noDup (vs.map (·.1)) && noDup (projIds S vs) && (vs.all fun x => Nat.ble (x.1 + 1) 512) && sameOk [] vs
def St.empty (n : Nat) : St := { tmps := List.replicate n .undef, heap := [] }

def embK {α : Type} (vs : Vars) (x : vs.den) (n : Nat) (k : St → α) : α :=
  force (emb vs x (St.empty n)).tmps fun tm => force (emb vs x (St.empty n)).heap fun hp => k ⟨tm, hp⟩

/-- A loop's number: its first region's. -/
def key : Code → Nat
  | .region id _ _ => id
  | .seq a _ => key a
  | .block _ b => key b
  | .loop b => key b
  | .scope b => key b
  | _ => 0

/-- Rows that stay as they are are data. -/
def meltC (H : Heap) : Cell → Cell
  | .row b => match blkAt H b with
    | some (.row _ e xs fz) => if fz = 1 then .sl e xs else .row b
    | some (.deep _ R xs none fz) => if fz = 1 then .sl R.data xs else .row b
    | _ => .row b
  | c => c
def meltAV (H : Heap) : AV → AV
  | .v (.one c) => .v (.one (meltC H c))
  | .v (.agg cs) => .v (.agg (cs.map (meltC H)))
  | x => x
def meltB (H : Heap) : Blk → Blk
  | .cells t cs fz => .cells t (cs.map (meltC H)) fz
  | B => B
def St.melt (S : St) : St := ⟨S.tmps.map (meltAV S.heap), S.heap.map fun p => (p.1, p.2.map (meltB S.heap))⟩
def meltK {α : Type} (S : St) (k : St → α) : α := force S.melt.tmps fun tm => force S.melt.heap fun hp => k ⟨tm, hp⟩

/-- Rows that are given up for writing ahead of some region: those in the boxes of some slots. -/
def frzRows (S : St) (ts : List Nat) : List Nat := ts.flatMap fun t => match (S.tmps[t]?).getD .undef with
  | .v (.one (.ptr b _)) => nestRows S.heap b
  | .v (.one (.row b)) => [b]
  | _ => []
/-- Maps are frozen: their rows stay as they are from now on. -/
def mfreeze : List Nat → Heap → Heap
  | [], H => H
  | b :: r, H => mfreeze r (match blkAt H b with
    | some (.obj (.mp false t e) x 0) => (b, some (.obj (.mp true t e) x 0)) :: H
    | _ => H)
def mfrzRows (S : St) (ts : List Nat) : List Nat := ts.flatMap fun t => match (S.tmps[t]?).getD .undef with
  | .v (.one (.ptr b _)) => nestRows S.heap b
  | _ => []
def mfrzK {α : Type} (E : Env) (id : Nat) (S : St) (k : St → Option α) : Option α :=
  match E.mfrz.lookup id with
  | none => k S
  | some ts => force (mfreeze (mfrzRows S ts) S.heap) fun hp => k ⟨S.tmps, hp⟩
def frzK {α : Type} (E : Env) (id : Nat) (S : St) (k : St → Option α) : Option α :=
  match E.frz.lookup id with
  | none => mfrzK E id S k
  | some ts => chk (mayFreeze S.heap (frzRows S ts)) (meltK ⟨S.tmps, setAll S.heap (freeze S.heap (frzRows S ts))⟩ fun S => mfrzK E id S k)
def exec (E : Env) (n : Nat) : Code → St → (Ex → St → Option R) → Option R
  | .skip, S, k => k .normal S
  | .region id ops d, S, k => frzK E id S fun S =>
    match d with
    | false => runOps E ops ops.toList S (k .normal)
    | true => runDraw E ops 0 ops.toList [] S fun acc S => chk (allOk ops acc) (k .normal S)
  | .seq a b, S, k => exec E n a S fun e S => match e with
    | .normal => exec E n b S k
    | .ret => k .ret S
    | .exit i => k (.exit i) S
  | .cond c a b, S, k =>
    match c with
    | .tmp t => match (S.tmps[t]?).getD .undef with
      | .v (.one (.bool x)) => br x (exec E n a (S.refine t true) k) (exec E n b (S.refine t false) k)
      | _ => none
    | _ => none
  | .block id b, S, k => exec E n b S fun e S => match e with
    | .normal => k .normal S
    | .ret => k .ret S
    | .exit i => if i = id then k .normal S else k (.exit i) S
  | .loop b, S, k => match E.loops.lookup (key b) with
    | some L => meltK S fun S => chk (projOk n L.vars S) (needK S L.vars ((proj S L.vars).bind fun s => match L.F with
      | .plain F => ob (F s) fun r => embK L.vars r n fun S => k (.exit L.out) S
      | .two F => ob (F s) fun r => br r.1 (embK L.vars r.2 n fun S => k (.exit L.out) S) (embK L.vars r.2 n fun S => k .ret S)
      | .alt rv F => ob (F s) fun r => el r (fun r => embK L.vars r n fun S => k (.exit L.out) S) (fun r => embK rv r n fun S => k .ret S)))
    | none => none
  | .exit id, S, k => k (.exit id) S
  | .ret, S, k => k .ret S
  | _, _, _ => none

/-- What a round of a loop comes to. -/
inductive LRes where
  | next
  | out
  | ret
def stepOf (E : Env) (n : Nat) (vs : Vars) (out : Nat) (body : Code) (s : vs.den) : Option (LRes × vs.den) :=
  force (emb vs s (St.empty n)).tmps fun tm => force (emb vs s (St.empty n)).heap fun hp => exec E n body ⟨tm, hp⟩ fun e S => match e with
    | .normal => chk (projOk n vs S) (needK S vs ((proj S vs).bind fun s => some (.next, s)))
    | .ret => chk (projOk n vs S) (needK S vs ((proj S vs).bind fun s => some (.ret, s)))
    | .exit i => if i = out then chk (projOk n vs S) (needK S vs ((proj S vs).bind fun s => some (.out, s))) else none
def stepOfA (E : Env) (n : Nat) (vs rv : Vars) (out : Nat) (body : Code) (s : vs.den) : Option (LS vs.den rv.den) :=
  force (emb vs s (St.empty n)).tmps fun tm => force (emb vs s (St.empty n)).heap fun hp => exec E n body ⟨tm, hp⟩ fun e S => match e with
    | .normal => chk (projOk n vs S) (needK S vs ((proj S vs).bind fun s => some (.next s)))
    | .ret => meltK S fun S => chk (projOk n rv S) (needK S rv ((proj S rv).bind fun s => some (.ret s)))
    | .exit i => if i = out then chk (projOk n vs S) (needK S vs ((proj S vs).bind fun s => some (.out s))) else none
/-- The rounds of a loop. -/
def iter {α : Type} (step : α → Option (LRes × α)) : Nat → α → Option (Bool × α)
  | 0, _ => none
  | n + 1, s => ob (step s) fun r => match r.1 with
    | .next => iter step n r.2
    | .out => some (true, r.2)
    | .ret => some (false, r.2)
def iterA {α β : Type} (step : α → Option (LS α β)) : Nat → α → Option (Sum α β)
  | 0, _ => none
  | n + 1, s => ob (step s) fun r => match r with
    | .next s => iterA step n s
    | .out s => some (.inl s)
    | .ret r => some (.inr r)
/-- The rounds of a loop that the function does not return from. -/
def iterP {α : Type} (step : α → Option (LRes × α)) : Nat → α → Option α
  | 0, _ => none
  | n + 1, s => ob (step s) fun r => match r.1 with
    | .next => iterP step n r.2
    | .out => some r.2
    | .ret => none

def argVs : (Ts : List Ty) → Dens Ts → List V1
  | [], _ => []
  | [T], x => [v1Of T x]
  | T :: U :: Ts, x => v1Of T x.1 :: argVs (U :: Ts) x.2
def initSt (n : Nat) (doms : List Ty) (x : Dens doms) : St :=
  { tmps := (argVs doms x).map .v ++ List.replicate (n - doms.length) .undef, heap := [] }

/-- Arguments, of which the first one is known to be nil or not. -/
def v1N (b : Bool) (T : Ty) (x : T.den) : V1 :=
  match T, x with
  | .slice e, xs => .one (.sln b e xs)
  | T, x => v1Of T x
def argVs1 (b : Bool) : (Ts : List Ty) → Dens Ts → List V1
  | [], _ => []
  | [T], x => [v1N b T x]
  | T :: U :: Ts, x => v1N b T x.1 :: argVs (U :: Ts) x.2
def nilT : (T : Ty) → T.den → Prop
  | .slice _, xs => xs = []
  | _, _ => False
def nil1 : (Ts : List Ty) → Dens Ts → Prop
  | [], _ => False
  | [T], x => nilT T x
  | T :: _ :: _, x => nilT T x.1

def takeRV (H : Heap) (T : RTy) (x : V1) : Option (T.den × List Cell × List Nat × List Nat) := if shapeR T x then takeR H T x.cells else none
def resD (H : Heap) : (Ts : List RTy) → List V1 → Option (RDens Ts × List Nat × List Nat)
  | [], vs => match vs with
    | [] => some ((), [], [])
    | _ => none
  | [T], vs => match vs with
    | [v] => (takeRV H T v).bind fun x => match x.2.1 with
      | [] => some (x.1, x.2.2.1, x.2.2.2)
      | _ => none
    | _ => none
  | T :: U :: Ts, vs => match vs with
    | v :: r => (takeRV H T v).bind fun x => match x.2.1 with
      | [] => (resD H (U :: Ts) r).bind fun y => some ((x.1, y.1), x.2.2.1 ++ y.2.1, x.2.2.2 ++ y.2.2)
      | _ => none
    | _ => none
def resV (E : Env) (S : St) : ResultVar → Option V1
  | .tmp t => match (S.tmps[t]?).getD .undef with
    | .v v => some v
    | _ => none
  | .cell t ty => match (S.tmps[t]?).getD .undef, E.tab.lookup ty with
    | .v (.one (.ptr b off)), some i => match blkAt S.heap b with
      | some (.cells _ cs _) => v1At i cs off
      | _ => none
    | _, _ => none
def finish (E : Env) (rs : List ResultVar) (cod : List RTy) (S : St) : Option (RDens cod) :=
  match rs.mapM (resV E S) with
  | some vs => (resD S.heap cod vs).bind fun x => match noDup x.2.1 && disj x.2.1 x.2.2 && mayFreeze S.heap x.2.2 with
    | true => some x.1
    | false => none
  | none => none
end

/-- The number of the j-th block that is handed over. -/
def lendId (n j : Nat) : Nat := 4 * (n + j) + 2
def lendHeap (n : Nat) : Nat → List Blk → Heap
  | _, [] => []
  | j, B :: Bs => (lendId n j, some (B.held (2 + 2 * j))) :: lendHeap n (j + 1) Bs
def lendCells (n : Nat) : (T : RTy) → T.den → Nat → List Cell × Nat
  | .d T, x, j => (cellsOf T x, j)
  | .row _ _, _, j => ([.row (lendId n j)], j + 1)
  | .pair a b, x, j =>
    let p := lendCells n a x.1 j
    let q := lendCells n b x.2 p.2
    (p.1 ++ q.1, q.2)
  | .box _ _, _, j => ([.ptr (lendId n j) 0], j + 1)
  | .deep _ _, _, j => ([.row (lendId n j)], j + 1)
  | .mp _ _ _, _, j => ([.mp (lendId n j)], j + 1)
def lendV1 (n : Nat) (A : ATy) (x : A.den) (j : Nat) : V1 × Nat :=
  match A, x with
  | .v (.d T), x => (v1Of T x, j)
  | .v (.row _ _), _ => (.one (.row (lendId n j)), j + 1)
  | .v (.pair a b), x => let p := lendCells n (.pair a b) x j; (.agg p.1, p.2)
  | .v (.box _ _), _ => (.one (.ptr (lendId n j) 0), j + 1)
  | .v (.deep _ _), _ => (.one (.row (lendId n j)), j + 1)
  | .v (.mp _ _ _), _ => (.one (.mp (lendId n j)), j + 1)
  | .box _ _, _ => (.one (.ptr (lendId n j) 0), j + 1)
def lendAll (n : Nat) : (As : List ATy) → ADens As → Nat → List V1
  | [], _, _ => []
  | [A], x, j => [(lendV1 n A x j).1]
  | A :: B :: As, x, j => let p := lendV1 n A x.1 j; p.1 :: lendAll n (B :: As) x.2 p.2
def findArg (H0 : Heap) (j : Nat) : Heap → Option Blk
  | [] => none
  | x :: r => match lk H0 x.1 with
    | some (some B) => if B.fz = 2 + 2 * j then some B else findArg H0 j r
    | _ => findArg H0 j r
def outR (H : Heap) : (T : RTy) → T.den → Nat → Option (T.den × Nat)
  | .d _, x, j => some (x, j)
  | .row t e, _, j => match findArg H j H with
    | some (.row t' e' xs _) => if h : e' = e then (if t' = t then some (castL h xs, j + 1) else none) else none
    | _ => none
  | .pair a b, x, j => (outR H a x.1 j).bind fun y => (outR H b x.2 y.2).bind fun z => some ((y.1, z.1), z.2)
  | .box t T, _, j => match findArg H j H with
    | some (.cells t' cs _) => if t' = t then (takeAll [] T cs).map fun d => (d, j + 1) else none
    | _ => none
  | .deep t R, _, j => match findArg H j H with
    | some (.deep t' R' xs none _) => if h : R' = R then (if t' = t then some (castR h xs, j + 1) else none) else none
    | _ => none
  | .mp _ _ _, _, _ => none
def outA (H : Heap) : (A : ATy) → A.den → Nat → Option (A.den × Nat)
  | .v R, x, j => outR H R x j
  | .box t T, _, j => match findArg H j H with
    | some (.cells t' cs _) => if t' = t then (takeAll [] T cs).map fun d => (d, j + 1) else none
    | _ => none
def outAs (H : Heap) : (As : List ATy) → ADens As → Nat → Option (ADens As)
  | [], _, _ => some ()
  | [A], x, j => (outA H A x j).map (·.1)
  | A :: B :: As, x, j => (outA H A x.1 j).bind fun y => (outAs H (B :: As) x.2 y.2).bind fun z => some (y.1, z)
def initM (n : Nat) (doms : List ATy) (x : ADens doms) : St :=
  { tmps := (lendAll n doms x 0).map .v ++ List.replicate (n - doms.length) .undef, heap := lendHeap n 0 (blksA doms x) }
def finishM (E : Env) (rs : List ResultVar) (dom : List ATy) (cod : List RTy) (x : ADens dom) (S : St) : Option (RDens cod × ADens dom) :=
  (finish E rs cod S).bind fun y => (outAs S.heap dom x 0).bind fun z => some (y, z)
def runFnM (E : Env) (fn : Func) (dom : List ATy) (cod : List RTy) (x : ADens dom) : Option (RDens cod × ADens dom) :=
  match fn.body with
  | some c => force (initM fn.ntmps dom x).tmps fun tm => force (initM fn.ntmps dom x).heap fun hp => exec E fn.ntmps c ⟨tm, hp⟩ fun e S => match e with
    | .normal => finishM E fn.results.toList dom cod x S
    | .ret => finishM E fn.results.toList dom cod x S
    | .exit _ => none
  | none => none

def runFn (E : Env) (fn : Func) (dom : List Ty) (cod : List RTy) (x : Dens dom) : Option (RDens cod) :=
  match fn.body with
  | some c => force (initSt fn.ntmps dom x).tmps fun tm => exec E fn.ntmps c ⟨tm, []⟩ fun e S => match e with
    | .normal => finish E fn.results.toList cod S
    | .ret => finish E fn.results.toList cod S
    | .exit _ => none
  | none => none
def runFnN (E : Env) (fn : Func) (dom : List Ty) (cod : List RTy) (nl : Bool) (x : Dens dom) : Option (RDens cod) :=
  match fn.body with
  | some c => force ((argVs1 nl dom x).map .v ++ List.replicate (fn.ntmps - dom.length) .undef) fun tm => exec E fn.ntmps c ⟨tm, []⟩ fun e S => match e with
    | .normal => finish E fn.results.toList cod S
    | .ret => finish E fn.results.toList cod S
    | .exit _ => none
  | none => none
def initN (n : Nat) (c : NCon) (x : c.R.den) (y : Dens c.dom) : St :=
  embOne 0 (.boxR 2 c.t c.R) x { tmps := .undef :: ((argVs c.dom y).map .v ++ List.replicate (n - 1 - c.dom.length) .undef), heap := [] }
/-- The box that was handed over, as it is now. -/
def boxOut (S : St) (et : TypeId) (R : RTy) : Option (Nat × R.den × List Nat) :=
  match (S.tmps[0]?).getD .undef with
  | .v (.one (.ptr b 0)) => match blkAt S.heap b with
    | some (.cells et' cs fz) => if et' = et ∧ fz = 2 then (takeR S.heap R cs).bind fun y => match y.2.1, y.2.2.2 with
        | [], [] => some (b, y.1, y.2.2.1)
        | _, _ => none
      else none
    | _ => none
  | _ => none
def finishN (E : Env) (rs : List ResultVar) (c : NCon) (S : St) : Option (c.cod.den × c.R.den) :=
  match rs.mapM (resV E S) with
  | some [v] => (takeV [] c.cod v).bind fun y => (boxOut S c.t c.R).bind fun z => match noDup z.2.2 with
    | true => some (y, z.2.1)
    | false => none
  | _ => none
def runFnX (E : Env) (fn : Func) (c : NCon) (x : c.R.den × Dens c.dom) : Option (c.cod.den × c.R.den) :=
  match fn.body with
  | some cd => force (initN fn.ntmps c x.1 x.2).tmps fun tm => force (initN fn.ntmps c x.1 x.2).heap fun hp => exec E fn.ntmps cd ⟨tm, hp⟩ fun e S => match e with
    | .normal => finishN E fn.results.toList c S
    | .ret => finishN E fn.results.toList c S
    | .exit _ => none
  | none => none
end Rx
end Go.Proofs.YthfgpnpoocepeaaGreat
