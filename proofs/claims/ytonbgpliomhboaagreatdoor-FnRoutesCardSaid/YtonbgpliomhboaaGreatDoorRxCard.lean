/- A law's row whose package-level variables are laid: what is to be shown of it. No conditions. -/
import Derived.Test.YtonbgpliomhboaaGreatDoorRxEnv
import Derived.Test.YtonbgpliomhboaaGreatDoorTie
import Derived.Test.YtonbgpliomhboaaGreatDoorCards
import Derived.LaidMore
import Derived.MakeChecks
import Derived.Stop.LaidErr
import Derived.SevenTiedAt
import Derived.Lib.LaidTab
import Derived.Shelf.Vars
import Derived.ShapedOpen
import Derived.Lay
namespace Go.Proofs.YtonbgpliomhboaaGreatDoor
open Go.ChangeShapes Go.WideShapes Go.ChangeAt Go.RowKit

/-- A law's row out of its contract, with variables laid. -/
theorem law_handed_laid {C : Checked} {os : Os} {H : Type} {enc : TypeId × Value → H} {f : FuncId} {fn : Func} {s : ChangeSpec} {fresh handsOn : Bool} {tb : TypeId} {laid : List (String × DataW Unit)}
    (own : ownKnob C.prog.godebug = none) (started : os.Started) (noInit : C.prog.inits.idxOf? f = none) (hfn : C.prog.funcs[f]? = some fn)
    (hl : laidOutB C.prog = true) (hts : ∀ t ∈ fn.params.toList, C.prog.readableRec t = true ∧ t < C.prog.types.size) (hvars : s.vars = [])
    (hspec : ∀ ds : List (DataW H), ds.length = fn.params.toList.length → s.fn H (ds ++ []) = { results := [.lit (.bool true)], args := ds })
    (hres : fn.resultTypes = #[tb]) (hbool : C.prog.underlying tb = some .bool)
    (witness : ∃ (w : World) (tape : Tape) (i : Input), w.os = os ∧ (w.forCall tape i).Shaped C.prog ∧ i.vars = [] ∧ Input.okWide C.prog (w.forCall tape i) .any w.heap.size f i ∧
      ((s.pre enc C.prog fn [] false (w.forCall tape i).memory i.args ∧ laidMetH C.prog laid (w.forCall tape i).memory) ∧ sizedMet enc C.prog fn (OpenSpec.ofChange s) false (w.forCall tape i).memory i.args) ∧ Assume.holds {} C.prog (lone (Frame.enter C.prog f i.args .normal) [] (w.forCall tape i)))
    (core : ∀ (W : World) (args : Array Value), W.ShapedOpen C.prog → laidMetH C.prog laid W → args.size = fn.params.size → (∀ (j : Nat) t v, fn.params[j]? = some t → args[j]? = some v → ArgIs C.prog W t v) →
      Calls C.prog f args W fun e W' => e = .returned (.bool true) ∧ Below W.heap.size W W') :
    ReturnsInHanded {} C os f .any (fun w args => (s.pre enc C.prog fn [] false w args ∧ laidMetH C.prog laid w) ∧ sizedMet enc C.prog fn (OpenSpec.ofChange s) false w args) (s.post enc C.prog fn false fresh handsOn false) := by
  refine returnsInHanded_of_calls own started noInit witness ?_
  intro w0 tape inp _ hshape _ hok hpre _
  obtain ⟨_, _, _, fn', hfn', _, _, _, _, hval⟩ := hok
  obtain rfl : fn' = fn := Option.some.inj (hfn'.symm.trans hfn)
  obtain ⟨⟨⟨ds, gs, before, hw, _⟩, hL⟩, _⟩ := hpre
  have hW := DataW.Whole.of_heap (w' := w0.forCall tape inp) (by rfl) hw
  have hL : laidMetH C.prog laid (w0.forCall tape inp) := hL.of_heap (by rfl)
  refine Calls.mono (R := fun e W' => ∃ v, e = .returned v ∧ s.post enc C.prog fn' false fresh handsOn false (w0.forCall tape inp) inp.args v W') ?_ (fun e W' ⟨v, he, hp⟩ => by
    subst he
    exact ChangeSpec.post_blind hp)
  generalize w0.forCall tape inp = W at hval hW hL hshape
  generalize inp.args = args at hval hW
  have hW' := hW
  obtain ⟨p, q, hA, hV, rfl, hfz, hnd⟩ := hW
  rw [hvars] at hV
  obtain ⟨rfl, rfl⟩ := trodVars_none hV
  obtain ⟨e1, e2, e3⟩ := trodAll_get hA
  have hlt : ∀ x ∈ p, x.block < W.heap.size := fun x hx => by simpa using hW'.lt x (by simpa using hx)
  refine (core W args hshape hL (by simpa using e1) (fun j t v hj hv => ?_)).mono fun e W' ⟨he, hb⟩ => ?_
  · obtain ⟨d, q, fuel, hf⟩ := e3 j t v (by simpa using hj) (by simpa using hv)
    exact ⟨fun d l hl => flat_has d t l hl _ _ _ hf, fun fs hs => by
      obtain ⟨cs, h1, _⟩ := okWide_struct hs (hval j t v hj hv)
      exact ⟨cs, h1⟩, fun hs => by
      rcases hs with ⟨k, hs⟩ | hs | hs | ⟨k, hs⟩
      · obtain ⟨n, rfl⟩ := okWide_int hs (hval j t v hj hv)
        rfl
      · obtain ⟨n, rfl⟩ := okWide_bool hs (hval j t v hj hv)
        rfl
      · obtain ⟨n, rfl⟩ := okWide_string hs (hval j t v hj hv)
        rfl
      · obtain ⟨a, n, c, rfl⟩ := okWide_slice hs (hval j t v hj hv)
        rfl⟩
  · subst he
    refine ⟨_, rfl, ds, [], p ++ [], [], p, [], hW', ?_, ?_, ?_, hb.frame _, fun h => by cases h⟩
    · rw [hspec ds e2, hres]
      exact trodAll_mk1 (shut_bool hbool true)
    · rw [hspec ds e2]
      exact trodAll_below hl hb hts hA hlt
    · rw [hspec ds e2, hvars]
      rfl
namespace Rx
/-- The tables that the row lays are those that the evaluator asks for. -/
theorem errRow (u : TypeId) (h : Tryz.prog.typeName? 3 u = some "*errors.errorString") : u = 173 :=
  have e : "*" ++ "errors.errorString" = "*errors.errorString" := by decide
  typeName_ptr_named (nm := "errors.errorString") (by rw [e]; kernel_rfl) (by kernel_rfl) (by decide) u (by rw [e]; exact h)
theorem laid_read {W : World} (hsh : W.ShapedOpen Tryz.prog) (h : laidMetH Tryz.prog [("math/bits.deBruijn32tab", Rows.laid_math_bits_deBruijn32tab), ("math/bits.deBruijn64tab", Rows.laid_math_bits_deBruijn64tab), ("internal/strconv.uint64pow10", Rows.laid_internal_strconv_uint64pow10), ("unicode/utf8.acceptRanges", Rows.laid_unicode_utf8_acceptRanges), ("strconv.ErrRange", Rows.laid_strconv_ErrRange), ("strconv.ErrSyntax", Rows.laid_strconv_ErrSyntax), ("unicode/utf8.first", Rows.laid_unicode_utf8_first)] W) : Laid W := by
  rw [MakeChecks.laidMetH_plain _ _ _ (by kernel_rfl)] at h
  have h := h.tail.tail
  have e : (Rows.laid_internal_strconv_uint64pow10 : DataW Unit) = Lib.tabData .u64 Lib.pow10Tab := by kernel_rfl
  rw [e] at h
  have hp := Lib.tabIs_of_head (g := glob "internal/strconv.uint64pow10") (t := ((Tryz.prog.globals[glob "internal/strconv.uint64pow10"]?).map (·.type)).getD 0) (e := 112) (n := 20) (by kernel_rfl) (by kernel_rfl) (by kernel_rfl) (by kernel_rfl) (by kernel_rfl) (by kernel_rfl) h
  have hR := h.tail.tail
  have hS := hR.tail
  obtain ⟨a1, s1, v1, _⟩ := Go.laid_sentinel hR (named_get (by kernel_rfl)) (by kernel_rfl) Tryz.underlying86 errRow Tryz.underlying173 Tryz.underlying175 rfl rfl Tryz.underlying9 (by kernel_rfl) (by kernel_rfl)
  obtain ⟨a2, s2, v2, _⟩ := Go.laid_sentinel hS (named_get (by kernel_rfl)) (by kernel_rfl) Tryz.underlying86 errRow Tryz.underlying173 Tryz.underlying175 rfl rfl Tryz.underlying9 (by kernel_rfl) (by kernel_rfl)
  exact laid_of ⟨hp, ⟨_, _, v2⟩, ⟨_, _, v1⟩, cell_of_shapedOpen_int (zero := #[.int .i64 0]) (t := 3) hsh (of_decide_eq_true (by kernel_rfl)) (by kernel_rfl) rfl (by kernel_rfl) (by kernel_rfl) Tryz.underlying3⟩
end Rx
end Go.Proofs.YtonbgpliomhboaaGreatDoor
