/- Part of a proof over a Go program: Ent. No condition. -/
import Derived.Test.YtkjghcbnmipgfaaGreatDoorA21
import Derived.Test.YtkjghcbnmipgfaaGreatDoorChecked
import Derived.ProofKit
import Derived.LaidMore
import Derived.OpenShut
import Derived.Stop.Joined
import Derived.Lay
import Derived.SevenTiedAt
import Derived.Test.YtkjghcbnmipgfaaGreatDoorRows
set_option linter.unusedSectionVars false
set_option linter.unusedSimpArgs false
set_option linter.unusedVariables false
set_option maxRecDepth 100000
namespace Go.Proofs.YtkjghcbnmipgfaaGreatDoor.Vc
open Go.RowKit Go.ChangeShapes Go.WideShapes Go.ChangeAt Ma
def laidA : List (String × DataW Unit) := [("math/bits.deBruijn32tab", Rows.laid_math_bits_deBruijn32tab), ("math/bits.deBruijn64tab", Rows.laid_math_bits_deBruijn64tab), ("internal/strconv.uint64pow10", Rows.laid_internal_strconv_uint64pow10),
  ("unicode/utf8.acceptRanges", Rows.laid_unicode_utf8_acceptRanges), ("strconv.ErrRange", Rows.laid_strconv_ErrRange), ("strconv.ErrSyntax", Rows.laid_strconv_ErrSyntax), ("unicode/utf8.first", Rows.laid_unicode_utf8_first)]
theorem laid_plain : ∀ w : World, laidMetH Tryz.prog laidA w = laidMet Tryz.prog laidA w := fun w => MakeChecks.laidMetH_plain _ _ _ (by kernel_rfl)
theorem door_met (os : Os) (args : Array Value) : laidMetH Tryz.prog laidA ((World.laidAll Tryz.prog os laidA).forCall (fun _ _ => 0) ⟨#[], args, []⟩).memory := by
  rw [laid_plain]; exact laidMet_laidAll _ (by kernel_rfl) (by kernel_rfl)
theorem and_tt {a b : Bool} (h : a = true) (k : b = true) : (a && b) = true := by rw [h, k]; rfl
abbrev mainSum : String := "ec70bed69f1296a58cb1ff10a035590e38e75d8edaed5cbe52e999c3ad5a8b9b"
theorem mainIs0 : Tryz.prog.mainIs = some (true, mainSum.toList) := by kernel_rfl
theorem looks0 : true = Tryz.prog.looks [] := by kernel_rfl
theorem stand24 : Tryz.prog.wantsStandIn 24 = false := by kernel_rfl
theorem stand25 : Tryz.prog.wantsStandIn 25 = false := by kernel_rfl
theorem stand28 : Tryz.prog.wantsStandIn 28 = false := by kernel_rfl
theorem stand30 : Tryz.prog.wantsStandIn 30 = false := by kernel_rfl
theorem stand38 : Tryz.prog.wantsStandIn 38 = false := by kernel_rfl
theorem stand2 : Tryz.prog.wantsStandIn 2 = false := by kernel_rfl
theorem stand3 : Tryz.prog.wantsStandIn 3 = false := by kernel_rfl
theorem stand4 : Tryz.prog.wantsStandIn 4 = false := by kernel_rfl
theorem own0 : ownKnob Tryz.prog.godebug = none := by kernel_rfl
theorem laid0 : laidOutB Tryz.prog = true := by kernel_rfl
theorem ok24 : okT Tryz.prog 12 24 = true := by kernel_rfl
theorem ok25 : okT Tryz.prog 12 25 = true := by kernel_rfl
theorem ok28 : okT Tryz.prog 12 28 = true := by kernel_rfl
theorem ok30 : okT Tryz.prog 12 30 = true := by kernel_rfl
theorem ok38 : okT Tryz.prog 12 38 = true := by kernel_rfl
theorem ok2 : okT Tryz.prog 12 2 = true := by kernel_rfl
theorem ok3 : okT Tryz.prog 12 3 = true := by kernel_rfl
theorem ok4 : okT Tryz.prog 12 4 = true := by kernel_rfl
theorem s24 : isS Tryz.prog 24 = true := by kernel_rfl
theorem s25 : isS Tryz.prog 25 = false := by kernel_rfl
theorem s28 : isS Tryz.prog 28 = true := by kernel_rfl
theorem s38 : isS Tryz.prog 38 = true := by kernel_rfl
theorem s2 : isS Tryz.prog 2 = false := by kernel_rfl
theorem s4 : isS Tryz.prog 4 = false := by kernel_rfl
section
variable {H : Type} {enc : TypeId × Value → H} {P : Program} {w : World} {base : Nat} {spare : Nat → Bool} {held : Bool}
theorem trodC {t : TypeId} {ts : List TypeId} {vs : List Value} {ds : List (DataW H)} {ps : List MemPlace} (h : DataW.TrodAll enc P w base spare held (t :: ts) vs ds ps) :
    ∃ v vs' d ds' p q, vs = v :: vs' ∧ ds = d :: ds' ∧ ps = p ++ q ∧ DataW.Trod enc P w base spare held t v d p ∧ DataW.TrodAll enc P w base spare held ts vs' ds' q := by
  cases vs with
  | nil => exact h.elim
  | cons v vs' => cases ds with
    | nil => exact h.elim
    | cons d ds' =>
      obtain ⟨p, q, h1, h2, h3⟩ := h
      exact ⟨v, vs', d, ds', p, q, rfl, rfl, h3, h1, h2⟩
theorem trodN {vs : List Value} {ds : List (DataW H)} {ps : List MemPlace} (h : DataW.TrodAll enc P w base spare held [] vs ds ps) : vs = [] ∧ ds = [] ∧ ps = [] := by
  cases vs with
  | nil => cases ds with
    | nil => exact ⟨rfl, rfl, h⟩
    | cons d ds' => exact h.elim
  | cons v vs' => exact h.elim
end
theorem shutB {H : Type} {enc : TypeId × Value → H} {w : World} {base : Nat} {sp : Nat → Bool} {hd : Bool} (b : Bool) : DataW.Trod enc Tryz.prog w base sp hd 4 (.bool b) (.lit (.bool b)) [] := ⟨1, by simp [DataW.trod, Value.cells, u4]⟩
theorem pure_calls {P : Program} {f : FuncId} {args : List PV} {r : DV} (h : PureCall P f args r) (hf : FnOK P f) (M0 : Nat → Nat → Prop) (w : World) (cargs : Array Value) (hs : cargs.size = args.length)
    (ha : ∀ (j : Nat) x v, args[j]? = some x → cargs[j]? = some v → Flat M0 w x v) :
    Calls P f cargs w fun e w' => ∃ v X, e = .returned v ∧ X.w = w' ∧ VRel X w.heap.size (.tmp 0) r v ∧ (∀ b, b < w.heap.size → ∀ o, X.M b o ↔ M0 b o) ∧ Below w.heap.size w w' := by
  rcases h.2 M0 w cargs hs ha with ⟨_, hc⟩ | ⟨v, X, hr, _⟩
  · exact hc
  · exfalso
    obtain ⟨fn, h1, h2, h3⟩ := hf
    have h4 : fn.body ≠ none := fun hb => by rw [hb] at h2; cases h2
    simp [callFunc, h1, h3, h4] at hr
end Go.Proofs.YtkjghcbnmipgfaaGreatDoor.Vc
