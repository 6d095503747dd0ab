/-
  EventloopEmpties: for every clock the law returns true, and the clock reads afterwards as it read before. No condition.
-/
import Derived.Test.YtgiebofmfkacgaaElL3
import Derived.Test.YtgiebofmfkacgaaElOpen
namespace Go.Proofs.Ytgiebofmfkacgaa
open Go.ChangeShapes Go.WideShapes Go.ChangeAt Go.RowKit

set_option maxRecDepth 100000 in
theorem empties_lifted (os : Os) (started : os.Started) (H : Type) (enc : TypeId × Value → H) :
    ReturnsInHanded {} Try.checked os 5 .any (Rows.eventloopEmptiesSpec.pre6 enc Try.prog Try.f5 Rows.eventloopEmptiesRow.domain false) (Rows.eventloopEmptiesSpec.post enc Try.prog Try.f5 false true false false) := by
  refine law_lifted (C := Try.checked) (s := Rows.eventloopEmptiesSpec) (tb := 4) started H enc own_knob (by kernel_rfl) Try.func5
    (ChangeSpec.witness6 (enc := enc) (C := Try.checked) false ⟨#[], #[.agg #[.int .i64 0, .int .i64 0, .slice none 0 0, .slice none 0 0]], []⟩ 8 (by kernel_rfl) (by kernel_rfl) (by kernel_rfl) (by kernel_rfl))
    laid_out (by kernel_rfl) (by kernel_rfl) Try.underlying4 rfl ?_ ?_
  · intro ds hl
    match ds, hl with
    | [d], _ => rfl
  · intro W base args ds p hval hA hp hz
    have hval' : ∀ (j : Nat) t v, Try.f5.params[j]? = some t → args[j]? = some v → Value.okWide Try.prog W .any base t v := hval
    have hA' : DataW.TrodAll enc Try.prog W 0 (fun _ => true) true Try.f5.params.toList args.toList ds p := hA
    rw [Try.params5] at hA' hval'
    obtain ⟨v0, d0, rfl, rfl, h0⟩ := trodAll_one hA'
    obtain ⟨c, hc⟩ := clock_open (hval' 0 25 v0 rfl rfl) h0 (fun n hn => weights_le (j := 0) hz rfl rfl hn)
    exact law_empties c v0 W hc

theorem empties_holds : Rows.EventloopEmptiesSaid :=
  OpenClaim.holds_of_wide 5 Try.f5 rfl rfl rfl rfl rfl rfl rfl ⟨rfl, rfl, rfl, rfl, rfl⟩ rfl rfl rfl rfl rfl (by kernel_rfl) Try.func5 (by kernel_rfl)
    (of_decide_eq_true (by kernel_rfl)) (by unfold Func.isWrapper; first | (rw [if_pos (by decide +kernel)]; kernel_rfl) | (rw [if_neg (by decide +kernel)]; exact ⟨rfl, rfl⟩))
    (fun os started H enc _ => empties_lifted os started H enc)
#print axioms empties_holds
end Go.Proofs.Ytgiebofmfkacgaa
