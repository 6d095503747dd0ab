/-
  EventloopWakingWins: for every clock and task the law returns true, and the clock reads afterwards as it read before. No condition.
-/
import Derived.Test.YtgiebofmfkacgaaLw5
import Derived.Test.YtgiebofmfkacgaaElOpen
namespace Go.Proofs.Ytgiebofmfkacgaa
open Go.ChangeShapes Go.WideShapes Go.ChangeAt Go.RowKit

theorem ck_arg {W : World} {c : Ck} {v : Value} (h : CkAt W c v) (ρ : Rho) : DenS ρ ⟨fg0 W, W⟩ (.a c.d) v ∧ Small c := by
  refine ⟨ck_den (h.within (Nat.le_refl _)) (fun b h1 _ => h1) ρ, ?_⟩
  obtain ⟨_, _, _, _, _, _, _, _, _, h1, h2⟩ := h
  exact ⟨h1, h2⟩
theorem int_den {z : Fz} (n : Int) (ρ : Rho) : DenS ρ z (di n) (.int .i64 n) := .d (.u (.int _ _))
set_option maxRecDepth 100000 in
theorem wins_lifted (os : Os) (started : os.Started) (H : Type) (enc : TypeId × Value → H) :
    ReturnsInHanded {} Try.checked os 7 .any (Rows.eventloopWakingWinsSpec.pre6 enc Try.prog Try.f7 Rows.eventloopWakingWinsRow.domain false) (Rows.eventloopWakingWinsSpec.post enc Try.prog Try.f7 false true false false) := by
  refine law_lifted (C := Try.checked) (s := Rows.eventloopWakingWinsSpec) (tb := 4) started H enc own_knob (by kernel_rfl) Try.func7
    (ChangeSpec.witness6 (enc := enc) (C := Try.checked) false ⟨#[], #[.agg #[.int .i64 0, .int .i64 0, .slice none 0 0, .slice none 0 0], .int .i64 0], []⟩ 8 (by kernel_rfl) (by kernel_rfl) (by kernel_rfl) (by kernel_rfl))
    laid_out (by kernel_rfl) (by kernel_rfl) Try.underlying4 rfl ?_ ?_
  · intro ds hl
    match ds, hl with
    | [d, d'], _ => rfl
  · intro W base args ds p hval hA hp hz
    have hval' : ∀ (j : Nat) t v, Try.f7.params[j]? = some t → args[j]? = some v → Value.okWide Try.prog W .any base t v := hval
    have hA' : DataW.TrodAll enc Try.prog W 0 (fun _ => true) true Try.f7.params.toList args.toList ds p := hA
    rw [Try.params7] at hA' hval'
    obtain ⟨v0, v1, d0, d1, p0, p1, rfl, rfl, rfl, h0, h1⟩ := trodAll_two hA'
    obtain ⟨c, hc⟩ := clock_open (hval' 0 25 v0 rfl rfl) h0 (fun n hn => weights_le (j := 0) hz rfl rfl hn)
    obtain ⟨n1, rfl⟩ := okWide_int Try.underlying3 (hval' 1 3 v1 rfl rfl)
    obtain ⟨q1, q2⟩ := ck_arg hc rho0
    refine calls_of_A (vs := [v0, .int .i64 n1]) (law_wins_T c q2 n1) ⟨rfl, fun j s v e1 e2 => ?_, fun _ h => h⟩
    match j with
    | 0 => simp at e1 e2; subst e1 e2; exact q1
    | 1 => simp at e1 e2; subst e1 e2; exact int_den _ _
    | j + 2 => simp at e1

theorem wins_holds : Rows.EventloopWakingWinsSaid :=
  OpenClaim.holds_of_wide 7 Try.f7 rfl rfl rfl rfl rfl rfl rfl ⟨rfl, rfl, rfl, rfl, rfl⟩ rfl rfl rfl rfl rfl (by kernel_rfl) Try.func7 (by kernel_rfl)
    (of_decide_eq_true (by kernel_rfl)) (by unfold Func.isWrapper; first | (rw [if_pos (by decide +kernel)]; kernel_rfl) | (rw [if_neg (by decide +kernel)]; exact ⟨rfl, rfl⟩))
    (fun os started H enc _ => wins_lifted os started H enc)
#print axioms wins_holds
end Go.Proofs.Ytgiebofmfkacgaa
