/-
  EventloopSleepMatchesSpec: for every clock, task and delay the law returns true, and the clock reads afterwards as it read before. No condition.
-/
import Derived.Test.YtgiebofmfkacgaaLw1
import Derived.Test.YtgiebofmfkacgaaElOpen
namespace Go.Proofs.Ytgiebofmfkacgaa
open Go.ChangeShapes Go.WideShapes Go.ChangeAt Go.RowKit

theorem ck_arg {W : World} {c : Ck} {v : Value} (h : CkAt W c v) (ρ : Rho) : DenS ρ ⟨(· < W.heap.size), W⟩ (.a c.d) v ∧ Small c := by
  refine ⟨ck_den (h.within (Nat.le_refl _)) (fun b h1 _ => h1) ρ, ?_⟩
  obtain ⟨_, _, _, _, _, _, _, _, _, h1, h2⟩ := h
  exact ⟨h1, h2⟩
theorem int_den {z : Fz} (n : Int) (ρ : Rho) : DenS ρ z (di n) (.int .i64 n) := .d (.u (.int _ _))
set_option maxRecDepth 100000 in
theorem sleep_lifted (os : Os) (started : os.Started) (H : Type) (enc : TypeId × Value → H) :
    ReturnsInHanded {} Try.checked os 3 .any (Rows.eventloopSleepMatchesSpecSpec.pre6 enc Try.prog Try.f3 Rows.eventloopSleepMatchesSpecRow.domain false) (Rows.eventloopSleepMatchesSpecSpec.post enc Try.prog Try.f3 false true false false) := by
  refine law_lifted (C := Try.checked) (s := Rows.eventloopSleepMatchesSpecSpec) (tb := 4) started H enc own_knob (by kernel_rfl) Try.func3
    (ChangeSpec.witness6 (enc := enc) (C := Try.checked) false ⟨#[], #[.agg #[.int .i64 0, .int .i64 0, .slice none 0 0, .slice none 0 0], .int .i64 0, .int .i64 0], []⟩ 8 (by kernel_rfl) (by kernel_rfl) (by kernel_rfl) (by kernel_rfl))
    laid_out (by kernel_rfl) (by kernel_rfl) Try.underlying4 rfl ?_ ?_
  · intro ds hl
    match ds, hl with
    | [d, d', d''], _ => rfl
  · intro W base args ds p hval hA hp hz
    have hval' : ∀ (j : Nat) t v, Try.f3.params[j]? = some t → args[j]? = some v → Value.okWide Try.prog W .any base t v := hval
    have hA' : DataW.TrodAll enc Try.prog W 0 (fun _ => true) true Try.f3.params.toList args.toList ds p := hA
    rw [Try.params3] at hA' hval'
    obtain ⟨v0, v1, v2, d0, d1, d2, p0, p1, p2, rfl, rfl, rfl, h0, h1, h2⟩ := trodAll_three hA'
    obtain ⟨c, hc⟩ := clock_open (hval' 0 25 v0 rfl rfl) h0 (fun n hn => weights_le (j := 0) hz rfl rfl hn)
    obtain ⟨n1, rfl⟩ := okWide_int Try.underlying3 (hval' 1 3 v1 rfl rfl)
    obtain ⟨n2, rfl⟩ := okWide_int Try.underlying3 (hval' 2 3 v2 rfl rfl)
    obtain ⟨q1, q2⟩ := ck_arg hc (fun _ => none)
    refine calls_of_A (vs := [v0, .int .i64 n1, .int .i64 n2]) (law_sleep_T c q2 n1 n2) ⟨rfl, fun j s v e1 e2 => ?_, fun _ h => h⟩
    match j with
    | 0 => simp at e1 e2; subst e1 e2; exact q1
    | 1 => simp at e1 e2; subst e1 e2; exact int_den _ _
    | 2 => simp at e1 e2; subst e1 e2; exact int_den _ _
    | j + 3 => simp at e1

theorem sleep_holds : Rows.EventloopSleepMatchesSpecSaid :=
  OpenClaim.holds_of_wide 3 Try.f3 rfl rfl rfl rfl rfl rfl rfl ⟨rfl, rfl, rfl, rfl, rfl⟩ rfl rfl rfl rfl rfl (by kernel_rfl) Try.func3 (by kernel_rfl)
    (of_decide_eq_true (by kernel_rfl)) (by unfold Func.isWrapper; first | (rw [if_pos (by decide +kernel)]; kernel_rfl) | (rw [if_neg (by decide +kernel)]; exact ⟨rfl, rfl⟩))
    (fun os started H enc _ => sleep_lifted os started H enc)
#print axioms sleep_holds
end Go.Proofs.Ytgiebofmfkacgaa
