/-
  ProfileStacksMatchSpec, where what it reads is of bulk at most 1048576: for all traces and fuels the law returns true, and the traces read afterwards as they read before. The tables of the library that are read are listed and tied to its text.
-/
import Derived.Test.YtabmcfnefjipbaaGreatDoorR11
import Derived.Test.YtabmcfnefjipbaaGreatDoorCards
import Derived.Test.YtabmcfnefjipbaaGreatDoorTie
import Derived.SevenTiedAt
set_option linter.unusedVariables false
set_option linter.unusedSimpArgs false
namespace Go.Proofs.YtabmcfnefjipbaaGreatDoor
open Go.ChangeShapes Go.WideShapes Go.ChangeAt Go.RowKit
set_option maxRecDepth 100000 in
theorem stacks_lifted (os : Os) (started : os.Started) (H : Type) (enc : TypeId × Value → H) (F : Stop.Interp) :
    ReturnsInHanded {} Tryz.checked os 3 .any ((Rows.OpenSpec.upto Rows.profileStacksMatchSpecSpec).preRow enc Tryz.prog Tryz.f3 Rows.profileStacksMatchSpecUptoRow.domain false Rows.profileStacksMatchSpecUptoRow.laid) (((Rows.OpenSpec.upto Rows.profileStacksMatchSpecSpec).at F).post enc Tryz.prog Tryz.f3 false true false false) := by
  have hx : ∃ places, DataW.whole enc Tryz.prog ((laidWorld os).forCall (fun _ _ => 0) ⟨#[], #[.slice none 0 0, .int .i64 0], []⟩).memory Tryz.f3.params.toList Rows.profileStacksMatchSpecSpec.vars false #[Value.slice none 0 0, Value.int .i64 0].toList 8 = some ([.nil, .lit (.int .i64 0)], [], places) := ⟨[], by kernel_rfl⟩
  obtain ⟨places, hx⟩ := hx
  refine law_liftedL (C := Tryz.checked) (s := Rows.profileStacksMatchSpecSpec) (tb := 4) started H enc F own_knob (by kernel_rfl) Tryz.func3
    (witness_row_at (enc := enc) (C := Tryz.checked) false (laidWorld os) #[.slice none 0 0, .int .i64 0] rfl (by kernel_rfl) (by kernel_rfl) (by kernel_rfl)
      (OpenSpec.preRow_of_cond 8 hx (by kernel_rfl) (fun k hk => by cases hk; kernel_rfl) (by kernel_rfl) (laid_met os _)))
    laid_out (by kernel_rfl) (by kernel_rfl) Tryz.underlying4 rfl ?_ ?_
  · intro ds hl
    match ds, hl with
    | [d, d'], _ => rfl
  · intro W base args ds p hval hA hp hz hL
    have hval' : ∀ (j : Nat) t v, Tryz.f3.params[j]? = some t → args[j]? = some v → Value.okWide Tryz.prog W .any base t v := hval
    have hA' : DataW.TrodAll enc Tryz.prog W 0 (fun _ => true) true Tryz.f3.params.toList args.toList ds p := hA
    rw [Tryz.params3] at hA' hval'
    obtain ⟨v0, v1, d0, d1, p0, p1, rfl, rfl, rfl, h0, h1⟩ := trodAll_two hA'
    obtain ⟨A0, l0, c0, rfl⟩ := okWide_slice Tryz.underlying22 (hval' 0 _ v0 rfl rfl)
    obtain ⟨n1, rfl, _, _, hwf⟩ := open_int Tryz.underlying3 (hval' 1 3 v1 rfl rfl) h1
    obtain ⟨x, q1, q2⟩ := arg_open (T := tt) shEvs_eq h0 (fun n hn => bulk_weights rfl closed_T hz (by decide +kernel) List.mem_cons_self hn) rfl
    obtain ⟨l, rfl, _, hsz⟩ := evs_of q1
    have hx : n1 ≤ 9223372036854775807 := by
      simp only [Lit.wf, Bool.and_eq_true, decide_eq_true_eq] at hwf
      exact hwf.2
    refine calls_of_AT (vs := [.slice A0 l0 c0, .int .i64 n1]) (fun zt hzt => law_stacks_T l n1 hsz hx zt hzt) (tab_of hL) ⟨rfl, fun j s v e1 e2 => ?_, fun _ h => h⟩
    match j with
    | 0 => simp at e1 e2; subst e1 e2; exact q2 rho0
    | 1 => simp at e1 e2; subst e1 e2; exact .d (.u (.int _ _))
    | j + 2 => simp at e1
theorem stacks_said : Rows.ProfileStacksMatchSpecUptoSaid :=
  OpenClaim.holds_of_cond 3 Tryz.f3 rfl rfl rfl rfl rfl rfl rfl ⟨rfl, rfl, rfl, rfl, rfl⟩ rfl rfl rfl rfl rfl (by kernel_rfl) Tryz.func3 (by kernel_rfl)
    (of_decide_eq_true (by kernel_rfl)) (by unfold Func.isWrapper; first | (rw [if_pos (by decide +kernel)]; kernel_rfl) | (rw [if_neg (by decide +kernel)]; exact ⟨rfl, rfl⟩))
    (fun os started H enc _ F => by rw [OpenClaim.pre_eq_preRow]; exact stacks_lifted os started H enc F)
theorem stacks_plain (f : FuncId) (fn : Func) (hf : Tryz.pinned.checked.prog.funcNamed "brindlewood/brindlewoodlaw6.ProfileStacksMatchSpec" = some f) (hfn : Tryz.pinned.checked.prog.funcs[f]? = some fn) :
    true = Tryz.pinned.checked.prog.looks [] ∧ ∀ (j : Nat) t, fn.params[j]? = some t → Tryz.pinned.checked.prog.wantsStandIn t = false := by
  obtain rfl : f = 3 := Option.some.inj ((show Tryz.prog.funcNamed "brindlewood/brindlewoodlaw6.ProfileStacksMatchSpec" = some 3 by kernel_rfl).symm.trans hf) |>.symm
  obtain rfl : fn = Tryz.f3 := (Option.some.inj (Tryz.func3.symm.trans hfn)).symm
  refine ⟨by kernel_rfl, fun j t ht => ?_⟩
  rw [Tryz.params3] at ht
  have hm := Array.mem_of_getElem? ht
  simp only [List.mem_toArray, List.mem_cons, List.not_mem_nil, or_false] at hm
  rcases hm with rfl | rfl
  · exact (show Tryz.prog.wantsStandIn 22 = false by kernel_rfl)
  · exact (show Tryz.prog.wantsStandIn 3 = false by kernel_rfl)
theorem stacks_holds : Rows.ProfileStacksMatchSpecUptoCardSaid :=
  Claim7.holds_tied_plain_at .later [] _ _ _ _ stacks_said (fun _ h => by cases h) (by kernel_rfl) (fun _ h => by cases h) profileStacksMatchSpecUpto_row_tie rfl ⟨rfl, rfl⟩ (by kernel_rfl) rfl stacks_plain (by kernel_rfl)
#print axioms stacks_holds
end Go.Proofs.YtabmcfnefjipbaaGreatDoor
