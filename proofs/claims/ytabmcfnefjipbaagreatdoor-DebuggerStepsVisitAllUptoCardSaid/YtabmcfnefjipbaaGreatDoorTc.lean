/-
  DebuggerStepsVisitAll, where what it reads is of bulk at most 1048576: for all traces the law returns true, and they read afterwards as they read before. The tables and errors of the library that are read are listed and tied to its text.
-/
import Derived.Test.YtabmcfnefjipbaaGreatDoorT11
import Derived.Test.YtabmcfnefjipbaaGreatDoorCards
import Derived.Test.YtabmcfnefjipbaaGreatDoorTie
import Derived.SevenTiedAt
import Derived.Carry
set_option linter.unusedVariables false
set_option linter.unusedSimpArgs false
namespace Go.Proofs.YtabmcfnefjipbaaGreatDoor
open Go.ChangeShapes Go.WideShapes Go.ChangeAt Go.RowKit
theorem dsteps_cA : (Rows.debuggerStepsVisitAllUptoRow.inPlace == Tryz.pinned.checked.prog.inPlace 7) = true := by kernel_rfl
theorem dsteps_cB : (Rows.debuggerStepsVisitAllUptoRow.unfollowed == Tryz.pinned.checked.prog.unfollowed 7) = true := by kernel_rfl
theorem dsteps_cC : (Rows.debuggerStepsVisitAllUptoRow.recurses == Tryz.pinned.checked.prog.recurses 7) = true := by kernel_rfl
theorem dsteps_cD : (Rows.debuggerStepsVisitAllUptoRow.named == Tryz.pinned.checked.prog.varsNamed 7) = true := by kernel_rfl
theorem dsteps_closed : joinedFacts Tryz.pinned.checked.prog 7 Tryz.f7 (Rows.OpenSpec.upto Rows.debuggerStepsVisitAllSpec).bare Rows.debuggerStepsVisitAllUptoRow = true := by
  unfold joinedFacts
  simp only [Bool.and_eq_true]
  repeat' (with_reducible refine And.intro ?_ ?_)
  all_goals first | with_reducible exact dsteps_cA | with_reducible exact dsteps_cB | with_reducible exact dsteps_cC | with_reducible exact dsteps_cD | kernel_rfl
set_option maxRecDepth 100000 in
theorem dsteps_lifted (os : Os) (started : os.Started) (H : Type) (enc : TypeId × Value → H) (F : Stop.Interp) :
    ReturnsInHanded {} Tryz.checked os 7 .any ((Rows.OpenSpec.upto Rows.debuggerStepsVisitAllSpec).preRow enc Tryz.prog Tryz.f7 Rows.debuggerStepsVisitAllUptoRow.domain false Rows.debuggerStepsVisitAllUptoRow.laid) (((Rows.OpenSpec.upto Rows.debuggerStepsVisitAllSpec).at F).post enc Tryz.prog Tryz.f7 false true false false) := by
  have hx : ∃ places, DataW.whole enc Tryz.prog ((laidWorldD os).forCall (fun _ _ => 0) ⟨#[], #[.slice none 0 0], []⟩).memory Tryz.f7.params.toList Rows.debuggerStepsVisitAllSpec.vars false #[Value.slice none 0 0].toList 8 = some ([.nil], [], places) := ⟨[], by kernel_rfl⟩
  obtain ⟨places, hx⟩ := hx
  refine law_liftedL (C := Tryz.checked) (s := Rows.debuggerStepsVisitAllSpec) (tb := 4) started H enc F own_knob (by kernel_rfl) Tryz.func7
    (witness_row_at (enc := enc) (C := Tryz.checked) false (laidWorldD os) #[.slice none 0 0] (laidD_os os) (by kernel_rfl) (by kernel_rfl) (by kernel_rfl)
      (OpenSpec.preRow_of_cond 8 hx (by kernel_rfl) (fun k hk => by cases hk; kernel_rfl) (by kernel_rfl) (laidD_met os _)))
    laid_out (by kernel_rfl) (by kernel_rfl) Tryz.underlying4 rfl ?_ ?_
  · intro ds hl
    match ds, hl with
    | [d0], _ => rfl
  · intro W base args ds p hval hA hp hz hL
    have hval' : ∀ (j : Nat) t v, Tryz.f7.params[j]? = some t → args[j]? = some v → Value.okWide Tryz.prog W .any base t v := hval
    have hA' : DataW.TrodAll enc Tryz.prog W 0 (fun _ => true) true Tryz.f7.params.toList args.toList ds p := hA
    rw [Tryz.params7] at hA' hval'
    obtain ⟨v0, d0, rfl, rfl, h0⟩ := trodAll_one hA'
    obtain ⟨A0, ln0, cp0, rfl⟩ := okWide_slice Tryz.underlying22 (hval' 0 _ v0 rfl rfl)
    obtain ⟨x0, q0, r0⟩ := arg_open (T := tt) shEvs_eq h0 (fun n hn => bulk_weights rfl closed_T hz (by decide +kernel) List.mem_cons_self hn) rfl
    obtain ⟨l, rfl, hlen, hin⟩ := evs_ofD q0
    refine calls_of_AT (vs := [.slice A0 ln0 cp0]) (fun zt hzt => law_steps_T l (fun e he => (hin e he).locs) (fun e he => (hin e he).md) zt hzt) (tab_ofD hL) ⟨rfl, fun j s v e1 e2 => ?_, fun _ h => h⟩
    match j with
    | 0 => simp at e1 e2; subst e1 e2; exact r0 rho0
    | j + 1 => simp at e1
theorem dsteps_said : Rows.DebuggerStepsVisitAllUptoSaid :=
  OpenClaim.holds_of_cond 7 Tryz.f7 rfl rfl rfl rfl rfl rfl rfl ⟨rfl, rfl, rfl, rfl, rfl⟩ rfl rfl rfl rfl rfl (by kernel_rfl) Tryz.func7 dsteps_closed
    (of_decide_eq_true (by kernel_rfl)) (by unfold Func.isWrapper; first | (rw [if_pos (by decide +kernel)]; kernel_rfl) | (rw [if_neg (by decide +kernel)]; exact ⟨rfl, rfl⟩))
    (fun os started H enc _ F => by rw [OpenClaim.pre_eq_preRow]; exact dsteps_lifted os started H enc F)
theorem dsteps_plain (f : FuncId) (fn : Func) (hf : Tryz.pinned.checked.prog.funcNamed "brindlewood/brindlewoodlaw6.DebuggerStepsVisitAll" = some f) (hfn : Tryz.pinned.checked.prog.funcs[f]? = some fn) :
    true = Tryz.pinned.checked.prog.looks [] ∧ ∀ (j : Nat) t, fn.params[j]? = some t → Tryz.pinned.checked.prog.wantsStandIn t = false := by
  obtain rfl : f = 7 := Option.some.inj ((show Tryz.prog.funcNamed "brindlewood/brindlewoodlaw6.DebuggerStepsVisitAll" = some 7 by kernel_rfl).symm.trans hf) |>.symm
  obtain rfl : fn = Tryz.f7 := (Option.some.inj (Tryz.func7.symm.trans hfn)).symm
  refine ⟨by kernel_rfl, fun j t ht => ?_⟩
  rw [Tryz.params7] at ht
  obtain rfl : t = 22 := by simpa using Array.mem_of_getElem? ht
  exact (show Tryz.prog.wantsStandIn 22 = false by kernel_rfl)
theorem dsteps_holds : Rows.DebuggerStepsVisitAllUptoCardSaid :=
  Claim7.holds_tied_plain_at .later [] _ _ _ _ dsteps_said (fun _ h => by cases h) (by kernel_rfl) (fun _ h => by cases h) debuggerStepsVisitAllUpto_row_tie rfl ⟨rfl, rfl⟩ (by kernel_rfl) rfl dsteps_plain (by kernel_rfl)
#print axioms dsteps_holds
end Go.Proofs.YtabmcfnefjipbaaGreatDoor
