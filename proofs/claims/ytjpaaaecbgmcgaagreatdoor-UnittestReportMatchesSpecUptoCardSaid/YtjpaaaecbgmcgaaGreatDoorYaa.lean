/-
  UnittestReportMatchesSpec, where what it reads is of bulk at most 1048576: for all names and outcomes the law returns true, and they read afterwards as they read before. The tables and errors of the library that are read are listed and tied to its text.
-/
import Derived.Test.YtjpaaaecbgmcgaaGreatDoorYa11
import Derived.Test.YtjpaaaecbgmcgaaGreatDoorCards
import Derived.Test.YtjpaaaecbgmcgaaGreatDoorTieS
import Derived.SevenTiedAt
import Derived.Carry
set_option linter.unusedVariables false
set_option linter.unusedSimpArgs false
namespace Go.Proofs.YtjpaaaecbgmcgaaGreatDoor
open Go.ChangeShapes Go.WideShapes Go.ChangeAt Go.RowKit
theorem ureport_cA : (Rows.unittestReportMatchesSpecUptoRow.inPlace == Tryz.pinned.checked.prog.inPlace 3) = true := by kernel_rfl
theorem ureport_cB : (Rows.unittestReportMatchesSpecUptoRow.unfollowed == Tryz.pinned.checked.prog.unfollowed 3) = true := by kernel_rfl
theorem ureport_cC : (Rows.unittestReportMatchesSpecUptoRow.recurses == Tryz.pinned.checked.prog.recurses 3) = true := by kernel_rfl
theorem ureport_cD : (Rows.unittestReportMatchesSpecUptoRow.named == Tryz.pinned.checked.prog.varsNamed 3) = true := by kernel_rfl
theorem ureport_closed : joinedFacts Tryz.pinned.checked.prog 3 Tryz.f3 (Rows.OpenSpec.upto Rows.unittestReportMatchesSpecSpec).bare Rows.unittestReportMatchesSpecUptoRow = true := by
  unfold joinedFacts
  simp only [Bool.and_eq_true]
  repeat' (with_reducible refine And.intro ?_ ?_)
  all_goals first | with_reducible exact ureport_cA | with_reducible exact ureport_cB | with_reducible exact ureport_cC | with_reducible exact ureport_cD | kernel_rfl
set_option maxRecDepth 100000 in
theorem ureport_lifted (os : Os) (started : os.Started) (H : Type) (enc : TypeId × Value → H) (F : Stop.Interp) :
    ReturnsInHanded {} Tryz.checked os 3 .any ((Rows.OpenSpec.upto Rows.unittestReportMatchesSpecSpec).preRow enc Tryz.prog Tryz.f3 Rows.unittestReportMatchesSpecUptoRow.domain false Rows.unittestReportMatchesSpecUptoRow.laid) (((Rows.OpenSpec.upto Rows.unittestReportMatchesSpecSpec).at F).post enc Tryz.prog Tryz.f3 false true false false) := by
  have hx : ∃ places, DataW.whole enc Tryz.prog ((laidWorldU os).forCall (fun _ _ => 0) ⟨#[], #[.slice none 0 0, .slice none 0 0], []⟩).memory Tryz.f3.params.toList Rows.unittestReportMatchesSpecSpec.vars false #[Value.slice none 0 0, .slice none 0 0].toList 8 = some ([.nil, .nil], [], places) := ⟨[], by kernel_rfl⟩
  obtain ⟨places, hx⟩ := hx
  refine law_liftedL (C := Tryz.checked) (s := Rows.unittestReportMatchesSpecSpec) (tb := 4) started H enc F own_knob (by kernel_rfl) Tryz.func3
    (witness_row_atRef (enc := enc) (C := Tryz.checked) false (laidWorldU os) #[.slice none 0 0, .slice none 0 0] (laidU_os os) (varsU os _) (restU os _) (by kernel_rfl)
      (OpenSpec.preRow_of_cond 8 hx (by kernel_rfl) (fun k hk => by cases hk; kernel_rfl) (by kernel_rfl) (laidU_met os _)))
    laid_out (by kernel_rfl) (by kernel_rfl) Tryz.underlying4 rfl ?_ ?_
  · intro ds hl
    match ds, hl with
    | [d0, d1], _ => rfl
  · intro W base args ds p hval hA hp hz hL
    have hval' : ∀ (j : Nat) t v, Tryz.f3.params[j]? = some t → args[j]? = some v → Value.okWide Tryz.prog W .any base t v := hval
    have hA' : DataW.TrodAll enc Tryz.prog W 0 (fun _ => true) true Tryz.f3.params.toList args.toList ds p := hA
    rw [Tryz.params3] at hA' hval'
    obtain ⟨v0, v1, d0, d1, p0, p1, rfl, rfl, rfl, h0, h1⟩ := trodAll_two hA'
    obtain ⟨A0, ln0, cp0, rfl⟩ := okWide_slice Tryz.underlying22 (hval' 0 _ v0 rfl rfl)
    obtain ⟨A1, ln1, cp1, rfl⟩ := okWide_slice Tryz.underlying23 (hval' 1 _ v1 rfl rfl)
    obtain ⟨x0, q0, r0⟩ := arg_open (T := tt) shStrs_eq h0 (fun n hn => bulk_weightsS rfl closed_tt hz (by decide +kernel) List.mem_cons_self hn) rfl
    obtain ⟨l0, rfl, hlen0, _⟩ := strs_of q0
    obtain ⟨x1, q1, r1⟩ := arg_open (T := tt) shOcs_eq h1 (fun n hn => bulk_weightsS rfl closed_tt hz (by decide +kernel) (List.mem_cons_of_mem _ List.mem_cons_self) hn) rfl
    obtain ⟨l1, rfl, hin⟩ := ocs_of q1
    refine calls_of_AU (vs := [.slice A0 ln0 cp0, .slice A1 ln1 cp1]) (fun zt hzt => law_report_T l0 l1 hin zt hzt) hL ⟨rfl, fun j s v e1 e2 => ?_, fun _ h => h⟩
    match j with
    | 0 => simp at e1 e2; subst e1 e2; exact r0 rho0
    | 1 => simp at e1 e2; subst e1 e2; exact r1 rho0
    | j + 2 => simp at e1
theorem ureport_said : Rows.UnittestReportMatchesSpecUptoSaid :=
  OpenClaim.holds_of_cond 3 Tryz.f3 rfl rfl rfl rfl rfl rfl rfl ⟨rfl, rfl, rfl, rfl, rfl⟩ rfl rfl rfl rfl rfl (by kernel_rfl) Tryz.func3 ureport_closed
    (of_decide_eq_true (by kernel_rfl)) (by unfold Func.isWrapper; first | (rw [if_pos (by decide +kernel)]; kernel_rfl) | (rw [if_neg (by decide +kernel)]; exact ⟨rfl, rfl⟩))
    (fun os started H enc _ F => by rw [OpenClaim.pre_eq_preRow]; exact ureport_lifted os started H enc F)
theorem ureport_plain (f : FuncId) (fn : Func) (hf : Tryz.pinned.checked.prog.funcNamed "brindlewood/brindlewoodlaw6.UnittestReportMatchesSpec" = some f) (hfn : Tryz.pinned.checked.prog.funcs[f]? = some fn) :
    true = Tryz.pinned.checked.prog.looks [] ∧ ∀ (j : Nat) t, fn.params[j]? = some t → Tryz.pinned.checked.prog.wantsStandIn t = false := by
  obtain rfl : f = 3 := Option.some.inj ((show Tryz.prog.funcNamed "brindlewood/brindlewoodlaw6.UnittestReportMatchesSpec" = some 3 by kernel_rfl).symm.trans hf) |>.symm
  obtain rfl : fn = Tryz.f3 := (Option.some.inj (Tryz.func3.symm.trans hfn)).symm
  refine ⟨by kernel_rfl, fun j t ht => ?_⟩
  rw [Tryz.params3] at ht
  have hm := Array.mem_of_getElem? ht
  simp only [List.mem_toArray, List.mem_cons, List.not_mem_nil, or_false] at hm
  rcases hm with rfl | rfl
  · exact (show Tryz.prog.wantsStandIn 22 = false by kernel_rfl)
  · exact (show Tryz.prog.wantsStandIn 23 = false by kernel_rfl)
theorem ureport_w : Rows.unittestReportMatchesSpecUptoRow.wfByText (Rows.OpenSpec.upto Rows.unittestReportMatchesSpecSpec) = true := by kernel_rfl
theorem ureport_m : Tryz.pinned.checked.prog.mainIs = some (Rows.unittestReportMatchesSpecUptoCard.stood.harness.1, Rows.unittestReportMatchesSpecUptoCard.stood.harness.2.toList) := by kernel_rfl
theorem ureport_g : false = Rows.unittestReportMatchesSpecUptoRow.goesBy Tryz.pinned.checked.prog := by kernel_rfl
theorem ureport_holds : Rows.UnittestReportMatchesSpecUptoCardSaid :=
  Claim7.holds_tied_plain_at .later [] _ _ _ _ ureport_said (fun _ h => by cases h) ureport_w (fun _ h => by cases h) unittestReportMatchesSpecUpto_row_tie rfl ⟨rfl, rfl⟩ ureport_m rfl ureport_plain ureport_g
#print axioms ureport_holds
end Go.Proofs.YtjpaaaecbgmcgaaGreatDoor
