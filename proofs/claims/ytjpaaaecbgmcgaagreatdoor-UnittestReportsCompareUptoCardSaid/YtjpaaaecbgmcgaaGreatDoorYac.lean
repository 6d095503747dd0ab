/-
  UnittestReportsCompare, where what it reads is of bulk at most 1048576: for all names and outcomes the law returns true, and they read afterwards as they read before. The tables and errors of the library that are read are listed and tied to its text.
-/
import Derived.Test.YtjpaaaecbgmcgaaGreatDoorYa11
import Derived.Test.YtjpaaaecbgmcgaaGreatDoorCards
import Derived.Test.YtjpaaaecbgmcgaaGreatDoorTieS
import Derived.SevenTiedAt
import Derived.Carry
set_option linter.unusedVariables false
set_option linter.unusedSimpArgs false
namespace Go.Proofs.YtjpaaaecbgmcgaaGreatDoor
open Go.ChangeShapes Go.WideShapes Go.ChangeAt Go.RowKit
theorem ureports_cA : (Rows.unittestReportsCompareUptoRow.inPlace == Tryz.pinned.checked.prog.inPlace 5) = true := by kernel_rfl
theorem ureports_cB : (Rows.unittestReportsCompareUptoRow.unfollowed == Tryz.pinned.checked.prog.unfollowed 5) = true := by kernel_rfl
theorem ureports_cC : (Rows.unittestReportsCompareUptoRow.recurses == Tryz.pinned.checked.prog.recurses 5) = true := by kernel_rfl
theorem ureports_cD : (Rows.unittestReportsCompareUptoRow.named == Tryz.pinned.checked.prog.varsNamed 5) = true := by kernel_rfl
theorem ureports_closed : joinedFacts Tryz.pinned.checked.prog 5 Tryz.f5 (Rows.OpenSpec.upto Rows.unittestReportsCompareSpec).bare Rows.unittestReportsCompareUptoRow = true := by
  unfold joinedFacts
  simp only [Bool.and_eq_true]
  repeat' (with_reducible refine And.intro ?_ ?_)
  all_goals first | with_reducible exact ureports_cA | with_reducible exact ureports_cB | with_reducible exact ureports_cC | with_reducible exact ureports_cD | kernel_rfl
set_option maxRecDepth 100000 in
theorem ureports_lifted (os : Os) (started : os.Started) (H : Type) (enc : TypeId × Value → H) (F : Stop.Interp) :
    ReturnsInHanded {} Tryz.checked os 5 .any ((Rows.OpenSpec.upto Rows.unittestReportsCompareSpec).preRow enc Tryz.prog Tryz.f5 Rows.unittestReportsCompareUptoRow.domain false Rows.unittestReportsCompareUptoRow.laid) (((Rows.OpenSpec.upto Rows.unittestReportsCompareSpec).at F).post enc Tryz.prog Tryz.f5 false true false false) := by
  have hx : ∃ places, DataW.whole enc Tryz.prog ((laidWorldU os).forCall (fun _ _ => 0) ⟨#[], #[.slice none 0 0, .slice none 0 0, .slice none 0 0], []⟩).memory Tryz.f5.params.toList Rows.unittestReportsCompareSpec.vars false #[Value.slice none 0 0, .slice none 0 0, .slice none 0 0].toList 8 = some ([.nil, .nil, .nil], [], places) := ⟨[], by kernel_rfl⟩
  obtain ⟨places, hx⟩ := hx
  refine law_liftedS (C := Tryz.checked) (s := Rows.unittestReportsCompareSpec) (tb := 4) started H enc F own_knob (by kernel_rfl) Tryz.func5
    (witness_row_atRef (enc := enc) (C := Tryz.checked) false (laidWorldU os) #[.slice none 0 0, .slice none 0 0, .slice none 0 0] (laidU_os os) (varsU os _) (restU os _) (by kernel_rfl)
      (OpenSpec.preRow_of_cond 8 hx (by kernel_rfl) (fun k hk => by cases hk; kernel_rfl) (by kernel_rfl) (laidU_met os _)))
    laid_out (by kernel_rfl) (by kernel_rfl) Tryz.underlying4 rfl ?_ ?_
  · intro ds hl
    match ds, hl with
    | [d0, d1, d2], _ => rfl
  · intro W base args ds p hval hA hp hz hL hsh
    have hval' : ∀ (j : Nat) t v, Tryz.f5.params[j]? = some t → args[j]? = some v → Value.okWide Tryz.prog W .any base t v := hval
    have hA' : DataW.TrodAll enc Tryz.prog W 0 (fun _ => true) true Tryz.f5.params.toList args.toList ds p := hA
    rw [Tryz.params5] at hA' hval'
    obtain ⟨v0, v1, v2, d0, d1, d2, p0, p1, p2, rfl, rfl, rfl, h0, h1, h2⟩ := trodAll_three hA'
    obtain ⟨A0, ln0, cp0, rfl⟩ := okWide_slice Tryz.underlying22 (hval' 0 _ v0 rfl rfl)
    obtain ⟨A1, ln1, cp1, rfl⟩ := okWide_slice Tryz.underlying23 (hval' 1 _ v1 rfl rfl)
    obtain ⟨A2, ln2, cp2, rfl⟩ := okWide_slice Tryz.underlying23 (hval' 2 _ v2 rfl rfl)
    obtain ⟨x0, q0, r0⟩ := arg_open (T := tt) shStrs_eq h0 (fun n hn => bulk_weightsS rfl closed_tt hz (by decide +kernel) List.mem_cons_self hn) rfl
    obtain ⟨l0, rfl, hlen0, hs0⟩ := strs_of q0
    obtain ⟨x1, q1, r1⟩ := arg_open (T := tt) shOcs_eq h1 (fun n hn => bulk_weightsS rfl closed_tt hz (by decide +kernel) (List.mem_cons_of_mem _ List.mem_cons_self) hn) rfl
    obtain ⟨l1, rfl, hin1⟩ := ocs_of q1
    obtain ⟨x2, q2, r2⟩ := arg_open (T := tt) shOcs_eq h2 (fun n hn => bulk_weightsS rfl closed_tt hz (by decide +kernel) (List.mem_cons_of_mem _ (List.mem_cons_of_mem _ List.mem_cons_self)) hn) rfl
    obtain ⟨l2, rfl, hin2⟩ := ocs_of q2
    refine calls_of_AX (vs := [.slice A0 ln0 cp0, .slice A1 ln1 cp1, .slice A2 ln2 cp2]) (fun zt hzt => law_reports_T l0 l1 l2 hin1 hin2 zt hzt) hL hsh ⟨rfl, fun j s v e1 e2 => ?_, fun _ h => h⟩
    match j with
    | 0 => simp at e1 e2; subst e1 e2; exact r0 rho0
    | 1 => simp at e1 e2; subst e1 e2; exact r1 rho0
    | 2 => simp at e1 e2; subst e1 e2; exact r2 rho0
    | j + 3 => simp at e1
theorem ureports_said : Rows.UnittestReportsCompareUptoSaid :=
  OpenClaim.holds_of_cond 5 Tryz.f5 rfl rfl rfl rfl rfl rfl rfl ⟨rfl, rfl, rfl, rfl, rfl⟩ rfl rfl rfl rfl rfl (by kernel_rfl) Tryz.func5 ureports_closed
    (of_decide_eq_true (by kernel_rfl)) (by unfold Func.isWrapper; first | (rw [if_pos (by decide +kernel)]; kernel_rfl) | (rw [if_neg (by decide +kernel)]; exact ⟨rfl, rfl⟩))
    (fun os started H enc _ F => by rw [OpenClaim.pre_eq_preRow]; exact ureports_lifted os started H enc F)
theorem ureports_plain (f : FuncId) (fn : Func) (hf : Tryz.pinned.checked.prog.funcNamed "brindlewood/brindlewoodlaw6.UnittestReportsCompare" = some f) (hfn : Tryz.pinned.checked.prog.funcs[f]? = some fn) :
    true = Tryz.pinned.checked.prog.looks [] ∧ ∀ (j : Nat) t, fn.params[j]? = some t → Tryz.pinned.checked.prog.wantsStandIn t = false := by
  obtain rfl : f = 5 := Option.some.inj ((show Tryz.prog.funcNamed "brindlewood/brindlewoodlaw6.UnittestReportsCompare" = some 5 by kernel_rfl).symm.trans hf) |>.symm
  obtain rfl : fn = Tryz.f5 := (Option.some.inj (Tryz.func5.symm.trans hfn)).symm
  refine ⟨by kernel_rfl, fun j t ht => ?_⟩
  rw [Tryz.params5] at ht
  have hm := Array.mem_of_getElem? ht
  simp only [List.mem_toArray, List.mem_cons, List.not_mem_nil, or_false] at hm
  rcases hm with rfl | rfl | rfl
  · exact (show Tryz.prog.wantsStandIn 22 = false by kernel_rfl)
  · exact (show Tryz.prog.wantsStandIn 23 = false by kernel_rfl)
  · exact (show Tryz.prog.wantsStandIn 23 = false by kernel_rfl)
theorem ureports_w : Rows.unittestReportsCompareUptoRow.wfByText (Rows.OpenSpec.upto Rows.unittestReportsCompareSpec) = true := by kernel_rfl
theorem ureports_m : Tryz.pinned.checked.prog.mainIs = some (Rows.unittestReportsCompareUptoCard.stood.harness.1, Rows.unittestReportsCompareUptoCard.stood.harness.2.toList) := by kernel_rfl
theorem ureports_g : false = Rows.unittestReportsCompareUptoRow.goesBy Tryz.pinned.checked.prog := by kernel_rfl
theorem ureports_holds : Rows.UnittestReportsCompareUptoCardSaid :=
  Claim7.holds_tied_plain_at .later [] _ _ _ _ ureports_said (fun _ h => by cases h) ureports_w (fun _ h => by cases h) unittestReportsCompareUpto_row_tie rfl ⟨rfl, rfl⟩ ureports_m rfl ureports_plain ureports_g
#print axioms ureports_holds
end Go.Proofs.YtjpaaaecbgmcgaaGreatDoor
