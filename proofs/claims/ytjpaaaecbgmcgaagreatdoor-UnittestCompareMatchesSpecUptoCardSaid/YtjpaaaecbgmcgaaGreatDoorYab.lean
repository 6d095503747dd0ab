/-
  UnittestCompareMatchesSpec, where what it reads is of bulk at most 1048576: for all lists of lines the law returns true, and they read afterwards as they read before. The tables and errors of the library that are read are listed and tied to its text.
-/
import Derived.Test.YtjpaaaecbgmcgaaGreatDoorYa11
import Derived.Test.YtjpaaaecbgmcgaaGreatDoorCards
import Derived.Test.YtjpaaaecbgmcgaaGreatDoorTieS
import Derived.SevenTiedAt
import Derived.Carry
set_option linter.unusedVariables false
set_option linter.unusedSimpArgs false
namespace Go.Proofs.YtjpaaaecbgmcgaaGreatDoor
open Go.ChangeShapes Go.WideShapes Go.ChangeAt Go.RowKit
theorem ucompare_cA : (Rows.unittestCompareMatchesSpecUptoRow.inPlace == Tryz.pinned.checked.prog.inPlace 4) = true := by kernel_rfl
theorem ucompare_cB : (Rows.unittestCompareMatchesSpecUptoRow.unfollowed == Tryz.pinned.checked.prog.unfollowed 4) = true := by kernel_rfl
theorem ucompare_cC : (Rows.unittestCompareMatchesSpecUptoRow.recurses == Tryz.pinned.checked.prog.recurses 4) = true := by kernel_rfl
theorem ucompare_cD : (Rows.unittestCompareMatchesSpecUptoRow.named == Tryz.pinned.checked.prog.varsNamed 4) = true := by kernel_rfl
theorem ucompare_closed : joinedFacts Tryz.pinned.checked.prog 4 Tryz.f4 (Rows.OpenSpec.upto Rows.unittestCompareMatchesSpecSpec).bare Rows.unittestCompareMatchesSpecUptoRow = true := by
  unfold joinedFacts
  simp only [Bool.and_eq_true]
  repeat' (with_reducible refine And.intro ?_ ?_)
  all_goals first | with_reducible exact ucompare_cA | with_reducible exact ucompare_cB | with_reducible exact ucompare_cC | with_reducible exact ucompare_cD | kernel_rfl
set_option maxRecDepth 100000 in
theorem ucompare_lifted (os : Os) (started : os.Started) (H : Type) (enc : TypeId × Value → H) (F : Stop.Interp) :
    ReturnsInHanded {} Tryz.checked os 4 .any ((Rows.OpenSpec.upto Rows.unittestCompareMatchesSpecSpec).preRow enc Tryz.prog Tryz.f4 Rows.unittestCompareMatchesSpecUptoRow.domain false Rows.unittestCompareMatchesSpecUptoRow.laid) (((Rows.OpenSpec.upto Rows.unittestCompareMatchesSpecSpec).at F).post enc Tryz.prog Tryz.f4 false true false false) := by
  have hx : ∃ places, DataW.whole enc Tryz.prog ((laidWorldU os).forCall (fun _ _ => 0) ⟨#[], #[.slice none 0 0, .slice none 0 0], []⟩).memory Tryz.f4.params.toList Rows.unittestCompareMatchesSpecSpec.vars false #[Value.slice none 0 0, .slice none 0 0].toList 8 = some ([.nil, .nil], [], places) := ⟨[], by kernel_rfl⟩
  obtain ⟨places, hx⟩ := hx
  refine law_liftedS (C := Tryz.checked) (s := Rows.unittestCompareMatchesSpecSpec) (tb := 4) started H enc F own_knob (by kernel_rfl) Tryz.func4
    (witness_row_atRef (enc := enc) (C := Tryz.checked) false (laidWorldU os) #[.slice none 0 0, .slice none 0 0] (laidU_os os) (varsU os _) (restU os _) (by kernel_rfl)
      (OpenSpec.preRow_of_cond 8 hx (by kernel_rfl) (fun k hk => by cases hk; kernel_rfl) (by kernel_rfl) (laidU_met os _)))
    laid_out (by kernel_rfl) (by kernel_rfl) Tryz.underlying4 rfl ?_ ?_
  · intro ds hl
    match ds, hl with
    | [d0, d1], _ => rfl
  · intro W base args ds p hval hA hp hz hL hsh
    have hval' : ∀ (j : Nat) t v, Tryz.f4.params[j]? = some t → args[j]? = some v → Value.okWide Tryz.prog W .any base t v := hval
    have hA' : DataW.TrodAll enc Tryz.prog W 0 (fun _ => true) true Tryz.f4.params.toList args.toList ds p := hA
    rw [Tryz.params4] at hA' hval'
    obtain ⟨v0, v1, d0, d1, p0, p1, rfl, rfl, rfl, h0, h1⟩ := trodAll_two hA'
    obtain ⟨A0, ln0, cp0, rfl⟩ := okWide_slice Tryz.underlying22 (hval' 0 _ v0 rfl rfl)
    obtain ⟨A1, ln1, cp1, rfl⟩ := okWide_slice Tryz.underlying22 (hval' 1 _ v1 rfl rfl)
    obtain ⟨x0, q0, r0⟩ := arg_open (T := tt) shStrs_eq h0 (fun n hn => bulk_weightsS rfl closed_tt hz (by decide +kernel) List.mem_cons_self hn) rfl
    obtain ⟨l0, rfl, hlen0, hs0⟩ := strs_of q0
    obtain ⟨x1, q1, r1⟩ := arg_open (T := tt) shStrs_eq h1 (fun n hn => bulk_weightsS rfl closed_tt hz (by decide +kernel) (List.mem_cons_of_mem _ List.mem_cons_self) hn) rfl
    obtain ⟨l1, rfl, hlen1, hs1⟩ := strs_of q1
    refine calls_of_AX (vs := [.slice A0 ln0 cp0, .slice A1 ln1 cp1]) (fun zt hzt => law_compare_T l0 l1 (by omega) (by omega) (fun s h => by have := hs0 s h; omega) (fun s h => by have := hs1 s h; omega) zt hzt) hL hsh ⟨rfl, fun j s v e1 e2 => ?_, fun _ h => h⟩
    match j with
    | 0 => simp at e1 e2; subst e1 e2; exact r0 rho0
    | 1 => simp at e1 e2; subst e1 e2; exact r1 rho0
    | j + 2 => simp at e1
theorem ucompare_said : Rows.UnittestCompareMatchesSpecUptoSaid :=
  OpenClaim.holds_of_cond 4 Tryz.f4 rfl rfl rfl rfl rfl rfl rfl ⟨rfl, rfl, rfl, rfl, rfl⟩ rfl rfl rfl rfl rfl (by kernel_rfl) Tryz.func4 ucompare_closed
    (of_decide_eq_true (by kernel_rfl)) (by unfold Func.isWrapper; first | (rw [if_pos (by decide +kernel)]; kernel_rfl) | (rw [if_neg (by decide +kernel)]; exact ⟨rfl, rfl⟩))
    (fun os started H enc _ F => by rw [OpenClaim.pre_eq_preRow]; exact ucompare_lifted os started H enc F)
theorem ucompare_plain (f : FuncId) (fn : Func) (hf : Tryz.pinned.checked.prog.funcNamed "brindlewood/brindlewoodlaw6.UnittestCompareMatchesSpec" = some f) (hfn : Tryz.pinned.checked.prog.funcs[f]? = some fn) :
    true = Tryz.pinned.checked.prog.looks [] ∧ ∀ (j : Nat) t, fn.params[j]? = some t → Tryz.pinned.checked.prog.wantsStandIn t = false := by
  obtain rfl : f = 4 := Option.some.inj ((show Tryz.prog.funcNamed "brindlewood/brindlewoodlaw6.UnittestCompareMatchesSpec" = some 4 by kernel_rfl).symm.trans hf) |>.symm
  obtain rfl : fn = Tryz.f4 := (Option.some.inj (Tryz.func4.symm.trans hfn)).symm
  refine ⟨by kernel_rfl, fun j t ht => ?_⟩
  rw [Tryz.params4] at ht
  have hm := Array.mem_of_getElem? ht
  simp only [List.mem_toArray, List.mem_cons, List.not_mem_nil, or_false] at hm
  rcases hm with rfl | rfl
  · exact (show Tryz.prog.wantsStandIn 22 = false by kernel_rfl)
  · exact (show Tryz.prog.wantsStandIn 22 = false by kernel_rfl)
theorem ucompare_w : Rows.unittestCompareMatchesSpecUptoRow.wfByText (Rows.OpenSpec.upto Rows.unittestCompareMatchesSpecSpec) = true := by kernel_rfl
theorem ucompare_m : Tryz.pinned.checked.prog.mainIs = some (Rows.unittestCompareMatchesSpecUptoCard.stood.harness.1, Rows.unittestCompareMatchesSpecUptoCard.stood.harness.2.toList) := by kernel_rfl
theorem ucompare_g : false = Rows.unittestCompareMatchesSpecUptoRow.goesBy Tryz.pinned.checked.prog := by kernel_rfl
theorem ucompare_holds : Rows.UnittestCompareMatchesSpecUptoCardSaid :=
  Claim7.holds_tied_plain_at .later [] _ _ _ _ ucompare_said (fun _ h => by cases h) ucompare_w (fun _ h => by cases h) unittestCompareMatchesSpecUpto_row_tie rfl ⟨rfl, rfl⟩ ucompare_m rfl ucompare_plain ucompare_g
#print axioms ucompare_holds
end Go.Proofs.YtjpaaaecbgmcgaaGreatDoor
