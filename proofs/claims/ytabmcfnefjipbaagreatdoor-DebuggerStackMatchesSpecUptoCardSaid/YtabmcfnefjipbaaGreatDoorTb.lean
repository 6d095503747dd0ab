/-
  DebuggerStackMatchesSpec, where what it reads is of bulk at most 1048576: for all traces, positions and names the law returns true, and they read afterwards as they read before. The tables and errors of the library that are read are listed and tied to its text.
-/
import Derived.Test.YtabmcfnefjipbaaGreatDoorT11
import Derived.Test.YtabmcfnefjipbaaGreatDoorCards
import Derived.Test.YtabmcfnefjipbaaGreatDoorTie
import Derived.SevenTiedAt
import Derived.Carry
set_option linter.unusedVariables false
set_option linter.unusedSimpArgs false
namespace Go.Proofs.YtabmcfnefjipbaaGreatDoor
open Go.ChangeShapes Go.WideShapes Go.ChangeAt Go.RowKit
theorem dstack_cA : (Rows.debuggerStackMatchesSpecUptoRow.inPlace == Tryz.pinned.checked.prog.inPlace 5) = true := by kernel_rfl
theorem dstack_cB : (Rows.debuggerStackMatchesSpecUptoRow.unfollowed == Tryz.pinned.checked.prog.unfollowed 5) = true := by kernel_rfl
theorem dstack_cC : (Rows.debuggerStackMatchesSpecUptoRow.recurses == Tryz.pinned.checked.prog.recurses 5) = true := by kernel_rfl
theorem dstack_cD : (Rows.debuggerStackMatchesSpecUptoRow.named == Tryz.pinned.checked.prog.varsNamed 5) = true := by kernel_rfl
theorem dstack_closed : joinedFacts Tryz.pinned.checked.prog 5 Tryz.f5 (Rows.OpenSpec.upto Rows.debuggerStackMatchesSpecSpec).bare Rows.debuggerStackMatchesSpecUptoRow = true := by
  unfold joinedFacts
  simp only [Bool.and_eq_true]
  repeat' (with_reducible refine And.intro ?_ ?_)
  all_goals first | with_reducible exact dstack_cA | with_reducible exact dstack_cB | with_reducible exact dstack_cC | with_reducible exact dstack_cD | kernel_rfl
set_option maxRecDepth 100000 in
theorem dstack_lifted (os : Os) (started : os.Started) (H : Type) (enc : TypeId × Value → H) (F : Stop.Interp) :
    ReturnsInHanded {} Tryz.checked os 5 .any ((Rows.OpenSpec.upto Rows.debuggerStackMatchesSpecSpec).preRow enc Tryz.prog Tryz.f5 Rows.debuggerStackMatchesSpecUptoRow.domain false Rows.debuggerStackMatchesSpecUptoRow.laid) (((Rows.OpenSpec.upto Rows.debuggerStackMatchesSpecSpec).at F).post enc Tryz.prog Tryz.f5 false true false false) := by
  have hx : ∃ places, DataW.whole enc Tryz.prog ((laidWorldD os).forCall (fun _ _ => 0) ⟨#[], #[.slice none 0 0, .int .i64 0, .string ⟨#[]⟩], []⟩).memory Tryz.f5.params.toList Rows.debuggerStackMatchesSpecSpec.vars false #[Value.slice none 0 0, .int .i64 0, .string ⟨#[]⟩].toList 8 = some ([.nil, .lit (.int .i64 0), .lit (.string [])], [], places) := ⟨[], by kernel_rfl⟩
  obtain ⟨places, hx⟩ := hx
  refine law_liftedL (C := Tryz.checked) (s := Rows.debuggerStackMatchesSpecSpec) (tb := 4) started H enc F own_knob (by kernel_rfl) Tryz.func5
    (witness_row_at (enc := enc) (C := Tryz.checked) false (laidWorldD os) #[.slice none 0 0, .int .i64 0, .string ⟨#[]⟩] (laidD_os os) (by kernel_rfl) (by kernel_rfl) (by kernel_rfl)
      (OpenSpec.preRow_of_cond 8 hx (by kernel_rfl) (fun k hk => by cases hk; kernel_rfl) (by kernel_rfl) (laidD_met os _)))
    laid_out (by kernel_rfl) (by kernel_rfl) Tryz.underlying4 rfl ?_ ?_
  · intro ds hl
    match ds, hl with
    | [d0, d1, d2], _ => rfl
  · intro W base args ds p hval hA hp hz hL
    have hval' : ∀ (j : Nat) t v, Tryz.f5.params[j]? = some t → args[j]? = some v → Value.okWide Tryz.prog W .any base t v := hval
    have hA' : DataW.TrodAll enc Tryz.prog W 0 (fun _ => true) true Tryz.f5.params.toList args.toList ds p := hA
    rw [Tryz.params5] at hA' hval'
    obtain ⟨v0, v1, v2, d0, d1, d2, p0, p1, p2, rfl, rfl, rfl, h0, h1, h2⟩ := trodAll_three hA'
    obtain ⟨A0, ln0, cp0, rfl⟩ := okWide_slice Tryz.underlying22 (hval' 0 _ v0 rfl rfl)
    obtain ⟨n1, rfl, _, _, hwf1⟩ := open_int Tryz.underlying3 (hval' 1 3 v1 rfl rfl) h1
    have hw1 : -9223372036854775808 ≤ n1 ∧ n1 ≤ 9223372036854775807 := by
      simp only [Lit.wf, Bool.and_eq_true, decide_eq_true_eq] at hwf1
      exact ⟨hwf1.1, hwf1.2⟩
    obtain ⟨z2, rfl⟩ := okWide_string Tryz.underlying9 (hval' 2 _ v2 rfl rfl)
    obtain ⟨x0, q0, r0⟩ := arg_open (T := tt) shEvs_eq h0 (fun n hn => bulk_weights rfl closed_T hz (by decide +kernel) List.mem_cons_self hn) rfl
    obtain ⟨l, rfl, hlen, hin⟩ := evs_ofD q0
    obtain ⟨x2, q2, r2⟩ := arg_open (T := tt) shStr_eq h2 (fun n hn => bulk_weights rfl closed_T hz (by decide +kernel) (List.mem_cons_of_mem _ (List.mem_cons_of_mem _ List.mem_cons_self)) hn) rfl
    obtain ⟨s2, rfl, hs2⟩ := str_of q2
    refine calls_of_AT (vs := [.slice A0 ln0 cp0, .int .i64 n1, .string z2]) (fun zt hzt => law_stack_T l n1 s2 (fun e he => (hin e he).locs) (fun e he => (hin e he).md) hlen zt hzt) (tab_ofD hL) ⟨rfl, fun j s v e1 e2 => ?_, fun _ h => h⟩
    match j with
    | 0 => simp at e1 e2; subst e1 e2; exact r0 rho0
    | 1 => simp at e1 e2; subst e1 e2; exact .d (.u (.int _ _))
    | 2 => simp at e1 e2; subst e1 e2; exact r2 rho0
    | j + 3 => simp at e1
theorem dstack_said : Rows.DebuggerStackMatchesSpecUptoSaid :=
  OpenClaim.holds_of_cond 5 Tryz.f5 rfl rfl rfl rfl rfl rfl rfl ⟨rfl, rfl, rfl, rfl, rfl⟩ rfl rfl rfl rfl rfl (by kernel_rfl) Tryz.func5 dstack_closed
    (of_decide_eq_true (by kernel_rfl)) (by unfold Func.isWrapper; first | (rw [if_pos (by decide +kernel)]; kernel_rfl) | (rw [if_neg (by decide +kernel)]; exact ⟨rfl, rfl⟩))
    (fun os started H enc _ F => by rw [OpenClaim.pre_eq_preRow]; exact dstack_lifted os started H enc F)
theorem dstack_plain (f : FuncId) (fn : Func) (hf : Tryz.pinned.checked.prog.funcNamed "brindlewood/brindlewoodlaw6.DebuggerStackMatchesSpec" = some f) (hfn : Tryz.pinned.checked.prog.funcs[f]? = some fn) :
    true = Tryz.pinned.checked.prog.looks [] ∧ ∀ (j : Nat) t, fn.params[j]? = some t → Tryz.pinned.checked.prog.wantsStandIn t = false := by
  obtain rfl : f = 5 := Option.some.inj ((show Tryz.prog.funcNamed "brindlewood/brindlewoodlaw6.DebuggerStackMatchesSpec" = some 5 by kernel_rfl).symm.trans hf) |>.symm
  obtain rfl : fn = Tryz.f5 := (Option.some.inj (Tryz.func5.symm.trans hfn)).symm
  refine ⟨by kernel_rfl, fun j t ht => ?_⟩
  rw [Tryz.params5] at ht
  have hm := Array.mem_of_getElem? ht
  simp only [List.mem_toArray, List.mem_cons, List.not_mem_nil, or_false] at hm
  rcases hm with rfl | rfl | rfl
  · exact (show Tryz.prog.wantsStandIn 22 = false by kernel_rfl)
  · exact (show Tryz.prog.wantsStandIn 3 = false by kernel_rfl)
  · exact (show Tryz.prog.wantsStandIn 9 = false by kernel_rfl)
theorem dstack_holds : Rows.DebuggerStackMatchesSpecUptoCardSaid :=
  Claim7.holds_tied_plain_at .later [] _ _ _ _ dstack_said (fun _ h => by cases h) (by kernel_rfl) (fun _ h => by cases h) debuggerStackMatchesSpecUpto_row_tie rfl ⟨rfl, rfl⟩ (by kernel_rfl) rfl dstack_plain (by kernel_rfl)
#print axioms dstack_holds
end Go.Proofs.YtabmcfnefjipbaaGreatDoor
