/-
  DebuggerChangesAreShown, where what it reads is of bulk at most 1048576: for all traces, names and numbers the law returns true, and they read afterwards as they read before. The tables and errors of the library that are read are listed and tied to its text.
-/
import Derived.Test.YtabmcfnefjipbaaGreatDoorU11
import Derived.Test.YtabmcfnefjipbaaGreatDoorCards
import Derived.Test.YtabmcfnefjipbaaGreatDoorTie
import Derived.SevenTiedAt
import Derived.Carry
set_option linter.unusedVariables false
set_option linter.unusedSimpArgs false
namespace Go.Proofs.YtabmcfnefjipbaaGreatDoor
open Go.ChangeShapes Go.WideShapes Go.ChangeAt Go.RowKit
theorem dshown_cA : (Rows.debuggerChangesAreShownUptoRow.inPlace == Tryz.pinned.checked.prog.inPlace 11) = true := by kernel_rfl
theorem dshown_cB : (Rows.debuggerChangesAreShownUptoRow.unfollowed == Tryz.pinned.checked.prog.unfollowed 11) = true := by kernel_rfl
theorem dshown_cC : (Rows.debuggerChangesAreShownUptoRow.recurses == Tryz.pinned.checked.prog.recurses 11) = true := by kernel_rfl
theorem dshown_cD : (Rows.debuggerChangesAreShownUptoRow.named == Tryz.pinned.checked.prog.varsNamed 11) = true := by kernel_rfl
theorem dshown_closed : joinedFacts Tryz.pinned.checked.prog 11 Tryz.f11 (Rows.OpenSpec.upto Rows.debuggerChangesAreShownSpec).bare Rows.debuggerChangesAreShownUptoRow = true := by
  unfold joinedFacts
  simp only [Bool.and_eq_true]
  repeat' (with_reducible refine And.intro ?_ ?_)
  all_goals first | with_reducible exact dshown_cA | with_reducible exact dshown_cB | with_reducible exact dshown_cC | with_reducible exact dshown_cD | kernel_rfl
set_option maxRecDepth 100000 in
theorem dshown_lifted (os : Os) (started : os.Started) (H : Type) (enc : TypeId × Value → H) (F : Stop.Interp) :
    ReturnsInHanded {} Tryz.checked os 11 .any ((Rows.OpenSpec.upto Rows.debuggerChangesAreShownSpec).preRow enc Tryz.prog Tryz.f11 Rows.debuggerChangesAreShownUptoRow.domain false Rows.debuggerChangesAreShownUptoRow.laid) (((Rows.OpenSpec.upto Rows.debuggerChangesAreShownSpec).at F).post enc Tryz.prog Tryz.f11 false true false false) := by
  have hx : ∃ places, DataW.whole enc Tryz.prog ((laidWorldD os).forCall (fun _ _ => 0) ⟨#[], #[.slice none 0 0, .string ⟨#[]⟩, .int .i64 0], []⟩).memory Tryz.f11.params.toList Rows.debuggerChangesAreShownSpec.vars false #[Value.slice none 0 0, .string ⟨#[]⟩, .int .i64 0].toList 8 = some ([.nil, .lit (.string []), .lit (.int .i64 0)], [], places) := ⟨[], by kernel_rfl⟩
  obtain ⟨places, hx⟩ := hx
  refine law_liftedL (C := Tryz.checked) (s := Rows.debuggerChangesAreShownSpec) (tb := 4) started H enc F own_knob (by kernel_rfl) Tryz.func11
    (witness_row_at (enc := enc) (C := Tryz.checked) false (laidWorldD os) #[.slice none 0 0, .string ⟨#[]⟩, .int .i64 0] (laidD_os os) (by kernel_rfl) (by kernel_rfl) (by kernel_rfl)
      (OpenSpec.preRow_of_cond 8 hx (by kernel_rfl) (fun k hk => by cases hk; kernel_rfl) (by kernel_rfl) (laidD_met os _)))
    laid_out (by kernel_rfl) (by kernel_rfl) Tryz.underlying4 rfl ?_ ?_
  · intro ds hl
    match ds, hl with
    | [d0, d1, d2], _ => rfl
  · intro W base args ds p hval hA hp hz hL
    have hval' : ∀ (j : Nat) t v, Tryz.f11.params[j]? = some t → args[j]? = some v → Value.okWide Tryz.prog W .any base t v := hval
    have hA' : DataW.TrodAll enc Tryz.prog W 0 (fun _ => true) true Tryz.f11.params.toList args.toList ds p := hA
    rw [Tryz.params11] at hA' hval'
    obtain ⟨v0, v1, v2, d0, d1, d2, p0, p1, p2, rfl, rfl, rfl, h0, h1, h2⟩ := trodAll_three hA'
    obtain ⟨A0, ln0, cp0, rfl⟩ := okWide_slice Tryz.underlying22 (hval' 0 _ v0 rfl rfl)
    obtain ⟨z1, rfl⟩ := okWide_string Tryz.underlying9 (hval' 1 _ v1 rfl rfl)
    obtain ⟨n2, rfl, _, _, hwf2⟩ := open_int Tryz.underlying3 (hval' 2 3 v2 rfl rfl) h2
    have hw2 : -9223372036854775808 ≤ n2 ∧ n2 ≤ 9223372036854775807 := by
      simp only [Lit.wf, Bool.and_eq_true, decide_eq_true_eq] at hwf2
      exact ⟨hwf2.1, hwf2.2⟩
    obtain ⟨x0, q0, r0⟩ := arg_open (T := tt) shEvs_eq h0 (fun n hn => bulk_weights rfl closed_T hz (by decide +kernel) List.mem_cons_self hn) rfl
    obtain ⟨l, rfl, hlen, hin⟩ := evs_ofD q0
    obtain ⟨x1, q1, r1⟩ := arg_open (T := tt) shStr_eq h1 (fun n hn => bulk_weights rfl closed_T hz (by decide +kernel) (List.mem_cons_of_mem _ List.mem_cons_self) hn) rfl
    obtain ⟨s1, rfl, hs1⟩ := str_of q1
    refine calls_of_AT (vs := [.slice A0 ln0 cp0, .string z1, .int .i64 n2]) (fun zt hzt => law_shown_T l s1 n2 (fun e he => (hin e he).locs) (fun e he => (hin e he).md) zt hzt) (tab_ofD hL) ⟨rfl, fun j s v e1 e2 => ?_, fun _ h => h⟩
    match j with
    | 0 => simp at e1 e2; subst e1 e2; exact r0 rho0
    | 1 => simp at e1 e2; subst e1 e2; exact r1 rho0
    | 2 => simp at e1 e2; subst e1 e2; exact .d (.u (.int _ _))
    | j + 3 => simp at e1
theorem dshown_said : Rows.DebuggerChangesAreShownUptoSaid :=
  OpenClaim.holds_of_cond 11 Tryz.f11 rfl rfl rfl rfl rfl rfl rfl ⟨rfl, rfl, rfl, rfl, rfl⟩ rfl rfl rfl rfl rfl (by kernel_rfl) Tryz.func11 dshown_closed
    (of_decide_eq_true (by kernel_rfl)) (by unfold Func.isWrapper; first | (rw [if_pos (by decide +kernel)]; kernel_rfl) | (rw [if_neg (by decide +kernel)]; exact ⟨rfl, rfl⟩))
    (fun os started H enc _ F => by rw [OpenClaim.pre_eq_preRow]; exact dshown_lifted os started H enc F)
theorem dshown_plain (f : FuncId) (fn : Func) (hf : Tryz.pinned.checked.prog.funcNamed "brindlewood/brindlewoodlaw6.DebuggerChangesAreShown" = some f) (hfn : Tryz.pinned.checked.prog.funcs[f]? = some fn) :
    true = Tryz.pinned.checked.prog.looks [] ∧ ∀ (j : Nat) t, fn.params[j]? = some t → Tryz.pinned.checked.prog.wantsStandIn t = false := by
  obtain rfl : f = 11 := Option.some.inj ((show Tryz.prog.funcNamed "brindlewood/brindlewoodlaw6.DebuggerChangesAreShown" = some 11 by kernel_rfl).symm.trans hf) |>.symm
  obtain rfl : fn = Tryz.f11 := (Option.some.inj (Tryz.func11.symm.trans hfn)).symm
  refine ⟨by kernel_rfl, fun j t ht => ?_⟩
  rw [Tryz.params11] at ht
  have hm := Array.mem_of_getElem? ht
  simp only [List.mem_toArray, List.mem_cons, List.not_mem_nil, or_false] at hm
  rcases hm with rfl | rfl | rfl
  · exact (show Tryz.prog.wantsStandIn 22 = false by kernel_rfl)
  · exact (show Tryz.prog.wantsStandIn 9 = false by kernel_rfl)
  · exact (show Tryz.prog.wantsStandIn 3 = false by kernel_rfl)
theorem dshown_holds : Rows.DebuggerChangesAreShownUptoCardSaid :=
  Claim7.holds_tied_plain_at .later [] _ _ _ _ dshown_said (fun _ h => by cases h) (by kernel_rfl) (fun _ h => by cases h) debuggerChangesAreShownUpto_row_tie rfl ⟨rfl, rfl⟩ (by kernel_rfl) rfl dshown_plain (by kernel_rfl)
#print axioms dshown_holds
end Go.Proofs.YtabmcfnefjipbaaGreatDoor
