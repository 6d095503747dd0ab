/-
  DebuggerChangesMatchSpec, where what it reads is of bulk at most 1048576: for all traces and names the law returns true, and they read afterwards as they read before. The tables and errors of the library that are read are listed and tied to its text.
-/
import Derived.Test.YtabmcfnefjipbaaGreatDoorU11
import Derived.Test.YtabmcfnefjipbaaGreatDoorCards
import Derived.Test.YtabmcfnefjipbaaGreatDoorTie
import Derived.SevenTiedAt
import Derived.Carry
set_option linter.unusedVariables false
set_option linter.unusedSimpArgs false
namespace Go.Proofs.YtabmcfnefjipbaaGreatDoor
open Go.ChangeShapes Go.WideShapes Go.ChangeAt Go.RowKit
theorem dchanges_cA : (Rows.debuggerChangesMatchSpecUptoRow.inPlace == Tryz.pinned.checked.prog.inPlace 10) = true := by kernel_rfl
theorem dchanges_cB : (Rows.debuggerChangesMatchSpecUptoRow.unfollowed == Tryz.pinned.checked.prog.unfollowed 10) = true := by kernel_rfl
theorem dchanges_cC : (Rows.debuggerChangesMatchSpecUptoRow.recurses == Tryz.pinned.checked.prog.recurses 10) = true := by kernel_rfl
theorem dchanges_cD : (Rows.debuggerChangesMatchSpecUptoRow.named == Tryz.pinned.checked.prog.varsNamed 10) = true := by kernel_rfl
theorem dchanges_closed : joinedFacts Tryz.pinned.checked.prog 10 Tryz.f10 (Rows.OpenSpec.upto Rows.debuggerChangesMatchSpecSpec).bare Rows.debuggerChangesMatchSpecUptoRow = true := by
  unfold joinedFacts
  simp only [Bool.and_eq_true]
  repeat' (with_reducible refine And.intro ?_ ?_)
  all_goals first | with_reducible exact dchanges_cA | with_reducible exact dchanges_cB | with_reducible exact dchanges_cC | with_reducible exact dchanges_cD | kernel_rfl
set_option maxRecDepth 100000 in
theorem dchanges_lifted (os : Os) (started : os.Started) (H : Type) (enc : TypeId × Value → H) (F : Stop.Interp) :
    ReturnsInHanded {} Tryz.checked os 10 .any ((Rows.OpenSpec.upto Rows.debuggerChangesMatchSpecSpec).preRow enc Tryz.prog Tryz.f10 Rows.debuggerChangesMatchSpecUptoRow.domain false Rows.debuggerChangesMatchSpecUptoRow.laid) (((Rows.OpenSpec.upto Rows.debuggerChangesMatchSpecSpec).at F).post enc Tryz.prog Tryz.f10 false true false false) := by
  have hx : ∃ places, DataW.whole enc Tryz.prog ((laidWorldD os).forCall (fun _ _ => 0) ⟨#[], #[.slice none 0 0, .string ⟨#[]⟩, .string ⟨#[]⟩, .string ⟨#[]⟩], []⟩).memory Tryz.f10.params.toList Rows.debuggerChangesMatchSpecSpec.vars false #[Value.slice none 0 0, .string ⟨#[]⟩, .string ⟨#[]⟩, .string ⟨#[]⟩].toList 8 = some ([.nil, .lit (.string []), .lit (.string []), .lit (.string [])], [], places) := ⟨[], by kernel_rfl⟩
  obtain ⟨places, hx⟩ := hx
  refine law_liftedL (C := Tryz.checked) (s := Rows.debuggerChangesMatchSpecSpec) (tb := 4) started H enc F own_knob (by kernel_rfl) Tryz.func10
    (witness_row_at (enc := enc) (C := Tryz.checked) false (laidWorldD os) #[.slice none 0 0, .string ⟨#[]⟩, .string ⟨#[]⟩, .string ⟨#[]⟩] (laidD_os os) (by kernel_rfl) (by kernel_rfl) (by kernel_rfl)
      (OpenSpec.preRow_of_cond 8 hx (by kernel_rfl) (fun k hk => by cases hk; kernel_rfl) (by kernel_rfl) (laidD_met os _)))
    laid_out (by kernel_rfl) (by kernel_rfl) Tryz.underlying4 rfl ?_ ?_
  · intro ds hl
    match ds, hl with
    | [d0, d1, d2, d3], _ => rfl
  · intro W base args ds p hval hA hp hz hL
    have hval' : ∀ (j : Nat) t v, Tryz.f10.params[j]? = some t → args[j]? = some v → Value.okWide Tryz.prog W .any base t v := hval
    have hA' : DataW.TrodAll enc Tryz.prog W 0 (fun _ => true) true Tryz.f10.params.toList args.toList ds p := hA
    rw [Tryz.params10] at hA' hval'
    obtain ⟨v0, v1, v2, v3, d0, d1, d2, d3, p0, p1, p2, p3, rfl, rfl, rfl, h0, h1, h2, h3⟩ := trodAll_four hA'
    obtain ⟨A0, ln0, cp0, rfl⟩ := okWide_slice Tryz.underlying22 (hval' 0 _ v0 rfl rfl)
    obtain ⟨z1, rfl⟩ := okWide_string Tryz.underlying9 (hval' 1 _ v1 rfl rfl)
    obtain ⟨z2, rfl⟩ := okWide_string Tryz.underlying9 (hval' 2 _ v2 rfl rfl)
    obtain ⟨z3, rfl⟩ := okWide_string Tryz.underlying9 (hval' 3 _ v3 rfl rfl)
    obtain ⟨x0, q0, r0⟩ := arg_open (T := tt) shEvs_eq h0 (fun n hn => bulk_weights rfl closed_T hz (by decide +kernel) List.mem_cons_self hn) rfl
    obtain ⟨l, rfl, hlen, hin⟩ := evs_ofD q0
    obtain ⟨x1, q1, r1⟩ := arg_open (T := tt) shStr_eq h1 (fun n hn => bulk_weights rfl closed_T hz (by decide +kernel) (List.mem_cons_of_mem _ List.mem_cons_self) hn) rfl
    obtain ⟨s1, rfl, hs1⟩ := str_of q1
    obtain ⟨x2, q2, r2⟩ := arg_open (T := tt) shStr_eq h2 (fun n hn => bulk_weights rfl closed_T hz (by decide +kernel) (List.mem_cons_of_mem _ (List.mem_cons_of_mem _ List.mem_cons_self)) hn) rfl
    obtain ⟨s2, rfl, hs2⟩ := str_of q2
    obtain ⟨x3, q3, r3⟩ := arg_open (T := tt) shStr_eq h3 (fun n hn => bulk_weights rfl closed_T hz (by decide +kernel) (List.mem_cons_of_mem _ (List.mem_cons_of_mem _ (List.mem_cons_of_mem _ List.mem_cons_self))) hn) rfl
    obtain ⟨s3, rfl, hs3⟩ := str_of q3
    refine calls_of_AT (vs := [.slice A0 ln0 cp0, .string z1, .string z2, .string z3]) (fun zt hzt => law_changes_T l s1 s2 s3 (fun e he => (hin e he).locs) (fun e he => (hin e he).md) (by omega) zt hzt) (tab_ofD hL) ⟨rfl, fun j s v e1 e2 => ?_, fun _ h => h⟩
    match j with
    | 0 => simp at e1 e2; subst e1 e2; exact r0 rho0
    | 1 => simp at e1 e2; subst e1 e2; exact r1 rho0
    | 2 => simp at e1 e2; subst e1 e2; exact r2 rho0
    | 3 => simp at e1 e2; subst e1 e2; exact r3 rho0
    | j + 4 => simp at e1
theorem dchanges_said : Rows.DebuggerChangesMatchSpecUptoSaid :=
  OpenClaim.holds_of_cond 10 Tryz.f10 rfl rfl rfl rfl rfl rfl rfl ⟨rfl, rfl, rfl, rfl, rfl⟩ rfl rfl rfl rfl rfl (by kernel_rfl) Tryz.func10 dchanges_closed
    (of_decide_eq_true (by kernel_rfl)) (by unfold Func.isWrapper; first | (rw [if_pos (by decide +kernel)]; kernel_rfl) | (rw [if_neg (by decide +kernel)]; exact ⟨rfl, rfl⟩))
    (fun os started H enc _ F => by rw [OpenClaim.pre_eq_preRow]; exact dchanges_lifted os started H enc F)
theorem dchanges_plain (f : FuncId) (fn : Func) (hf : Tryz.pinned.checked.prog.funcNamed "brindlewood/brindlewoodlaw6.DebuggerChangesMatchSpec" = some f) (hfn : Tryz.pinned.checked.prog.funcs[f]? = some fn) :
    true = Tryz.pinned.checked.prog.looks [] ∧ ∀ (j : Nat) t, fn.params[j]? = some t → Tryz.pinned.checked.prog.wantsStandIn t = false := by
  obtain rfl : f = 10 := Option.some.inj ((show Tryz.prog.funcNamed "brindlewood/brindlewoodlaw6.DebuggerChangesMatchSpec" = some 10 by kernel_rfl).symm.trans hf) |>.symm
  obtain rfl : fn = Tryz.f10 := (Option.some.inj (Tryz.func10.symm.trans hfn)).symm
  refine ⟨by kernel_rfl, fun j t ht => ?_⟩
  rw [Tryz.params10] at ht
  have hm := Array.mem_of_getElem? ht
  simp only [List.mem_toArray, List.mem_cons, List.not_mem_nil, or_false] at hm
  rcases hm with rfl | rfl | rfl | rfl
  · exact (show Tryz.prog.wantsStandIn 22 = false by kernel_rfl)
  · exact (show Tryz.prog.wantsStandIn 9 = false by kernel_rfl)
  · exact (show Tryz.prog.wantsStandIn 9 = false by kernel_rfl)
  · exact (show Tryz.prog.wantsStandIn 9 = false by kernel_rfl)
theorem dchanges_holds : Rows.DebuggerChangesMatchSpecUptoCardSaid :=
  Claim7.holds_tied_plain_at .later [] _ _ _ _ dchanges_said (fun _ h => by cases h) (by kernel_rfl) (fun _ h => by cases h) debuggerChangesMatchSpecUpto_row_tie rfl ⟨rfl, rfl⟩ (by kernel_rfl) rfl dchanges_plain (by kernel_rfl)
#print axioms dchanges_holds
end Go.Proofs.YtabmcfnefjipbaaGreatDoor
