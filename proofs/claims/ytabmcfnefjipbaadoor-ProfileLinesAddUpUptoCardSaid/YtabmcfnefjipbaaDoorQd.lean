/-
  ProfileLinesAddUp, where what it reads is of bulk at most 1048576: for all traces and fuels the law returns true, and the traces read afterwards as they read before. The tables of the library that are read are listed and tied to its text.
-/
import Derived.Test.YtabmcfnefjipbaaDoorQ13
import Derived.Test.YtabmcfnefjipbaaDoorCards
import Derived.Test.YtabmcfnefjipbaaDoorTie
import Derived.SevenTiedAt
set_option linter.unusedVariables false
set_option linter.unusedSimpArgs false
namespace Go.Proofs.YtabmcfnefjipbaaDoor
open Go.ChangeShapes Go.WideShapes Go.ChangeAt Go.RowKit
set_option maxRecDepth 100000 in
theorem ladds_lifted (os : Os) (started : os.Started) (H : Type) (enc : TypeId × Value → H) (F : Stop.Interp) :
    ReturnsInHanded {} Tryd.checked os 6 .any ((Rows.OpenSpec.upto Rows.profileLinesAddUpSpec).preRow enc Tryd.prog Tryd.f6 Rows.profileLinesAddUpUptoRow.domain false Rows.profileLinesAddUpUptoRow.laid) (((Rows.OpenSpec.upto Rows.profileLinesAddUpSpec).at F).post enc Tryd.prog Tryd.f6 false true false false) := by
  have hx : ∃ places, DataW.whole enc Tryd.prog ((laidWorld os).forCall (fun _ _ => 0) ⟨#[], #[.slice none 0 0, .int .i64 0], []⟩).memory Tryd.f6.params.toList Rows.profileLinesAddUpSpec.vars false #[Value.slice none 0 0, Value.int .i64 0].toList 8 = some ([.nil, .lit (.int .i64 0)], [], places) := ⟨[], by kernel_rfl⟩
  obtain ⟨places, hx⟩ := hx
  refine law_liftedL (C := Tryd.checked) (s := Rows.profileLinesAddUpSpec) (tb := 4) started H enc F own_knob (by kernel_rfl) Tryd.func6
    (witness_row_at (enc := enc) (C := Tryd.checked) false (laidWorld os) #[.slice none 0 0, .int .i64 0] rfl (by kernel_rfl) (by kernel_rfl) (by kernel_rfl)
      (OpenSpec.preRow_of_cond 8 hx (by kernel_rfl) (fun k hk => by cases hk; kernel_rfl) (by kernel_rfl) (laid_met os _)))
    laid_out (by kernel_rfl) (by kernel_rfl) Tryd.underlying4 rfl ?_ ?_
  · intro ds hl
    match ds, hl with
    | [d, d'], _ => rfl
  · intro W base args ds p hval hA hp hz hL
    have hval' : ∀ (j : Nat) t v, Tryd.f6.params[j]? = some t → args[j]? = some v → Value.okWide Tryd.prog W .any base t v := hval
    have hA' : DataW.TrodAll enc Tryd.prog W 0 (fun _ => true) true Tryd.f6.params.toList args.toList ds p := hA
    rw [Tryd.params6] at hA' hval'
    obtain ⟨v0, v1, d0, d1, p0, p1, rfl, rfl, rfl, h0, h1⟩ := trodAll_two hA'
    obtain ⟨A0, l0, c0, rfl⟩ := okWide_slice Tryd.underlying22 (hval' 0 _ v0 rfl rfl)
    obtain ⟨n1, rfl, _, _, hwf⟩ := open_int Tryd.underlying3 (hval' 1 3 v1 rfl rfl) h1
    obtain ⟨x, q1, q2⟩ := arg_open (T := tt) shEvs_eq h0 (fun n hn => bulk_weights rfl closed_T hz (by decide +kernel) List.mem_cons_self hn) rfl
    obtain ⟨l, rfl, _, hsz⟩ := evs_of q1
    have hx : n1 ≤ 9223372036854775807 := by
      simp only [Lit.wf, Bool.and_eq_true, decide_eq_true_eq] at hwf
      exact hwf.2
    refine calls_of_AT (vs := [.slice A0 l0 c0, .int .i64 n1]) (fun zt hzt => law_ladds_T l n1 hsz hx zt hzt) (tab_of hL) ⟨rfl, fun j s v e1 e2 => ?_, fun _ h => h⟩
    match j with
    | 0 => simp at e1 e2; subst e1 e2; exact q2 rho0
    | 1 => simp at e1 e2; subst e1 e2; exact .d (.u (.int _ _))
    | j + 2 => simp at e1
theorem ladds_said : Rows.ProfileLinesAddUpUptoSaid :=
  OpenClaim.holds_of_cond 6 Tryd.f6 rfl rfl rfl rfl rfl rfl rfl ⟨rfl, rfl, rfl, rfl, rfl⟩ rfl rfl rfl rfl rfl (by kernel_rfl) Tryd.func6 (by kernel_rfl)
    (of_decide_eq_true (by kernel_rfl)) (by unfold Func.isWrapper; first | (rw [if_pos (by decide +kernel)]; kernel_rfl) | (rw [if_neg (by decide +kernel)]; exact ⟨rfl, rfl⟩))
    (fun os started H enc _ F => by rw [OpenClaim.pre_eq_preRow]; exact ladds_lifted os started H enc F)
theorem ladds_plain (f : FuncId) (fn : Func) (hf : Tryd.pinned.checked.prog.funcNamed "brindlewood/brindlewoodlaw6.ProfileLinesAddUp" = some f) (hfn : Tryd.pinned.checked.prog.funcs[f]? = some fn) :
    false = Tryd.pinned.checked.prog.looks [] ∧ ∀ (j : Nat) t, fn.params[j]? = some t → Tryd.pinned.checked.prog.wantsStandIn t = false := by
  obtain rfl : f = 6 := Option.some.inj ((show Tryd.prog.funcNamed "brindlewood/brindlewoodlaw6.ProfileLinesAddUp" = some 6 by kernel_rfl).symm.trans hf) |>.symm
  obtain rfl : fn = Tryd.f6 := (Option.some.inj (Tryd.func6.symm.trans hfn)).symm
  refine ⟨by kernel_rfl, fun j t ht => ?_⟩
  rw [Tryd.params6] at ht
  have hm := Array.mem_of_getElem? ht
  simp only [List.mem_toArray, List.mem_cons, List.not_mem_nil, or_false] at hm
  rcases hm with rfl | rfl
  · exact (show Tryd.prog.wantsStandIn 22 = false by kernel_rfl)
  · exact (show Tryd.prog.wantsStandIn 3 = false by kernel_rfl)
theorem ladds_holds : Rows.ProfileLinesAddUpUptoCardSaid :=
  Claim7.holds_tied_plain_at .later [] _ _ _ _ ladds_said (fun _ h => by cases h) (by kernel_rfl) (fun _ h => by cases h) profileLinesAddUpUpto_row_tie rfl ⟨rfl, rfl⟩ (by kernel_rfl) rfl ladds_plain (by kernel_rfl)
#print axioms ladds_holds
end Go.Proofs.YtabmcfnefjipbaaDoor
