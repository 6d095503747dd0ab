/-
  Part 11 of the proofs of costs_holds, lines_holds, adds_holds, ladds_holds: laws and contracts that they need.
-/
import Derived.Test.YtabmcfnefjipbaaDoorQ10
import Derived.Test.YtabmcfnefjipbaaDoorRows
import Derived.ProofKit
import Derived.Carry
import Derived.SizedLaws
import Derived.Deep.Slices
import Derived.Deep.Fields
import Derived.ChangeSame
import Derived.Lib.SmallJoins
set_option linter.unusedVariables false
set_option linter.unusedSimpArgs false
namespace Go.Proofs.YtabmcfnefjipbaaDoor
open Go.RowKit
theorem nest_check : checkM nestL 6 = (0, 0) := by kernel_rfl
theorem nest_costs : costsM nestL 6 = [⟨mainB, moduleB, 1, 1, 0, 0, 3, 6⟩, ⟨mainB, fB, 1, 1, 0, 1, 3, 3⟩] := by kernel_rfl
theorem nest_lines0 : linesAt nestL 6 nestL.length = [⟨mainB, 0, 0, 4⟩, ⟨mainB, 7, 1, 2⟩] := by kernel_rfl
theorem nest_lines : linesM nestL 6 = [⟨mainB, 0, 0, 4⟩, ⟨mainB, 7, 1, 2⟩] := by
  unfold linesM
  have hp := srtL_perm (linesAt nestL 6 nestL.length)
  have hs := srtL_sorted (linesAt nestL 6 nestL.length)
  have hn := (hp.map Lc.pl).nodup_iff.2 (lines_nd (l := nestL) (fuel := 6) nestL.length)
  generalize srtL (linesAt nestL 6 nestL.length) = x at *
  rw [nest_lines0] at hp
  refine sorted_uniq hp hn hs ?_
  simp only [List.pairwise_cons, List.mem_cons, List.not_mem_nil, or_false, forall_eq, List.Pairwise.nil, and_true, false_implies, implies_true]
  rw [ltLf]
  exact .inr ⟨cmpB_self _, by decide⟩
theorem itoa3 : itoaB 3 = ByteArray.mk #[51] := by
  unfold itoaB Lib.itoa
  rw [if_neg (by omega), show (3 : Int).toNat = 3 from rfl, Lib.decDigits, dif_pos (by omega)]
  rfl
theorem nest_stacks0 : stacksAt nestL 6 nestL.length = [⟨ByteArray.mk #[], 0⟩, ⟨ByteArray.mk #[109, 97, 105, 110, 58, 109, 111, 100, 117, 108, 101], 3⟩, ⟨ByteArray.mk #[109, 97, 105, 110, 58, 109, 111, 100, 117, 108, 101, 59, 109, 97, 105, 110, 58, 102], 3⟩] := by kernel_rfl
theorem nest_stacks : stacksM nestL 6 = [ByteArray.mk #[109, 97, 105, 110, 58, 109, 111, 100, 117, 108, 101, 32, 51], ByteArray.mk #[109, 97, 105, 110, 58, 109, 111, 100, 117, 108, 101, 59, 109, 97, 105, 110, 58, 102, 32, 51]] := by
  unfold stacksM
  rw [nest_stacks0]
  simp only [List.filter_cons, List.filter_nil, List.map_cons, List.map_nil, outS, itoa3]
  kernel_rfl
theorem evs_nm (l : List Ev) (fuel : Int) : ∀ s ∈ [SV.d (.u (evs l)), di fuel], NmS s := by
  intro s hs
  simp only [List.mem_cons, List.not_mem_nil, or_false] at hs
  rcases hs with rfl | rfl
  · refine ⟨_, rfl, .sl fun r hr x hx => ?_⟩
    obtain ⟨e, _, rfl⟩ := List.mem_map.1 hr
    simp only [Ev.row, List.mem_cons, List.not_mem_nil, or_false] at hx
    rcases hx with rfl | rfl | rfl | rfl | rfl | rfl | rfl | rfl
    all_goals first | (constructor; done) | skip
    refine .sl fun r hr x hx => ?_
    obtain ⟨p, _, rfl⟩ := List.mem_map.1 hr
    simp only [List.mem_cons, List.not_mem_nil, or_false] at hx
    rcases hx with rfl | rfl <;> constructor
  · exact ⟨_, rfl, by constructor⟩
theorem nos_own (k n : Nat) : NoS (.t [.d (.ow k n), .a [.u (.int .i64 0), .u (.int .i64 0)]]) := fun s hs => by
  simp only [List.mem_cons, List.not_mem_nil, or_false] at hs
  rcases hs with rfl | rfl
  · exact .inr ⟨_, _, rfl⟩
  · intro x hx
    simp only [List.mem_cons, List.not_mem_nil, or_false] at hx
    rcases hx with rfl | rfl <;> exact .inl ⟨_, rfl, .int⟩
/-- Lines, its answer by a name of one's own. -/
theorem lines_own {l : List Ev} {fuel : Int} (hc : checkM l fuel = (0, 0)) (hx : fuel ≤ 9223372036854775807) : CallsA Tryd.prog 13 [.d (.u (evs l)), di fuel] [] (Iso (.t [.d (.ow 911 (linesM l fuel).length), .a [.u (.int .i64 0), .u (.int .i64 0)]]) [(911, .ar 40 4 ((linesM l fuel).map lcR))]) :=
  CallsA.renO (CallsA.hideO [(905, 40)] (evs_nm l fuel) (nos_own _ _) (fun p hp => by
    simp at hp
    subst hp
    refine ⟨_, _, _, rfl, fun r hr x hx => ?_⟩
    obtain ⟨a, _, rfl⟩ := List.mem_map.1 hr
    simp only [List.mem_cons, List.not_mem_nil, or_false] at hx
    rcases hx with rfl | rfl | rfl | rfl
    · exact .str
    · exact .int
    · exact .int
    · exact .int) (lines_ok hc hx)) [(911, .k 901)] (by first | exact LeS.d (by first | exact LeD.u rfl | exact LeD.p rfl | exact LeD.ow rfl rfl | exact LeD.ow rfl (by simp) | exact LeD.no rfl rfl | exact LeD.nl (by first | rfl | simp) | exact LeD.u (by simp; done) | exact LeD.u (by congr 1; omega) | exact LeD.q rfl | exact LeD.r rfl | exact LeD.r (by simp; done) | exact LeD.re | exact LeD.mp rfl | exact LeD.ows rfl rfl rfl | exact LeD.u (by congr 1; congr 1; simp) | exact LeD.fn (by repeat (first | exact LeN.nil | refine LeN.cons rfl ?_))) | exact LeS.a (by repeat (first | exact LeL.nil | refine LeL.cons (by first | exact LeD.u rfl | exact LeD.p rfl | exact LeD.ow rfl rfl | exact LeD.ow rfl (by simp) | exact LeD.no rfl rfl | exact LeD.nl (by first | rfl | simp) | exact LeD.u (by simp; done) | exact LeD.u (by congr 1; omega) | exact LeD.q rfl | exact LeD.r rfl | exact LeD.r (by simp; done) | exact LeD.re | exact LeD.mp rfl | exact LeD.ows rfl rfl rfl | exact LeD.u (by congr 1; congr 1; simp) | exact LeD.fn (by repeat (first | exact LeN.nil | refine LeN.cons rfl ?_))) ?_)) | exact LeS.ts (by repeat (first | exact LeCs.nil | refine LeCs.cons (by first | exact LeC.d (by first | exact LeD.u rfl | exact LeD.p rfl | exact LeD.ow rfl rfl | exact LeD.ow rfl (by simp) | exact LeD.no rfl rfl | exact LeD.nl (by first | rfl | simp) | exact LeD.u (by simp; done) | exact LeD.u (by congr 1; omega) | exact LeD.q rfl | exact LeD.r rfl | exact LeD.r (by simp; done) | exact LeD.re | exact LeD.mp rfl | exact LeD.ows rfl rfl rfl | exact LeD.u (by congr 1; congr 1; simp) | exact LeD.fn (by repeat (first | exact LeN.nil | refine LeN.cons rfl ?_))) | exact LeC.a (by repeat (first | exact LeL.nil | refine LeL.cons (by first | exact LeD.u rfl | exact LeD.p rfl | exact LeD.ow rfl rfl | exact LeD.ow rfl (by simp) | exact LeD.no rfl rfl | exact LeD.nl (by first | rfl | simp) | exact LeD.u (by simp; done) | exact LeD.u (by congr 1; omega) | exact LeD.q rfl | exact LeD.r rfl | exact LeD.r (by simp; done) | exact LeD.re | exact LeD.mp rfl | exact LeD.ows rfl rfl rfl | exact LeD.u (by congr 1; congr 1; simp) | exact LeD.fn (by repeat (first | exact LeN.nil | refine LeN.cons rfl ?_))) ?_))) ?_))) (by repeat (first | exact LeO.nil | refine LeO.bx rfl rfl (by repeat (first | exact LeL.nil | refine LeL.cons (by first | exact LeD.u rfl | exact LeD.p rfl | exact LeD.ow rfl rfl | exact LeD.ow rfl (by simp) | exact LeD.no rfl rfl | exact LeD.nl (by first | rfl | simp) | exact LeD.u (by simp; done) | exact LeD.u (by congr 1; omega) | exact LeD.q rfl | exact LeD.r rfl | exact LeD.r (by simp; done) | exact LeD.re | exact LeD.mp rfl | exact LeD.ows rfl rfl rfl | exact LeD.u (by congr 1; congr 1; simp) | exact LeD.fn (by repeat (first | exact LeN.nil | refine LeN.cons rfl ?_))) ?_)) ?_ | refine LeO.ar rfl rfl (by first | rfl | simp) ?_ | refine LeO.ab rfl rfl (by repeat (first | exact LeL.nil | refine LeL.cons (by first | exact LeD.u rfl | exact LeD.p rfl | exact LeD.ow rfl rfl | exact LeD.ow rfl (by simp) | exact LeD.no rfl rfl | exact LeD.nl (by first | rfl | simp) | exact LeD.u (by simp; done) | exact LeD.u (by congr 1; omega) | exact LeD.q rfl | exact LeD.r rfl | exact LeD.r (by simp; done) | exact LeD.re | exact LeD.mp rfl | exact LeD.ows rfl rfl rfl | exact LeD.u (by congr 1; congr 1; simp) | exact LeD.fn (by repeat (first | exact LeN.nil | refine LeN.cons rfl ?_))) ?_)) (by first | rfl | simp) ?_ | refine LeO.fa rfl rfl (by first | rfl | simp) ?_ | refine LeO.fm rfl (by first | rfl | simp) ?_ | refine LeO.mp rfl rfl (by first | rfl | simp) ?_ | refine LeO.no rfl rfl ?_))
set_option maxHeartbeats 2000000 in
theorem profiled_T (zt : Fz) (hz : Tab zt) : CallsA Tryd.prog 11 [] [(907, tbOb zt)] (Iso (db true) [(907, tbOb zt)]) := by
  have h1 := nested_T
  have h2 := costs_ok (l := nestL) (fuel := 6) nest_check (by omega)
  have h3 := lines_own (l := nestL) (fuel := 6) nest_check (by omega)
  have h4 := stacks_ok (l := nestL) (fuel := 6) nest_check (by omega) zt hz
  rw [nest_costs] at h2
  rw [nest_lines] at h3
  rw [nest_stacks] at h4
  have h5 := strings_R [ByteArray.mk #[109, 97, 105, 110, 58, 109, 111, 100, 117, 108, 101, 32, 51], ByteArray.mk #[109, 97, 105, 110, 58, 109, 111, 100, 117, 108, 101, 59, 109, 97, 105, 110, 58, 102, 32, 51]] [ByteArray.mk #[109, 97, 105, 110, 58, 109, 111, 100, 117, 108, 101, 32, 51], ByteArray.mk #[109, 97, 105, 110, 58, 109, 111, 100, 117, 108, 101, 59, 109, 97, 105, 110, 58, 102, 32, 51]]
  rw [decide_eq_true rfl] at h5
  refine callsA_of_vcO (T := tt) Tryd.func11 rfl rfl rfl rfl rfl ?_
  repeat' ((conv => whnf); first | refine Gs.id ?_ | with_reducible refine And.intro ?_ ?_ | with_reducible refine Brn.T rfl ?_ | with_reducible refine Brn.F rfl ?_ | refine Brn.T (by (try simp only [smT]); first | rfl | assumption | omega | (simp only [*]; done) | (simp [*]; done) | fail) ?_ | refine Brn.F (by (try simp only [smT]); first | rfl | assumption | omega | (simp only [*]; done) | (simp [*]; done) | fail) ?_ | (refine Brn.mk (fun hb => ?_) (fun hb => ?_) <;> (try simp only [smT] at hb) <;> (try (exact absurd trivial hb)) <;> (try (exfalso; omega))) | (refine Bnd.mk (fun hm => ?_); (try simp only [smT] at hm)) | refine Rng.mk (by (try simp only [smT]); omega) ?_ | refine Ix.map rfl (by (try simp only [smT]); omega) ?_ | refine Ix.map (m := 0) rfl (by (try simp only [smT]); omega) ?_ | refine Ix.lit (m := 0) rfl rfl ?_ | refine Ixo.mk ⟨_, rfl, (by (try simp only [smT]); omega), ?_⟩ | refine Rw.lit rfl ?_ | refine Rw.self (by (try simp only [smT]); omega) ?_ | refine Rw.map (by (try simp only [smT]); omega) ?_ | refine Len.mk (by first | rfl | (simp; done) | (simp only [smT]; assumption) | (simp only [smT]; omega)) ?_ | refine Eqv.mk (by kernel_rfl) ?_ | refine Apd.mk (by first | rfl | simp) (by first | rfl | simp) (by (try simp only [smT]); first | omega | (simp; omega)) (by unfold maxLen; first | (simp; done) | (simp; omega) | omega) ?_ | refine Raw.capNil (T := tt) rfl rfl rfl rfl ?_ | refine Raw.sliceNil (T := tt) rfl rfl (by first | rfl | omega | (simp; done)) rfl rfl rfl rfl ?_ | refine Raw.makeMap (T := tt) rfl rfl rfl rfl rfl rfl (.inl rfl) rfl rfl ?_ | refine Raw.mapUpdate (T := tt) (.inl rfl) rfl rfl rfl rfl rfl rfl rfl rfl rfl rfl rfl (by assumption) ?_ | refine Pm.mk (by first | assumption | omega | (simp; done) | (simp; omega)) (by first | assumption | omega | (simp; done) | (simp; omega)) ?_ | (refine Raw.appendR (T := tt) ?_; (conv => whnf); first | refine Rw.lit rfl ?_ | refine Rw.self (by (try simp only [smT]); omega) ?_ | refine Rw.map (by (try simp only [smT]); omega) ?_) | refine Raw.appendIn (T := tt) rfl rfl rfl rfl rfl rfl rfl rfl rfl rfl (by (try simp only [smT]); omega) (by (try simp only [smT]); omega) ?_ | refine Raw.clear (T := tt) rfl rfl rfl rfl rfl rfl rfl (by (try simp only [smT]); omega) ?_ | refine Slc.mk ⟨_, _, rfl, rfl, (by (try simp only [smT]); omega), (by (try simp only [smT]); omega), ?_⟩ | refine Slc.mk ⟨0, _, rfl, rfl, (by (try simp only [smT]); omega), (by (try simp only [smT]); omega), ?_⟩ | refine Slc.mk ⟨1, _, rfl, rfl, (by (try simp only [smT]); omega), (by (try simp only [smT]); omega), ?_⟩ | refine Slc3.mk ⟨_, _, _, rfl, rfl, rfl, (by (try simp only [smT]); omega), (by (try simp only [smT]); omega), (by (try simp only [smT]); omega)⟩ ?_ | refine Raw.mapUpdateS (T := tt) (.inl rfl) rfl rfl rfl rfl rfl rfl rfl rfl rfl rfl rfl rfl rfl (by kernel_rfl) (by assumption) ?_ | refine Raw.faStoreV (T := tt) rfl rfl rfl rfl rfl rfl (by first | rfl | assumption | exact fa_get (by first | assumption | (simp; done) | (simp; omega))) rfl (by first | exact .inl ⟨_, rfl⟩ | exact .inr rfl) ?_ | refine Raw.faStoreO (T := tt) rfl rfl rfl rfl rfl rfl rfl rfl (by first | rfl | assumption | exact fa_get (by first | assumption | (simp; done) | (simp; omega))) rfl ?_ | refine Raw.faStoreRe (T := tt) rfl rfl rfl rfl rfl rfl rfl rfl (by first | rfl | assumption | exact fa_get (by first | assumption | (simp; done) | (simp; omega))) rfl (by first | rfl | assumption | exact fa_get (by first | assumption | (simp; done) | (simp; omega))) (by (try simp only [smT]); omega) ?_ | refine Raw.faAppend (T := tt) rfl rfl rfl rfl rfl rfl rfl rfl rfl rfl rfl rfl rfl (by first | rfl | assumption | exact fa_get (by first | assumption | (simp; done) | (simp; omega))) rfl rfl ?_ | refine Raw.faCopy (T := tt) rfl rfl rfl rfl rfl rfl rfl rfl rfl rfl rfl rfl rfl rfl ?_ | (refine CL.mk (Or.inl ?_); (conv => whnf); first | refine Cl.is (h1) rfl (by first | exact fun _ => rfl | (intro e; cases e; done) | fail) ?_ | refine Cl.is (h5) rfl (by first | exact fun _ => rfl | (intro e; cases e; done) | fail) ?_) | (refine CL.mk (Or.inl ?_); (conv => whnf); refine ClO.mk (Or.inl ?_); (repeat ((conv => whnf); refine Len.mk (by first | rfl | (simp; done) | (simp only [smT]; assumption) | (simp only [smT]; omega)) ?_)); (conv => whnf); first | refine Cl.is (h1) rfl (by first | exact fun _ => rfl | (intro e; cases e; done) | fail) ?_ | refine Cl.is (h5) rfl (by first | exact fun _ => rfl | (intro e; cases e; done) | fail) ?_) | (refine CL.mk (Or.inl ?_); (conv => whnf); refine ClO.mk (Or.inr ?_); (repeat ((conv => whnf); refine Len.mk (by first | rfl | (simp; done) | (simp only [smT]; assumption) | (simp only [smT]; omega)) ?_)); (conv => whnf); first | refine Cl.is (h1) rfl (by first | exact fun _ => rfl | (intro e; cases e; done) | fail) ?_ | refine Cl.is (h5) rfl (by first | exact fun _ => rfl | (intro e; cases e; done) | fail) ?_) | (refine CL.mk (Or.inr (Raw.callI [] [901] rfl rfl rfl rfl rfl rfl rfl (h2) ?_)); rintro _ _ ⟨rfl, rfl⟩; refine Bk.mk rfl rfl ?_) | (refine CL.mk (Or.inr (Raw.callI [] [911] rfl rfl rfl rfl rfl rfl rfl (h3) ?_)); rintro _ _ ⟨rfl, rfl⟩; refine Bk.mk rfl rfl ?_) | (refine CL.mk (Or.inr (Raw.callI [907] [907,908] rfl rfl rfl rfl rfl rfl rfl (h4) ?_)); rintro _ _ ⟨rfl, rfl⟩; refine Bk.mk rfl rfl ?_))
  all_goals (conv => whnf)
  all_goals refine RetO.mk ⟨[(907, .k 907)], _, _, (by first | exact LeS.d (by first | exact LeD.u rfl | exact LeD.p rfl | exact LeD.ow rfl rfl | exact LeD.ow rfl (by simp) | exact LeD.no rfl rfl | exact LeD.nl (by first | rfl | simp) | exact LeD.u (by simp; done) | exact LeD.u (by congr 1; omega) | exact LeD.q rfl | exact LeD.r rfl | exact LeD.r (by simp; done) | exact LeD.re | exact LeD.mp rfl | exact LeD.ows rfl rfl rfl | exact LeD.u (by congr 1; congr 1; simp) | exact LeD.fn (by repeat (first | exact LeN.nil | refine LeN.cons rfl ?_))) | exact LeS.a (by repeat (first | exact LeL.nil | refine LeL.cons (by first | exact LeD.u rfl | exact LeD.p rfl | exact LeD.ow rfl rfl | exact LeD.ow rfl (by simp) | exact LeD.no rfl rfl | exact LeD.nl (by first | rfl | simp) | exact LeD.u (by simp; done) | exact LeD.u (by congr 1; omega) | exact LeD.q rfl | exact LeD.r rfl | exact LeD.r (by simp; done) | exact LeD.re | exact LeD.mp rfl | exact LeD.ows rfl rfl rfl | exact LeD.u (by congr 1; congr 1; simp) | exact LeD.fn (by repeat (first | exact LeN.nil | refine LeN.cons rfl ?_))) ?_)) | exact LeS.ts (by repeat (first | exact LeCs.nil | refine LeCs.cons (by first | exact LeC.d (by first | exact LeD.u rfl | exact LeD.p rfl | exact LeD.ow rfl rfl | exact LeD.ow rfl (by simp) | exact LeD.no rfl rfl | exact LeD.nl (by first | rfl | simp) | exact LeD.u (by simp; done) | exact LeD.u (by congr 1; omega) | exact LeD.q rfl | exact LeD.r rfl | exact LeD.r (by simp; done) | exact LeD.re | exact LeD.mp rfl | exact LeD.ows rfl rfl rfl | exact LeD.u (by congr 1; congr 1; simp) | exact LeD.fn (by repeat (first | exact LeN.nil | refine LeN.cons rfl ?_))) | exact LeC.a (by repeat (first | exact LeL.nil | refine LeL.cons (by first | exact LeD.u rfl | exact LeD.p rfl | exact LeD.ow rfl rfl | exact LeD.ow rfl (by simp) | exact LeD.no rfl rfl | exact LeD.nl (by first | rfl | simp) | exact LeD.u (by simp; done) | exact LeD.u (by congr 1; omega) | exact LeD.q rfl | exact LeD.r rfl | exact LeD.r (by simp; done) | exact LeD.re | exact LeD.mp rfl | exact LeD.ows rfl rfl rfl | exact LeD.u (by congr 1; congr 1; simp) | exact LeD.fn (by repeat (first | exact LeN.nil | refine LeN.cons rfl ?_))) ?_))) ?_))), (by repeat (first | exact LeO.nil | refine LeO.bx rfl rfl (by repeat (first | exact LeL.nil | refine LeL.cons (by first | exact LeD.u rfl | exact LeD.p rfl | exact LeD.ow rfl rfl | exact LeD.ow rfl (by simp) | exact LeD.no rfl rfl | exact LeD.nl (by first | rfl | simp) | exact LeD.u (by simp; done) | exact LeD.u (by congr 1; omega) | exact LeD.q rfl | exact LeD.r rfl | exact LeD.r (by simp; done) | exact LeD.re | exact LeD.mp rfl | exact LeD.ows rfl rfl rfl | exact LeD.u (by congr 1; congr 1; simp) | exact LeD.fn (by repeat (first | exact LeN.nil | refine LeN.cons rfl ?_))) ?_)) ?_ | refine LeO.ar rfl rfl (by first | rfl | simp) ?_ | refine LeO.ab rfl rfl (by repeat (first | exact LeL.nil | refine LeL.cons (by first | exact LeD.u rfl | exact LeD.p rfl | exact LeD.ow rfl rfl | exact LeD.ow rfl (by simp) | exact LeD.no rfl rfl | exact LeD.nl (by first | rfl | simp) | exact LeD.u (by simp; done) | exact LeD.u (by congr 1; omega) | exact LeD.q rfl | exact LeD.r rfl | exact LeD.r (by simp; done) | exact LeD.re | exact LeD.mp rfl | exact LeD.ows rfl rfl rfl | exact LeD.u (by congr 1; congr 1; simp) | exact LeD.fn (by repeat (first | exact LeN.nil | refine LeN.cons rfl ?_))) ?_)) (by first | rfl | simp) ?_ | refine LeO.fa rfl rfl (by first | rfl | simp) ?_ | refine LeO.fm rfl (by first | rfl | simp) ?_ | refine LeO.mp rfl rfl (by first | rfl | simp) ?_ | refine LeO.no rfl rfl ?_)), rfl, rfl⟩
end Go.Proofs.YtabmcfnefjipbaaDoor
namespace Go.Proofs.YtabmcfnefjipbaaDoor
open Go.RowKit
def stepI (e : Ev) (i : Nat) (ix : List Nat) : List Nat := if e.kind = 2 then ix ++ [i] else if e.kind ≠ 1 then ix.dropLast else ix
/-- The reference's stack behind n events. -/
def stkI (l : List Ev) : Nat → List Nat
  | 0 => []
  | n + 1 => match l[n]? with
    | some e => stepI e n (stkI l n)
    | none => stkI l n
theorem stkI_succ {l : List Ev} {i : Nat} {e : Ev} (h : l[i]? = some e) : stkI l (i + 1) = stepI e i (stkI l i) := by rw [stkI, h]
theorem stkI_lt {l : List Ev} : ∀ n, ∀ j ∈ stkI l n, j < n ∧ j < l.length
  | 0, j, h => by simp [stkI] at h
  | n + 1, j, h => by
    have ih := stkI_lt (l := l) n
    rw [stkI] at h
    split at h
    · rename_i e he
      have hn := (List.getElem?_eq_some_iff.1 he).1
      unfold stepI at h
      split at h
      · rcases List.mem_append.1 h with h | h
        · have := ih j h; omega
        · simp at h; omega
      · split at h
        · have := ih j (List.dropLast_subset _ h); omega
        · have := ih j h; omega
    · have := ih j h; omega
theorem stkI_len {l : List Ev} : ∀ n, (stkI l n).length ≤ n
  | 0 => Nat.le_refl _
  | n + 1 => by
    have ih := stkI_len (l := l) n
    rw [stkI]
    split
    · unfold stepI
      split
      · simp; omega
      · split
        · simp; omega
        · omega
    · omega
set_option maxHeartbeats 2000000 in
theorem stack_R (l : List Ev) (n : Nat) (hn : n ≤ l.length) (hl : l.length ≤ 1000000000) : CallsA Tryd.prog 27 [.d (.u (evs l)), di n] [] (Is (.d (.u (.sl 1 ((stkI l n).map ixR))))) := by
  refine callsA_of_vc (T := tt) Tryd.func27 rfl rfl rfl rfl rfl ?_
  repeat' ((conv => whnf); first | refine Gs.id ?_ | fail)
  all_goals (conv => whnf)
  refine ⟨⟨Nat, fun i => i ≤ n, fun i => n - i, fun i => ⟨[(0, .d (.u (evs l))), (1, di n), (5, .d (.ow 900 (stkI l i).length)), (6, di i)], [(900, .ar 3 1 ((stkI l i).map ixR))]⟩, 0, Nat.zero_le _, ⟨[(900, .n 1)], ⟨by (try dsimp only); (repeat (refine LeT.cons rfl (by first | exact LeS.d (by first | exact LeD.u rfl | exact LeD.no rfl rfl | fail) | fail) ?_)); exact LeT.nil, by (try dsimp only); repeat (first | exact LeO.nil | refine LeO.no rfl rfl ?_)⟩⟩, fun i hi => ?_⟩⟩
  dsimp only at hi ⊢
  by_cases h9 : i < n
  · have hil : i < l.length := by omega
    have hev : l[i]? = some l[i] := List.getElem?_eq_getElem hil
    have hst := stkI_succ hev
    have hlen := stkI_len (l := l) i
    have hrow : ∀ {K : List V → Prop} {j : Int}, j = (i : Int) → K (l[i]).row → Ix (l.map Ev.row) j K := fun h k => by subst h; exact Ix.map rfl hil k
    generalize l[i] = e at *
    by_cases h2 : e.kind = 2
    · rw [stepI, if_pos h2] at hst
      repeat' ((conv => whnf); first | refine hrow rfl ?_ | refine Gs.id ?_ | refine Brn.T (by (try simp only [smT]); first | rfl | assumption | omega | fail) ?_ | refine Rng.mk (by (try simp only [smT]); omega) ?_ | refine Apd.mk (by first | rfl | fail) (by first | rfl | simp) (by (try simp only [smT]); first | omega | fail) (by unfold maxLen; first | (simp; omega) | fail) ?_ | fail)
      all_goals (conv => whnf)
      all_goals exact ⟨i + 1, by omega, by omega, [(900, .k 23)], by rw [hst]; exact ⟨by (try dsimp only); (repeat (refine LeT.cons rfl (by first | exact LeS.d (by first | exact LeD.u rfl | exact LeD.ow rfl (by simp) | fail) | fail) ?_)); exact LeT.nil, by (try dsimp only); repeat (first | exact LeO.nil | refine LeO.ar rfl rfl (by first | simp) ?_ | fail)⟩⟩
    · rw [stepI, if_neg h2] at hst
      by_cases h1 : e.kind = 1
      · rw [if_neg (by simpa using h1)] at hst
        repeat' ((conv => whnf); first | refine hrow rfl ?_ | refine Gs.id ?_ | with_reducible refine Brn.F rfl ?_ | refine Brn.T (by (try simp only [smT]); first | rfl | omega | fail) ?_ | refine Brn.F (by (try simp only [smT]); first | rfl | assumption | fail) ?_ | refine Rng.mk (by (try simp only [smT]); omega) ?_ | fail)
        all_goals (conv => whnf)
        all_goals exact ⟨i + 1, by omega, by omega, [(900, .k 900)], by rw [hst]; exact ⟨by (try dsimp only); (repeat (refine LeT.cons rfl (by first | exact LeS.d (by first | exact LeD.u rfl | exact LeD.ow rfl rfl | fail) | fail) ?_)); exact LeT.nil, by (try dsimp only); repeat (first | exact LeO.nil | refine LeO.ar rfl rfl (by first | rfl | fail) ?_ | fail)⟩⟩
      · rw [if_pos h1] at hst
        generalize stkI l i = s at *
        rcases List.eq_nil_or_concat s with rfl | ⟨L, j, rfl⟩
        · repeat' ((conv => whnf); first | refine hrow rfl ?_ | refine Gs.id ?_ | with_reducible refine Brn.F rfl ?_ | refine Brn.T (by (try simp only [smT]); first | rfl | assumption | omega | fail) ?_ | refine Brn.F (by (try simp only [smT]); first | rfl | assumption | fail) ?_ | (refine Bnd.mk (fun hm => ?_); (try simp only [smT] at hm)) | refine Rng.mk (by (try simp only [smT]); omega) ?_ | fail)
          all_goals (conv => whnf)
          all_goals exact ⟨i + 1, by omega, by omega, [(900, .k 900)], by rw [hst]; exact ⟨by (try dsimp only); (repeat (refine LeT.cons rfl (by first | exact LeS.d (by first | exact LeD.u rfl | exact LeD.ow rfl rfl | fail) | fail) ?_)); exact LeT.nil, by (try dsimp only); repeat (first | exact LeO.nil | refine LeO.ar rfl rfl (by first | rfl | fail) ?_ | fail)⟩⟩
        · rw [List.concat_eq_append] at *
          have hsn : (((L ++ [j]).length : Nat) : Int) = (L.length : Int) + 1 := by simp
          rw [List.dropLast_concat] at hst
          repeat' ((conv => whnf); first | refine hrow rfl ?_ | refine Slc.mk ⟨0, L.length, rfl, by simp, by omega, by simp, ?_⟩ | refine Gs.id ?_ | refine Brn.T (by (try simp only [smT]); first | rfl | assumption | omega | fail) ?_ | refine Brn.F (by (try simp only [smT]); first | rfl | assumption | fail) ?_ | (refine Bnd.mk (fun hm => ?_); (try simp only [smT] at hm)) | refine Rng.mk (by (try simp only [smT]); omega) ?_ | fail)
          all_goals (conv => whnf)
          all_goals exact ⟨i + 1, by omega, by omega, [(900, .k 900)], by rw [hst]; exact ⟨(by (try dsimp only); (repeat (refine LeT.cons rfl (by first | exact LeS.d (by first | exact LeD.u rfl | exact LeD.ow rfl rfl | fail) | fail) ?_)); exact LeT.nil), .tr (m := L.length) rfl rfl (by simp) (by simp) .nil⟩⟩
  · obtain rfl : i = n := by omega
    repeat' ((conv => whnf); first | refine Gs.id ?_ | refine Brn.F (by (try simp only [smT]); first | rfl | omega | fail) ?_ | refine Len.mk (by first | rfl | (simp; done) | fail) ?_ | fail)
    all_goals (conv => whnf)
    all_goals first | exact Ret.is rfl | exact Ret.nl (by repeat (fail))
/-- The fuel at an event; ahead of all: at the first one. -/
theorem amount_R {l : List Ev} {fuel : Int} (t : Tr l fuel) (i : Nat) (hi : i < l.length) : CallsA Tryd.prog 28 [.d (.u (evs l)), di i, di fuel] [] (Is (di (amt l fuel i))) := by
  obtain ⟨e, he⟩ : ∃ e, l[i]? = some e := ⟨_, List.getElem?_eq_getElem hi⟩
  obtain ⟨n1, n2, n3, n4⟩ := t.next hi
  rw [fuelAt_succ he] at n2 n4
  have hmx := t.mx
  have hlen := t.len
  have ham : amt l fuel i = nextF l fuel i - e.fuel := by rw [amt, fuelAt_succ he]
  rw [ham]
  have hrow : ∀ {K : List V → Prop} {j : Int}, j = (i : Int) → K e.row → Ix (l.map Ev.row) j K := fun h k => ⟨⟨i, e.row, h, by rw [List.getElem?_map, he]; rfl, k⟩⟩
  by_cases h10 : i + 1 < l.length
  · obtain ⟨e2, he2⟩ : ∃ e2, l[i + 1]? = some e2 := ⟨_, List.getElem?_eq_getElem h10⟩
    have hnx : nextF l fuel i = e2.fuel := by rw [nextF, he2]
    have hrow2 : ∀ {K : List V → Prop} {j : Int}, j = (i : Int) + 1 → K e2.row → Ix (l.map Ev.row) j K := fun hj k => ⟨⟨i + 1, e2.row, by rw [hj]; omega, by rw [List.getElem?_map, he2]; rfl, k⟩⟩
    rw [hnx] at n2 n3 ⊢
    refine callsA_of_vc (T := tt) Tryd.func28 rfl rfl rfl rfl rfl ?_
    repeat' ((conv => whnf); first | refine hrow rfl ?_ | refine hrow2 rfl ?_ | refine Gs.id ?_ | with_reducible refine Brn.F rfl ?_ | refine Brn.T (by (try simp only [smT]); first | rfl | omega | fail) ?_ | (refine Bnd.mk (fun hm => ?_); (try simp only [smT] at hm)) | refine Rng.mk (by (try simp only [smT]); omega) ?_ | fail)
    all_goals (conv => whnf)
    all_goals exact Ret.is rfl
  · have hnx : nextF l fuel i = fuel := by rw [nextF, List.getElem?_eq_none (by omega)]
    rw [hnx] at n2 n3 ⊢
    refine callsA_of_vc (T := tt) Tryd.func28 rfl rfl rfl rfl rfl ?_
    repeat' ((conv => whnf); first | refine hrow rfl ?_ | refine Gs.id ?_ | with_reducible refine Brn.F rfl ?_ | refine Brn.F (by (try simp only [smT]); first | rfl | omega | fail) ?_ | (refine Bnd.mk (fun hm => ?_); (try simp only [smT] at hm)) | refine Rng.mk (by (try simp only [smT]); omega) ?_ | fail)
    all_goals (conv => whnf)
    all_goals exact Ret.is rfl
theorem amount0_R {l : List Ev} {fuel : Int} (hl : l.length ≤ 20000) : CallsA Tryd.prog 28 [.d (.u (evs l)), di (-1), di fuel] [] (Is (di (beforeM l fuel))) := by
  cases l with
  | nil =>
    refine callsA_of_vc (T := tt) Tryd.func28 rfl rfl rfl rfl rfl ?_
    repeat' ((conv => whnf); first | refine Gs.id ?_ | with_reducible refine Brn.T rfl ?_ | with_reducible refine Brn.F rfl ?_ | (refine Bnd.mk (fun hm => ?_); (try simp only [smT] at hm)) | refine Rng.mk (by (try simp only [smT]); omega) ?_ | fail)
    all_goals (conv => whnf)
    all_goals exact Ret.is rfl
  | cons e r =>
    refine callsA_of_vc (T := tt) Tryd.func28 rfl rfl rfl rfl rfl ?_
    repeat' ((conv => whnf); first | refine Gs.id ?_ | with_reducible refine Brn.T rfl ?_ | refine Brn.T (by (try simp only [smT]); first | rfl | omega | fail) ?_ | (refine Bnd.mk (fun hm => ?_); (try simp only [smT] at hm)) | refine Rng.mk (by (try simp only [smT]); omega) ?_ | refine Ix.map rfl (by (try simp only [smT]); omega) ?_ | fail)
    all_goals (conv => whnf)
    all_goals exact Ret.is rfl
end Go.Proofs.YtabmcfnefjipbaaDoor
namespace Go.Proofs.YtabmcfnefjipbaaDoor
open Go.RowKit
/-- The stack's functions are the active ones. -/
theorem stkI_fu {l : List Ev} (hv : Vd l) : ∀ n, n ≤ l.length → fuI l (stkI l n) = actAt l n
  | 0, _ => rfl
  | i + 1, hi => by
    have he : l[i]? = some l[i] := List.getElem?_eq_getElem (by omega)
    have ok := hv.ok he
    have ih := stkI_fu hv i (by omega)
    have hact : actI l[i] i (stkI l i) = stkI l (i + 1) := by
      rw [stkI_succ he, actI, pushI, stepI]
      have := ok.k1
      by_cases h2 : l[i].kind = 2
      · rw [if_pos h2, if_pos h2, if_neg (by omega)]
      · rw [if_neg h2, if_neg h2]
        by_cases h1 : l[i].kind = 1
        · rw [if_neg (by omega), if_neg (by simpa using h1)]
        · rw [if_pos (by omega), if_pos h1]
    rw [← hact, fuI_act he, ih, actAt_succ he]
theorem same_R (a b : Ev) : CallsA Tryd.prog 46 [.a a.ds, .a b.ds] [] (Is (db (decide (a.fu = b.fu)))) := by
  have h1 := toList_beq a.md b.md
  have h2 := toList_beq a.fn b.fn
  have e : decide (a.fu = b.fu) = (decide (a.md = b.md) && decide (a.fn = b.fn)) := by
    by_cases h : a.md = b.md <;> by_cases h' : a.fn = b.fn <;> simp [Ev.fu, h, h']
  rw [e]
  generalize decide (a.md = b.md) = x at *
  generalize decide (a.fn = b.fn) = y at *
  cases x
  · refine callsA_of_vc (T := tt) Tryd.func46 rfl rfl rfl rfl rfl ?_
    repeat' ((conv => whnf); first | rw [h1] | refine Gs.id ?_ | with_reducible refine Brn.F rfl ?_ | fail)
    all_goals (conv => whnf)
    all_goals exact Ret.is rfl
  · cases y
    · refine callsA_of_vc (T := tt) Tryd.func46 rfl rfl rfl rfl rfl ?_
      repeat' ((conv => whnf); first | rw [h1] | rw [h2] | refine Gs.id ?_ | with_reducible refine Brn.T rfl ?_ | fail)
      all_goals (conv => whnf)
      all_goals exact Ret.is rfl
    · refine callsA_of_vc (T := tt) Tryd.func46 rfl rfl rfl rfl rfl ?_
      repeat' ((conv => whnf); first | rw [h1] | rw [h2] | refine Gs.id ?_ | with_reducible refine Brn.T rfl ?_ | fail)
      all_goals (conv => whnf)
      all_goals exact Ret.is rfl
/-- One event's share of a function's costs. -/
def costStep (f : Fu) (c : Co) (e : Ev) (a : Int) (act : List Fu) : Co :=
  let c1 := if e.fu = f then bump e.kind c else c
  let c2 := if f ∈ act then addTot a c1 else c1
  if f ∈ act ∧ act.getLast? = some f then addOwn a c2 else c2
def costI (l : List Ev) (fuel : Int) (f : Fu) : Nat → Co
  | 0 => zeroC f
  | i + 1 => match l[i]? with
    | some e => costStep f (costI l fuel f i) e (amt l fuel i) (actAt l (i + 1))
    | none => costI l fuel f i
theorem costI_succ {l : List Ev} {fuel : Int} {f : Fu} {i : Nat} {e : Ev} (h : l[i]? = some e) : costI l fuel f (i + 1) = costStep f (costI l fuel f i) e (amt l fuel i) (actAt l (i + 1)) := by rw [costI, h]
theorem costI_bd {l : List Ev} {fuel : Int} (t : Tr l fuel) (f : Fu) : ∀ i, i ≤ l.length → CBd (curF l fuel i) (curF l fuel i) i (costI l fuel f i)
  | 0, _ => by
    have h := t.cur 0 (by omega)
    exact ⟨⟨Int.le_refl _, Int.le_refl _⟩, ⟨Int.le_refl _, Int.le_refl _⟩, ⟨Int.le_refl _, Int.le_refl _⟩, ⟨Int.le_refl _, Int.le_refl _⟩, ⟨Int.le_refl _, h.1⟩, ⟨Int.le_refl _, h.1⟩⟩
  | i + 1, hi => by
    have he : l[i]? = some l[i] := List.getElem?_eq_getElem (by omega)
    obtain ⟨c0, r0, e0, l0, o0, t0⟩ := costI_bd t f i (by omega)
    have ha := t.amt he
    have hE := amt_eq (fuel := fuel) he
    have hc := t.cur i (by omega)
    rw [costI_succ he]
    generalize costI l fuel f i = c at *
    generalize amt l fuel i = a at *
    generalize actAt l (i + 1) = act at *
    generalize curF l fuel (i + 1) = B2 at *
    generalize curF l fuel i = B at *
    have h1 : CBd B B (i + 1) (if l[i].fu = f then bump l[i].kind c else c) := by
      split
      · unfold bump
        (repeat' split) <;> (constructor <;> dsimp only <;> omega)
      · exact ⟨by omega, by omega, by omega, by omega, o0, t0⟩
    unfold costStep
    dsimp only
    generalize (if l[i].fu = f then bump l[i].kind c else c) = c1 at *
    obtain ⟨c0, r0, e0, l0, o0, t0⟩ := h1
    have hn : (((i + 1 : Nat) : Int)) = (i : Int) + 1 := by omega
    rw [hn]
    split <;> split <;> (constructor <;> (try simp only [addOwn, addTot]) <;> omega)
abbrev coD (c : Co) : List D := [.u (.str c.md), .u (.str c.fn), .u (.int .i64 c.calls), .u (.int .i64 c.rets), .u (.int .i64 c.raises), .u (.int .i64 c.lines), .u (.int .i64 c.own), .u (.int .i64 c.tot)]
theorem costI_fu {l : List Ev} {fuel : Int} {f : Fu} : ∀ i, (costI l fuel f i).fu = f
  | 0 => rfl
  | i + 1 => by
    have ih := costI_fu (l := l) (fuel := fuel) (f := f) i
    rw [costI]
    split
    · unfold costStep
      dsimp only
      have h1 : ∀ e : Ev, (if e.fu = f then bump e.kind (costI l fuel f i) else costI l fuel f i).fu = f := fun e => by
        split
        · rw [bump_fu]; exact ih
        · exact ih
      split <;> split <;> first | exact h1 _ | simp only [addOwn_fu, addTot_fu, h1]
    · exact ih
set_option maxHeartbeats 8000000 in
theorem cost_R {l : List Ev} {fuel : Int} (t : Tr l fuel) (e : Ev) : CallsA Tryd.prog 29 [.d (.u (evs l)), di fuel, .a e.ds] [] (Is (.a (coD (costI l fuel e.fu l.length)))) := by
  have hL := t.len
  refine callsA_of_vc (T := tt) Tryd.func29 rfl rfl rfl rfl rfl ?_
  repeat' ((conv => whnf); first | refine Gs.go (i := 1) (Ghost.frzB 5 rfl rfl) ?_ | refine Gs.id ?_ | fail)
  all_goals (conv => whnf)
  refine ⟨⟨Nat, fun i => i ≤ l.length, fun i => l.length - i, fun i => ⟨[(0, .d (.u (evs l))), (1, di fuel), (5, .d (.q e.row 0)), (6, .d (.p 6 0)), (7, .d (.p 7 0)), (8, di i)], [(6, .bx 33 (coD (zeroC (ByteArray.mk #[], ByteArray.mk #[])))), (7, .bx 33 (coD (costI l fuel e.fu i)))]⟩, 0, Nat.zero_le _, ⟨[(6, .k 6), (7, .k 7)], ⟨by (try dsimp only); (repeat (refine LeT.cons rfl (by first | exact LeS.d (by first | exact LeD.u rfl | exact LeD.p rfl | exact LeD.q rfl | fail) | fail) ?_)); exact LeT.nil, by (try dsimp only); repeat (first | exact LeO.nil | refine LeO.bx rfl rfl (by repeat (first | exact LeL.nil | refine LeL.cons (by first | exact LeD.u rfl | fail) ?_)) ?_ | fail)⟩⟩, fun i hi => ?_⟩⟩
  dsimp only at hi ⊢
  by_cases h9 : i < l.length
  · obtain ⟨x, hx⟩ : ∃ x, l[i]? = some x := ⟨_, List.getElem?_eq_getElem h9⟩
    have hci := costI_succ (fuel := fuel) (f := e.fu) hx
    have hbd := costI_bd t e.fu i (by omega)
    have ha := t.amt hx
    have haE := amt_eq (fuel := fuel) hx
    have hcur := t.cur i (by omega)
    have hcur2 := t.cur (i + 1) (by omega)
    have hmx := t.mx
    have ham := amount_R t i h9
    have hsi := stkI_fu t.vd (i + 1) (by omega)
    have hsl := stkI_lt (l := l) (i + 1)
    have hslen := stkI_len (l := l) (i + 1)
    have hstk := stack_R l (i + 1) (by omega) (by omega)
    have hrow : ∀ {K : List V → Prop} {j : Int}, j = (i : Int) → K x.row → Ix (l.map Ev.row) j K := fun h k => ⟨⟨i, x.row, h, by rw [List.getElem?_map, hx]; rfl, k⟩⟩
    have hsame := same_R x e
    have hii : ((i + 1 : Nat) : Int) = (i : Int) + 1 := by omega
    rw [hii] at hstk
    rw [← hsi] at hci
    unfold costStep at hci
    dsimp only at hci
    generalize costI l fuel e.fu i = c at *
    generalize amt l fuel i = a at *
    generalize curF l fuel i = B at *
    generalize curF l fuel (i + 1) = B2 at *
    generalize hci2 : costI l fuel e.fu (i + 1) = cN at *
    generalize stkI l (i + 1) = ix at *
    obtain ⟨c1, hc1⟩ : ∃ c1, c1 = (if x.fu = e.fu then bump x.kind c else c) := ⟨_, rfl⟩
    rw [← hc1] at hci
    have hb1 : 0 ≤ c1.own ∧ c1.own ≤ B ∧ 0 ≤ c1.tot ∧ c1.tot ≤ B := by
      obtain ⟨_, _, _, _, o0, t0⟩ := hbd
      rw [hc1]
      split
      · unfold bump
        (repeat' split) <;> (dsimp only; omega)
      · omega
    refine' cutR (fun _ : Unit => True) (fun _ => ⟨[(0, .d (.u (evs l))), (1, di fuel), (5, .d (.q e.row 0)), (6, .d (.p 6 0)), (7, .d (.p 7 0)), (8, di i)], [(6, .bx 33 (coD (zeroC (ByteArray.mk #[], ByteArray.mk #[])))), (7, .bx 33 (coD c1))]⟩) _ (fun hR => ?_) ?_
    rotate_left
    · obtain ⟨c0, r0, e0, l0, _, _⟩ := hbd
      by_cases hf : x.fu = e.fu
      · rw [if_pos hf] at hc1
        rw [decide_eq_true hf] at hsame
        have ok := t.vd.ok hx
        rcases (show x.kind = 1 ∨ x.kind = 2 ∨ x.kind = 3 ∨ x.kind = 4 by have := ok.k1; have := ok.k4; omega) with hk | hk | hk | hk
        · repeat' ((conv => whnf); first | refine hrow rfl ?_ | (exact Gs.cut (i := 13) (by assumption) () [(6, .k 6), (7, .k 7)] rfl ⟨by (try dsimp only); (repeat (refine LeT.cons rfl (by first | exact LeS.d (by first | exact LeD.u rfl | exact LeD.p rfl | exact LeD.q rfl | fail) | fail) ?_)); (first | exact LeT.nil | fail), by (try dsimp only); (repeat (first | exact LeO.nil | refine LeO.bx rfl rfl (by repeat (first | exact LeL.nil | refine LeL.cons (by first | exact LeD.u rfl | exact LeD.u (by simp [hc1, bump, hk]; done) | fail) ?_)) ?_ | fail)); done⟩ (by trivial)) | refine Gs.id ?_ | with_reducible refine Brn.T rfl ?_ | refine Brn.T (by (try simp only [smT]); first | rfl | omega | fail) ?_ | refine Brn.F (by (try simp only [smT]); first | rfl | omega | fail) ?_ | (refine Bnd.mk (fun hm => ?_); (try simp only [smT] at hm)) | refine Rng.mk (by (try simp only [smT]); omega) ?_ | refine Drw.of (T := tt) (i := 5) [] [] [(0, true), (1, true), (2, true), (3, true), (4, true), (5, false)] (by kernel_rfl) ?_ | (refine CL.mk (Or.inl ?_); (conv => whnf); refine Cl.is (hsame) rfl (by first | exact fun _ => rfl | fail) ?_) | fail)
        · repeat' ((conv => whnf); first | refine hrow rfl ?_ | (exact Gs.cut (i := 13) (by assumption) () [(6, .k 6), (7, .k 7)] rfl ⟨by (try dsimp only); (repeat (refine LeT.cons rfl (by first | exact LeS.d (by first | exact LeD.u rfl | exact LeD.p rfl | exact LeD.q rfl | fail) | fail) ?_)); (first | exact LeT.nil | fail), by (try dsimp only); (repeat (first | exact LeO.nil | refine LeO.bx rfl rfl (by repeat (first | exact LeL.nil | refine LeL.cons (by first | exact LeD.u rfl | exact LeD.u (by simp [hc1, bump, hk]; done) | fail) ?_)) ?_ | fail)); done⟩ (by trivial)) | refine Gs.id ?_ | with_reducible refine Brn.T rfl ?_ | refine Brn.T (by (try simp only [smT]); first | rfl | assumption | omega | fail) ?_ | (refine Bnd.mk (fun hm => ?_); (try simp only [smT] at hm)) | refine Rng.mk (by (try simp only [smT]); omega) ?_ | refine Drw.of (T := tt) (i := 5) [] [] [(0, true), (1, true), (2, true), (3, true), (4, true), (5, false)] (by kernel_rfl) ?_ | (refine CL.mk (Or.inl ?_); (conv => whnf); refine Cl.is (hsame) rfl (by first | exact fun _ => rfl | fail) ?_) | fail)
        · repeat' ((conv => whnf); first | refine hrow rfl ?_ | (exact Gs.cut (i := 13) (by assumption) () [(6, .k 6), (7, .k 7)] rfl ⟨by (try dsimp only); (repeat (refine LeT.cons rfl (by first | exact LeS.d (by first | exact LeD.u rfl | exact LeD.p rfl | exact LeD.q rfl | fail) | fail) ?_)); (first | exact LeT.nil | fail), by (try dsimp only); (repeat (first | exact LeO.nil | refine LeO.bx rfl rfl (by repeat (first | exact LeL.nil | refine LeL.cons (by first | exact LeD.u rfl | exact LeD.u (by simp [hc1, bump, hk]; done) | fail) ?_)) ?_ | fail)); done⟩ (by trivial)) | refine Gs.id ?_ | with_reducible refine Brn.T rfl ?_ | refine Brn.T (by (try simp only [smT]); first | rfl | assumption | omega | fail) ?_ | refine Brn.F (by (try simp only [smT]); first | rfl | omega | fail) ?_ | (refine Bnd.mk (fun hm => ?_); (try simp only [smT] at hm)) | refine Rng.mk (by (try simp only [smT]); omega) ?_ | refine Drw.of (T := tt) (i := 5) [] [] [(0, true), (1, true), (2, true), (3, true), (4, true), (5, false)] (by kernel_rfl) ?_ | (refine CL.mk (Or.inl ?_); (conv => whnf); refine Cl.is (hsame) rfl (by first | exact fun _ => rfl | fail) ?_) | fail)
        · repeat' ((conv => whnf); first | refine hrow rfl ?_ | (exact Gs.cut (i := 13) (by assumption) () [(6, .k 6), (7, .k 7)] rfl ⟨by (try dsimp only); (repeat (refine LeT.cons rfl (by first | exact LeS.d (by first | exact LeD.u rfl | exact LeD.p rfl | exact LeD.q rfl | fail) | fail) ?_)); (first | exact LeT.nil | fail), by (try dsimp only); (repeat (first | exact LeO.nil | refine LeO.bx rfl rfl (by repeat (first | exact LeL.nil | refine LeL.cons (by first | exact LeD.u rfl | exact LeD.u (by simp [hc1, bump, hk]; done) | fail) ?_)) ?_ | fail)); done⟩ (by trivial)) | refine Gs.id ?_ | with_reducible refine Brn.T rfl ?_ | refine Brn.T (by (try simp only [smT]); first | rfl | assumption | omega | fail) ?_ | refine Brn.F (by (try simp only [smT]); first | rfl | omega | fail) ?_ | (refine Bnd.mk (fun hm => ?_); (try simp only [smT] at hm)) | refine Rng.mk (by (try simp only [smT]); omega) ?_ | refine Drw.of (T := tt) (i := 5) [] [] [(0, true), (1, true), (2, true), (3, true), (4, true), (5, false)] (by kernel_rfl) ?_ | (refine CL.mk (Or.inl ?_); (conv => whnf); refine Cl.is (hsame) rfl (by first | exact fun _ => rfl | fail) ?_) | fail)
      · rw [if_neg hf] at hc1
        rw [decide_eq_false hf] at hsame
        repeat' ((conv => whnf); first | refine hrow rfl ?_ | (exact Gs.cut (i := 13) (by assumption) () [(6, .k 6), (7, .k 7)] rfl ⟨by (try dsimp only); (repeat (refine LeT.cons rfl (by first | exact LeS.d (by first | exact LeD.u rfl | exact LeD.p rfl | exact LeD.q rfl | fail) | fail) ?_)); (first | exact LeT.nil | fail), by (try dsimp only); (repeat (first | exact LeO.nil | refine LeO.bx rfl rfl (by repeat (first | exact LeL.nil | refine LeL.cons (by first | exact LeD.u rfl | exact LeD.u (by simp [hc1]; done) | fail) ?_)) ?_ | fail)); done⟩ (by trivial)) | refine Gs.id ?_ | with_reducible refine Brn.F rfl ?_ | refine Brn.T (by (try simp only [smT]); first | rfl | omega | fail) ?_ | (refine Bnd.mk (fun hm => ?_); (try simp only [smT] at hm)) | refine Drw.of (T := tt) (i := 5) [] [] [(0, true), (1, true), (2, true), (3, true), (4, true), (5, false)] (by kernel_rfl) ?_ | (refine CL.mk (Or.inl ?_); (conv => whnf); refine Cl.is (hsame) rfl (by first | exact fun _ => rfl | fail) ?_) | fail)
    · intro _ _
      dsimp only
      clear hc1 hbd hsame hrow
      repeat' ((conv => whnf); first | refine Gs.id ?_ | refine Rng.mk (by (try simp only [smT]); omega) ?_ | (refine CL.mk (Or.inl ?_); (conv => whnf); refine Cl.is (hstk) rfl (by first | (intro e; cases e; done) | fail) ?_) | fail)
      all_goals (conv => whnf)
      refine ⟨⟨Nat × Bool, fun q => q.1 ≤ ix.length ∧ q.2 = decide (e.fu ∈ fuI l (ix.take q.1)), fun q => ix.length - q.1, fun q => ⟨[(0, .d (.u (evs l))), (1, di fuel), (5, .d (.q e.row 0)), (6, .d (.p 6 0)), (7, .d (.p 7 0)), (8, di i), (9, .d (.u (.sl 1 (ix.map ixR)))), (10, .d (.u (.bool q.2))), (11, di q.1)], [(6, .bx 33 (coD (zeroC (ByteArray.mk #[], ByteArray.mk #[])))), (7, .bx 33 (coD c1))]⟩, (0, false), ⟨Nat.zero_le _, by simp [fuI]⟩, ⟨[(6, .k 6), (7, .k 7)], ⟨by (try dsimp only); (repeat (refine LeT.cons rfl (by first | exact LeS.d (by first | exact LeD.u rfl | exact LeD.p rfl | exact LeD.q rfl | fail) | fail) ?_)); exact LeT.nil, by (try dsimp only); repeat (first | exact LeO.nil | refine LeO.bx rfl rfl (by repeat (first | exact LeL.nil | refine LeL.cons (by first | exact LeD.u rfl | fail) ?_)) ?_ | fail)⟩⟩, fun q hq => ?_⟩⟩
      obtain ⟨q, b⟩ := q
      obtain ⟨hq1, hq2⟩ := hq
      dsimp only at hq1 hq2 ⊢
      by_cases h8 : q < ix.length
      · obtain ⟨j, hj⟩ : ∃ j, ix[q]? = some j := ⟨_, List.getElem?_eq_getElem h8⟩
        have hjl := (hsl j (List.mem_of_getElem? hj)).2
        obtain ⟨y, hy⟩ : ∃ y, l[j]? = some y := ⟨_, List.getElem?_eq_getElem hjl⟩
        have hgq : (ix.map ixR)[q]? = some (ixR j) := by rw [List.getElem?_map, hj]; rfl
        have hrowj : ∀ {K : List V → Prop} {m : Int}, m = (j : Int) → K y.row → Ix (l.map Ev.row) m K := fun h k => ⟨⟨j, y.row, h, by rw [List.getElem?_map, hy]; rfl, k⟩⟩
        have hsm := same_R y e
        have hstep : fuI l (ix.take (q + 1)) = fuI l (ix.take q) ++ [y.fu] := by rw [List.take_add_one, hj]; simp [fuI, hy]
        have hnb : decide (e.fu ∈ fuI l (ix.take (q + 1))) = (decide (y.fu = e.fu) || b) := by
          rw [hq2, hstep]
          by_cases h1 : y.fu = e.fu
          · simp [h1]
          · simp [h1, Ne.symm h1]
        by_cases hye : y.fu = e.fu
        · rw [decide_eq_true hye] at hsm hnb
          repeat' ((conv => whnf); first | refine (Ix.mk ⟨q, ixR j, rfl, hgq, ?_⟩) | refine hrowj rfl ?_ | refine Gs.id ?_ | with_reducible refine Brn.T rfl ?_ | refine Brn.T (by (try simp only [smT]); first | rfl | omega | fail) ?_ | (refine Bnd.mk (fun hm => ?_); (try simp only [smT] at hm)) | refine Rng.mk (by (try simp only [smT]); omega) ?_ | refine Drw.of (T := tt) (i := 18) [] [] [(0, true), (1, true), (2, true), (3, true), (4, true), (5, true), (6, true), (7, true), (8, false)] (by kernel_rfl) ?_ | (refine CL.mk (Or.inl ?_); (conv => whnf); refine Cl.is (hsm) rfl (by first | exact fun _ => rfl | fail) ?_) | fail)
          all_goals (conv => whnf)
          all_goals exact ⟨(q + 1, true), ⟨by dsimp only; omega, hnb.symm⟩, by dsimp only; omega, [(6, .k 6), (7, .k 7)], ⟨by (try dsimp only); (repeat (refine LeT.cons rfl (by first | exact LeS.d (by first | exact LeD.u rfl | exact LeD.p rfl | exact LeD.q rfl | fail) | fail) ?_)); exact LeT.nil, by (try dsimp only); repeat (first | exact LeO.nil | refine LeO.bx rfl rfl (by repeat (first | exact LeL.nil | refine LeL.cons (by first | exact LeD.u rfl | fail) ?_)) ?_ | fail)⟩⟩
        · rw [decide_eq_false hye, Bool.false_or] at hnb
          rw [decide_eq_false hye] at hsm
          repeat' ((conv => whnf); first | refine (Ix.mk ⟨q, ixR j, rfl, hgq, ?_⟩) | refine hrowj rfl ?_ | refine Gs.id ?_ | with_reducible refine Brn.F rfl ?_ | refine Brn.T (by (try simp only [smT]); first | rfl | omega | fail) ?_ | (refine Bnd.mk (fun hm => ?_); (try simp only [smT] at hm)) | refine Rng.mk (by (try simp only [smT]); omega) ?_ | refine Drw.of (T := tt) (i := 18) [] [] [(0, true), (1, true), (2, true), (3, true), (4, true), (5, true), (6, true), (7, true), (8, false)] (by kernel_rfl) ?_ | (refine CL.mk (Or.inl ?_); (conv => whnf); refine Cl.is (hsm) rfl (by first | exact fun _ => rfl | fail) ?_) | fail)
          all_goals (conv => whnf)
          all_goals exact ⟨(q + 1, b), ⟨by dsimp only; omega, hnb.symm⟩, by dsimp only; omega, [(6, .k 6), (7, .k 7)], ⟨by (try dsimp only); (repeat (refine LeT.cons rfl (by first | exact LeS.d (by first | exact LeD.u rfl | exact LeD.p rfl | exact LeD.q rfl | fail) | fail) ?_)); exact LeT.nil, by (try dsimp only); repeat (first | exact LeO.nil | refine LeO.bx rfl rfl (by repeat (first | exact LeL.nil | refine LeL.cons (by first | exact LeD.u rfl | fail) ?_)) ?_ | fail)⟩⟩
      · obtain rfl : q = ix.length := by omega
        rw [List.take_length] at hq2
        by_cases hm : e.fu ∈ fuI l ix
        · rw [decide_eq_true hm] at hq2
          subst hq2
          rw [if_pos hm] at hci
          rcases List.eq_nil_or_concat ix with rfl | ⟨L, j, rfl⟩
          · simp [fuI] at hm
          · rw [List.concat_eq_append] at *
            have hlen : (((L ++ [j]).length : Nat) : Int) = (L.length : Int) + 1 := by simp
            have hjl := (hsl j (by simp)).2
            obtain ⟨y, hy⟩ : ∃ y, l[j]? = some y := ⟨_, List.getElem?_eq_getElem hjl⟩
            have hgq : ((L ++ [j]).map ixR)[L.length]? = some (ixR j) := by simp
            have hrowj : ∀ {K : List V → Prop} {m : Int}, m = (j : Int) → K y.row → Ix (l.map Ev.row) m K := fun h k => ⟨⟨j, y.row, h, by rw [List.getElem?_map, hy]; rfl, k⟩⟩
            have hsm := same_R y e
            have hlast : (fuI l (L ++ [j])).getLast? = some y.fu := by simp [fuI, hy]
            rw [hlast] at hci
            by_cases hye : y.fu = e.fu
            · rw [decide_eq_true hye] at hsm
              rw [if_pos ⟨hm, by rw [hye]⟩] at hci
              repeat' ((conv => whnf); first | refine (Ix.mk ⟨L.length, ixR j, by (first | rfl | (simp; done) | fail), hgq, ?_⟩) | refine hrowj rfl ?_ | refine Gs.id ?_ | with_reducible refine Brn.T rfl ?_ | refine Brn.F (by (try simp only [smT]); first | rfl | omega | fail) ?_ | (refine Bnd.mk (fun hm => ?_); (try simp only [smT] at hm)) | refine Rng.mk (by (try simp only [smT]); omega) ?_ | refine Drw.of (T := tt) (i := 21) [8] [] [(0, true), (1, true), (2, true), (3, true), (4, true), (5, false), (6, true), (7, true), (8, false)] (by kernel_rfl) ?_ | refine Drw.of (T := tt) (i := 22) [] [] [(0, true), (1, true), (2, true), (3, true), (4, true), (5, true), (6, true), (7, true), (8, true), (9, true), (10, true), (11, true), (12, false), (13, true)] (by kernel_rfl) ?_ | refine Drw.of (T := tt) (i := 23) [8] [] [(0, true), (1, true), (2, true), (3, true), (4, true), (5, false), (6, true), (7, true), (8, false)] (by kernel_rfl) ?_ | (refine CL.mk (Or.inl ?_); (conv => whnf); first | refine Cl.is (ham) rfl (by first | exact fun _ => rfl | fail) ?_ | refine Cl.is (hsm) rfl (by first | exact fun _ => rfl | fail) ?_) | fail)
              all_goals (conv => whnf)
              all_goals exact ⟨i + 1, by omega, by omega, [(6, .k 6), (7, .k 7)], by rw [hci2, hci]; exact ⟨by (try dsimp only); (repeat (refine LeT.cons rfl (by first | exact LeS.d (by first | exact LeD.u rfl | exact LeD.p rfl | exact LeD.q rfl | fail) | fail) ?_)); exact LeT.nil, by (try dsimp only); repeat (first | exact LeO.nil | refine LeO.bx rfl rfl (by repeat (first | exact LeL.nil | refine LeL.cons (by first | exact LeD.u rfl | fail) ?_)) ?_ | fail)⟩⟩
            · rw [decide_eq_false hye] at hsm
              rw [if_neg (by rintro ⟨_, h⟩; injection h with h; exact hye h)] at hci
              repeat' ((conv => whnf); first | refine (Ix.mk ⟨L.length, ixR j, by (first | rfl | (simp; done) | fail), hgq, ?_⟩) | refine hrowj rfl ?_ | refine Gs.id ?_ | with_reducible refine Brn.T rfl ?_ | with_reducible refine Brn.F rfl ?_ | refine Brn.F (by (try simp only [smT]); first | rfl | omega | fail) ?_ | (refine Bnd.mk (fun hm => ?_); (try simp only [smT] at hm)) | refine Rng.mk (by (try simp only [smT]); omega) ?_ | refine Drw.of (T := tt) (i := 21) [8] [] [(0, true), (1, true), (2, true), (3, true), (4, true), (5, false), (6, true), (7, true), (8, false)] (by kernel_rfl) ?_ | refine Drw.of (T := tt) (i := 22) [] [] [(0, true), (1, true), (2, true), (3, true), (4, true), (5, true), (6, true), (7, true), (8, true), (9, true), (10, true), (11, true), (12, false), (13, true)] (by kernel_rfl) ?_ | (refine CL.mk (Or.inl ?_); (conv => whnf); first | refine Cl.is (ham) rfl (by first | exact fun _ => rfl | fail) ?_ | refine Cl.is (hsm) rfl (by first | exact fun _ => rfl | fail) ?_) | fail)
              all_goals (conv => whnf)
              all_goals exact ⟨i + 1, by omega, by omega, [(6, .k 6), (7, .k 7)], by rw [hci2, hci]; exact ⟨by (try dsimp only); (repeat (refine LeT.cons rfl (by first | exact LeS.d (by first | exact LeD.u rfl | exact LeD.p rfl | exact LeD.q rfl | fail) | fail) ?_)); exact LeT.nil, by (try dsimp only); repeat (first | exact LeO.nil | refine LeO.bx rfl rfl (by repeat (first | exact LeL.nil | refine LeL.cons (by first | exact LeD.u rfl | fail) ?_)) ?_ | fail)⟩⟩
        · rw [decide_eq_false hm] at hq2
          subst hq2
          rw [if_neg hm, if_neg (fun h => hm h.1)] at hci
          repeat' ((conv => whnf); first | refine Gs.id ?_ | with_reducible refine Brn.F rfl ?_ | refine Brn.F (by (try simp only [smT]); first | rfl | omega | fail) ?_ | (refine Bnd.mk (fun hm => ?_); (try simp only [smT] at hm)) | refine Rng.mk (by (try simp only [smT]); omega) ?_ | refine Drw.of (T := tt) (i := 22) [] [] [(0, true), (1, true), (2, true), (3, true), (4, true), (5, true), (6, true), (7, true), (8, true), (9, true), (10, true), (11, true), (12, false), (13, true)] (by kernel_rfl) ?_ | fail)
          all_goals (conv => whnf)
          all_goals exact ⟨i + 1, by omega, by omega, [(6, .k 6), (7, .k 7)], by rw [hci2, hci]; exact ⟨by (try dsimp only); (repeat (refine LeT.cons rfl (by first | exact LeS.d (by first | exact LeD.u rfl | exact LeD.p rfl | exact LeD.q rfl | fail) | fail) ?_)); exact LeT.nil, by (try dsimp only); repeat (first | exact LeO.nil | refine LeO.bx rfl rfl (by repeat (first | exact LeL.nil | refine LeL.cons (by first | exact LeD.u rfl | fail) ?_)) ?_ | fail)⟩⟩
  · obtain rfl : i = l.length := by omega
    repeat' ((conv => whnf); first | refine Gs.id ?_ | refine Brn.F (by (try simp only [smT]); first | rfl | omega | fail) ?_ | (refine Bnd.mk (fun hm => ?_); (try simp only [smT] at hm)) | fail)
    all_goals (conv => whnf)
    all_goals exact Ret.is rfl
end Go.Proofs.YtabmcfnefjipbaaDoor
namespace Go.Proofs.YtabmcfnefjipbaaDoor
open Go.RowKit
/-- The functions of the first i events, each once. -/
def seenF (l : List Ev) : Nat → List Fu
  | 0 => []
  | i + 1 => match l[i]? with
    | some e => if e.fu ∈ seenF l i then seenF l i else seenF l i ++ [e.fu]
    | none => seenF l i
theorem seenF_succ {l : List Ev} {i : Nat} {e : Ev} (h : l[i]? = some e) : seenF l (i + 1) = if e.fu ∈ seenF l i then seenF l i else seenF l i ++ [e.fu] := by rw [seenF, h]
theorem seenF_len {l : List Ev} : ∀ i, (seenF l i).length ≤ i
  | 0 => Nat.le_refl _
  | i + 1 => by
    have ih := seenF_len (l := l) i
    rw [seenF]
    split
    · split
      · omega
      · simp; omega
    · omega
/-- The fuel outside, behind k rounds. -/
def outK (l : List Ev) (fuel : Int) : Nat → Int
  | 0 => 0
  | k + 1 => if (stkI l k).length = 0 then outK l fuel k + (match k with
    | 0 => beforeM l fuel
    | j + 1 => amt l fuel j) else outK l fuel k
theorem outK_rest {l : List Ev} {fuel : Int} (hv : Vd l) : ∀ i, i ≤ l.length → outK l fuel (i + 1) = (costsAt l fuel i).rest
  | 0, _ => by simp [outK, stkI, costsAt]
  | i + 1, hi => by
    have he : l[i]? = some l[i] := List.getElem?_eq_getElem (by omega)
    have ih := outK_rest (fuel := fuel) hv i (by omega)
    have h1 := congrArg List.length (stkI_fu hv (i + 1) hi)
    have h2 := congrArg List.length (stack_act hv (i + 1) hi)
    simp only [fuI, List.length_map] at h1 h2
    rw [outK, costsAt_succ he, ih, h1, ← h2]
    unfold stepC
    dsimp only
    rcases List.eq_nil_or_concat (stackAt l (i + 1)) with h0 | ⟨L, a, h0⟩
    · rw [h0]; simp
    · rw [h0]; simp
def refCosts (l : List Ev) (fuel : Int) : List Co :=
  let out := (seenF l l.length).map fun f => costI l fuel f l.length
  if 0 < outK l fuel (l.length + 1) then out ++ [⟨ByteArray.mk #[], ByteArray.mk #[], 0, 0, 0, 0, outK l fuel (l.length + 1), outK l fuel (l.length + 1)⟩] else out
theorem outK_bd {l : List Ev} {fuel : Int} (t : Tr l fuel) (i : Nat) (hi : i ≤ l.length) : 0 ≤ outK l fuel (i + 1) ∧ outK l fuel (i + 1) ≤ fuel := by
  have h := costs_CI t i hi
  have hc := t.cur i hi
  rw [outK_rest t.vd i hi]
  exact ⟨h.r0, Int.le_trans h.r1 hc.2⟩
set_option maxHeartbeats 8000000 in
theorem costs_R {l : List Ev} {fuel : Int} (t : Tr l fuel) : CallsA Tryd.prog 12 [.d (.u (evs l)), di fuel] [] (Is (.d (.u (.sl 8 ((refCosts l fuel).map coR))))) := by
  have hL := t.len
  have hmx := t.mx
  have hf0 := t.f0
  refine callsA_of_vc (T := tt) Tryd.func12 rfl rfl rfl rfl rfl ?_
  repeat' ((conv => whnf); first | refine Gs.id ?_ | fail)
  all_goals (conv => whnf)
  refine ⟨⟨Nat, fun k => k ≤ l.length + 1, fun k => l.length + 1 - k, fun k => ⟨[(0, .d (.u (evs l))), (1, di fuel), (5, .d (.u .nl)), (6, di (outK l fuel k)), (7, di ((k : Int) - 1))], []⟩, 0, Nat.zero_le _, ⟨[], ⟨by (try dsimp only); (repeat (refine LeT.cons rfl (by first | exact LeS.d (by first | exact LeD.u rfl | fail) | fail) ?_)); exact LeT.nil, by (try dsimp only); repeat (first | exact LeO.nil | fail)⟩⟩, fun k hk => ?_⟩⟩
  dsimp only at hk ⊢
  by_cases h9 : k ≤ l.length
  · have hkk : (k : Int) - 1 + 1 = k := by omega
    have hk2 : ((k + 1 : Nat) : Int) - 1 = k := by omega
    have hstk := stack_R l k h9 (by omega)
    have hbd := outK_bd t k h9
    by_cases hz : (stkI l k).length = 0
    · have hn : stkI l k = [] := List.eq_nil_of_length_eq_zero hz
      rw [hn] at hstk
      cases k with
      | zero =>
        have ham := amount0_R (fuel := fuel) hL
        have ho : outK l fuel (0 + 1) = 0 + beforeM l fuel := by rw [outK, if_pos (by rw [hn]; rfl)]; rfl
        have ho0 : outK l fuel 0 = 0 := rfl
        rw [ho0]
        rw [ho] at hbd
        repeat' ((conv => whnf); first | refine Gs.id ?_ | with_reducible refine Brn.T rfl ?_ | (refine Bnd.mk (fun hm => ?_); (try simp only [smT] at hm)) | refine Rng.mk (by (try simp only [smT]); omega) ?_ | (refine CL.mk (Or.inl ?_); (conv => whnf); first | refine Cl.is (hstk) rfl (by first | (intro e; cases e; done) | fail) ?_ | refine Cl.is (ham) rfl (by first | exact fun _ => rfl | fail) ?_) | fail)
        all_goals (conv => whnf)
        all_goals exact ⟨0 + 1, by omega, by omega, [], by rw [ho]; exact ⟨by (try dsimp only); (repeat (refine LeT.cons rfl (by first | exact LeS.d (by first | exact LeD.u rfl | fail) | fail) ?_)); exact LeT.nil, by (try dsimp only); repeat (first | exact LeO.nil | fail)⟩⟩
      | succ j =>
        have ham := amount_R t j (by omega)
        have hjj : ((j + 1 : Nat) : Int) - 1 = j := by omega
        have ho : outK l fuel (j + 1 + 1) = outK l fuel (j + 1) + amt l fuel j := by rw [outK, if_pos hz]
        have ha := t.amt (List.getElem?_eq_getElem (show j < l.length by omega))
        have hb0 := outK_bd t j (by omega)
        rw [hjj] at hkk ⊢
        rw [ho] at hbd
        generalize outK l fuel (j + 1) = S at *
        repeat' ((conv => whnf); first | refine Gs.id ?_ | with_reducible refine Brn.T rfl ?_ | refine Brn.T (by (try simp only [smT]); first | rfl | omega | fail) ?_ | (refine Bnd.mk (fun hm => ?_); (try simp only [smT] at hm)) | refine Rng.mk (by (try simp only [smT]); omega) ?_ | (refine CL.mk (Or.inl ?_); (conv => whnf); first | refine Cl.is (hstk) rfl (by first | (intro e; cases e; done) | fail) ?_ | refine Cl.is (ham) rfl (by first | exact fun _ => rfl | fail) ?_) | fail)
        all_goals (conv => whnf)
        all_goals exact ⟨j + 1 + 1, by omega, by omega, [], by rw [ho]; exact ⟨by (try dsimp only); (repeat (refine LeT.cons rfl (by first | exact LeS.d (by first | exact LeD.u rfl | exact LeD.u (by simp; done) | fail) | fail) ?_)); exact LeT.nil, by (try dsimp only); repeat (first | exact LeO.nil | fail)⟩⟩
    · have ho : outK l fuel (k + 1) = outK l fuel k := by cases k <;> (rw [outK]; exact if_neg hz)
      rw [← hkk] at hstk
      generalize stkI l k = s at *
      repeat' ((conv => whnf); first | refine Gs.id ?_ | refine Brn.T (by (try simp only [smT]); first | rfl | omega | fail) ?_ | refine Brn.F (by (try simp only [smT]); first | rfl | omega | fail) ?_ | (refine Bnd.mk (fun hm => ?_); (try simp only [smT] at hm)) | refine Rng.mk (by (try simp only [smT]); omega) ?_ | (refine CL.mk (Or.inl ?_); (conv => whnf); refine Cl.is (hstk) rfl (by first | (intro e; cases e; done) | fail) ?_) | fail)
      all_goals (conv => whnf)
      all_goals exact ⟨k + 1, by omega, by omega, [], by rw [ho]; exact ⟨by (try dsimp only); (repeat (refine LeT.cons rfl (by first | exact LeS.d (by first | exact LeD.u rfl | exact LeD.u (by simp; done) | fail) | fail) ?_)); exact LeT.nil, by (try dsimp only); repeat (first | exact LeO.nil | fail)⟩⟩
  · obtain rfl : k = l.length + 1 := by omega
    have hbd := outK_bd t l.length (by omega)
    unfold refCosts
    dsimp only
    generalize outK l fuel (l.length + 1) = S at *
    repeat' ((conv => whnf); first | refine Gs.id ?_ | refine Brn.F (by (try simp only [smT]); first | rfl | omega | fail) ?_ | (refine Bnd.mk (fun hm => ?_); (try simp only [smT] at hm)) | fail)
    all_goals (conv => whnf)
    refine ⟨⟨Nat, fun i => i ≤ l.length, fun i => l.length - i, fun i => ⟨[(0, .d (.u (evs l))), (1, di fuel), (5, .d (.ow 900 (seenF l i).length)), (6, di S), (8, di i)], [(900, .ar 33 8 ((seenF l i).map fun f => coR (costI l fuel f l.length)))]⟩, 0, Nat.zero_le _, ⟨[(900, .n 8)], ⟨by (try dsimp only); (repeat (refine LeT.cons rfl (by first | exact LeS.d (by first | exact LeD.u rfl | exact LeD.no rfl rfl | fail) | fail) ?_)); exact LeT.nil, by (try dsimp only); repeat (first | exact LeO.nil | refine LeO.no rfl rfl ?_)⟩⟩, fun i hi => ?_⟩⟩
    dsimp only at hi ⊢
    by_cases h9 : i < l.length
    · obtain ⟨x, hx⟩ : ∃ x, l[i]? = some x := ⟨_, List.getElem?_eq_getElem h9⟩
      have hrow : ∀ {K : List V → Prop} {j : Int}, j = (i : Int) → K x.row → Ix (l.map Ev.row) j K := fun h k => ⟨⟨i, x.row, h, by rw [List.getElem?_map, hx]; rfl, k⟩⟩
      have hcost := cost_R t x
      have hsn := seenF_succ hx
      have hsl := seenF_len (l := l) i
      generalize seenF l i = sf at *
      repeat' ((conv => whnf); first | refine Gs.id ?_ | refine Brn.T (by (try simp only [smT]); first | rfl | omega | fail) ?_ | (refine Bnd.mk (fun hm => ?_); (try simp only [smT] at hm)) | fail)
      all_goals (conv => whnf)
      refine ⟨⟨Nat × Bool, fun q => q.1 ≤ sf.length ∧ q.2 = decide (x.fu ∈ sf.take q.1), fun q => sf.length - q.1, fun q => ⟨[(0, .d (.u (evs l))), (1, di fuel), (5, .d (.ow 900 sf.length)), (6, di S), (8, di i), (9, .d (.u (.bool q.2))), (10, di q.1)], [(900, .ar 33 8 (sf.map fun f => coR (costI l fuel f l.length)))]⟩, (0, false), ⟨Nat.zero_le _, by simp⟩, ⟨[(900, .k 900)], ⟨by (try dsimp only); (repeat (refine LeT.cons rfl (by first | exact LeS.d (by first | exact LeD.u rfl | exact LeD.ow rfl rfl | fail) | fail) ?_)); exact LeT.nil, by (try dsimp only); repeat (first | exact LeO.nil | refine LeO.ar rfl rfl (by first | rfl | fail) ?_ | fail)⟩⟩, fun q hq => ?_⟩⟩
      obtain ⟨q, b⟩ := q
      obtain ⟨hq1, hq2⟩ := hq
      dsimp only at hq1 hq2 ⊢
      by_cases h8 : q < sf.length
      · obtain ⟨f, hf⟩ : ∃ f, sf[q]? = some f := ⟨_, List.getElem?_eq_getElem h8⟩
        have hfu := costI_fu (l := l) (fuel := fuel) (f := f) l.length
        have hgq : (sf.map fun f => coR (costI l fuel f l.length))[q]? = some (coR (costI l fuel f l.length)) := by rw [List.getElem?_map, hf]; rfl
        have hnb : decide (x.fu ∈ sf.take (q + 1)) = (decide (f = x.fu) || b) := by
          rw [hq2, List.take_add_one, hf]
          by_cases h1 : f = x.fu
          · simp [h1]
          · simp [h1, Ne.symm h1]
        generalize costI l fuel f l.length = c at *
        have hb1 := toList_beq c.md x.md
        have hb2 := toList_beq c.fn x.fn
        have hsplit : decide (f = x.fu) = (decide (c.md = x.md) && decide (c.fn = x.fn)) := by
          rw [← hfu]
          by_cases h : c.md = x.md <;> by_cases h' : c.fn = x.fn <;> simp [Ev.fu, Co.fu, h, h']
        rw [hsplit] at hnb
        generalize decide (c.md = x.md) = b1 at *
        generalize decide (c.fn = x.fn) = b2 at *
        cases b1
        · rw [Bool.false_and, Bool.false_or] at hnb
          repeat' ((conv => whnf); first | refine Rw.get hgq ?_ | refine hrow rfl ?_ | rw [hb1] | refine Gs.id ?_ | with_reducible refine Brn.F rfl ?_ | refine Brn.T (by (try simp only [smT]); first | rfl | omega | fail) ?_ | (refine Bnd.mk (fun hm => ?_); (try simp only [smT] at hm)) | refine Rng.mk (by (try simp only [smT]); omega) ?_ | refine Ixo.mk ⟨_, rfl, (by (try simp only [smT]); omega), ?_⟩ | refine Drw.of (T := tt) (i := 15) [] [] [(0, true), (1, true), (2, true), (3, true), (4, true), (5, true), (6, true), (7, true), (8, true), (9, true), (10, true), (11, true), (12, true), (13, true), (14, true), (15, true), (16, true), (17, true), (18, true), (19, true), (20, true), (21, true), (22, true), (23, true)] (by kernel_rfl) ?_)
          all_goals (conv => whnf)
          all_goals exact ⟨(q + 1, b), ⟨by dsimp only; omega, hnb.symm⟩, by dsimp only; omega, [(900, .k 900)], ⟨by (try dsimp only); (repeat (refine LeT.cons rfl (by first | exact LeS.d (by first | exact LeD.u rfl | exact LeD.ow rfl rfl | fail) | fail) ?_)); exact LeT.nil, by (try dsimp only); repeat (first | exact LeO.nil | refine LeO.ar rfl rfl (by first | rfl | fail) ?_ | fail)⟩⟩
        · cases b2
          · rw [Bool.and_false, Bool.false_or] at hnb
            repeat' ((conv => whnf); first | refine Rw.get hgq ?_ | refine hrow rfl ?_ | rw [hb1] | rw [hb2] | refine Gs.id ?_ | with_reducible refine Brn.T rfl ?_ | with_reducible refine Brn.F rfl ?_ | refine Brn.T (by (try simp only [smT]); first | rfl | omega | fail) ?_ | (refine Bnd.mk (fun hm => ?_); (try simp only [smT] at hm)) | refine Rng.mk (by (try simp only [smT]); omega) ?_ | refine Ixo.mk ⟨_, rfl, (by (try simp only [smT]); omega), ?_⟩ | refine Drw.of (T := tt) (i := 15) [] [] [(0, true), (1, true), (2, true), (3, true), (4, true), (5, true), (6, true), (7, true), (8, true), (9, true), (10, true), (11, true), (12, true), (13, true), (14, true), (15, true), (16, true), (17, true), (18, true), (19, true), (20, true), (21, true), (22, true), (23, true)] (by kernel_rfl) ?_)
            all_goals (conv => whnf)
            all_goals exact ⟨(q + 1, b), ⟨by dsimp only; omega, hnb.symm⟩, by dsimp only; omega, [(900, .k 900)], ⟨by (try dsimp only); (repeat (refine LeT.cons rfl (by first | exact LeS.d (by first | exact LeD.u rfl | exact LeD.ow rfl rfl | fail) | fail) ?_)); exact LeT.nil, by (try dsimp only); repeat (first | exact LeO.nil | refine LeO.ar rfl rfl (by first | rfl | fail) ?_ | fail)⟩⟩
          · rw [Bool.and_true, Bool.true_or] at hnb
            repeat' ((conv => whnf); first | refine Rw.get hgq ?_ | refine hrow rfl ?_ | rw [hb1] | rw [hb2] | refine Gs.id ?_ | with_reducible refine Brn.T rfl ?_ | refine Brn.T (by (try simp only [smT]); first | rfl | omega | fail) ?_ | (refine Bnd.mk (fun hm => ?_); (try simp only [smT] at hm)) | refine Rng.mk (by (try simp only [smT]); omega) ?_ | refine Ixo.mk ⟨_, rfl, (by (try simp only [smT]); omega), ?_⟩ | refine Drw.of (T := tt) (i := 15) [] [] [(0, true), (1, true), (2, true), (3, true), (4, true), (5, true), (6, true), (7, true), (8, true), (9, true), (10, true), (11, true), (12, true), (13, true), (14, true), (15, true), (16, true), (17, true), (18, true), (19, true), (20, true), (21, true), (22, true), (23, true)] (by kernel_rfl) ?_)
            all_goals (conv => whnf)
            all_goals exact ⟨(q + 1, true), ⟨by dsimp only; omega, hnb.symm⟩, by dsimp only; omega, [(900, .k 900)], ⟨by (try dsimp only); (repeat (refine LeT.cons rfl (by first | exact LeS.d (by first | exact LeD.u rfl | exact LeD.ow rfl rfl | fail) | fail) ?_)); exact LeT.nil, by (try dsimp only); repeat (first | exact LeO.nil | refine LeO.ar rfl rfl (by first | rfl | fail) ?_ | fail)⟩⟩
      · obtain rfl : q = sf.length := by omega
        rw [List.take_length] at hq2
        by_cases hm : x.fu ∈ sf
        · rw [decide_eq_true hm] at hq2
          subst hq2
          rw [if_pos hm] at hsn
          repeat' ((conv => whnf); first | refine Gs.id ?_ | with_reducible refine Brn.F rfl ?_ | refine Brn.F (by (try simp only [smT]); first | rfl | omega | fail) ?_ | (refine Bnd.mk (fun hm => ?_); (try simp only [smT] at hm)) | refine Rng.mk (by (try simp only [smT]); omega) ?_ | fail)
          all_goals (conv => whnf)
          all_goals exact ⟨i + 1, by omega, by omega, [(900, .k 900)], by rw [hsn]; exact ⟨by (try dsimp only); (repeat (refine LeT.cons rfl (by first | exact LeS.d (by first | exact LeD.u rfl | exact LeD.ow rfl rfl | fail) | fail) ?_)); exact LeT.nil, by (try dsimp only); repeat (first | exact LeO.nil | refine LeO.ar rfl rfl (by first | rfl | fail) ?_ | fail)⟩⟩
        · rw [decide_eq_false hm] at hq2
          subst hq2
          rw [if_neg hm] at hsn
          repeat' ((conv => whnf); first | refine hrow rfl ?_ | refine Gs.id ?_ | with_reducible refine Brn.T rfl ?_ | refine Brn.F (by (try simp only [smT]); first | rfl | omega | fail) ?_ | (refine Bnd.mk (fun hm => ?_); (try simp only [smT] at hm)) | refine Rng.mk (by (try simp only [smT]); omega) ?_ | refine Apd.mk (by first | rfl | simp) (by first | rfl | fail) (by (try simp only [smT]); first | omega | fail) (by unfold maxLen; first | (simp; omega) | fail) ?_ | (refine CL.mk (Or.inl ?_); (conv => whnf); refine Cl.is (hcost) rfl (by first | exact fun _ => rfl | fail) ?_) | fail)
          all_goals (conv => whnf)
          all_goals exact ⟨i + 1, by omega, by omega, [(900, .k 76)], by rw [hsn]; exact ⟨by (try dsimp only); (repeat (refine LeT.cons rfl (by first | exact LeS.d (by first | exact LeD.u rfl | exact LeD.ow rfl (by simp [coR]) | fail) | fail) ?_)); exact LeT.nil, by (try dsimp only); repeat (first | exact LeO.nil | refine LeO.ar rfl rfl (by first | simp [coR]) ?_ | fail)⟩⟩
    · obtain rfl : i = l.length := by omega
      have hsl := seenF_len (l := l) l.length
      generalize seenF l l.length = sf at *
      have hmm : (sf.map fun f => coR (costI l fuel f l.length)) = (sf.map fun f => costI l fuel f l.length).map coR := by simp
      have hll : (sf.map fun f => costI l fuel f l.length).length = sf.length := by simp
      rw [hmm, ← hll]
      generalize (sf.map fun f => costI l fuel f l.length) = out at *
      by_cases h0 : 0 < S
      · rw [if_pos h0]
        repeat' ((conv => whnf); first | refine Gs.id ?_ | refine Brn.T (by (try simp only [smT]); first | rfl | assumption | fail) ?_ | refine Brn.F (by (try simp only [smT]); first | rfl | omega | fail) ?_ | (refine Bnd.mk (fun hm => ?_); (try simp only [smT] at hm)) | refine Len.mk (by first | rfl | fail) ?_ | refine Apd.mk (by first | rfl | simp) (by first | rfl | fail) (by (try simp only [smT]); first | omega | fail) (by unfold maxLen; first | (simp; omega) | fail) ?_ | fail)
        all_goals (conv => whnf)
        all_goals (refine Ret.is ?_; simp only [List.map_append]; rfl)
      · rw [if_neg h0]
        repeat' ((conv => whnf); first | refine Gs.id ?_ | refine Brn.F (by (try simp only [smT]); first | rfl | omega | fail) ?_ | (refine Bnd.mk (fun hm => ?_); (try simp only [smT] at hm)) | refine Len.mk (by first | rfl | (simp; done) | fail) ?_ | fail)
        all_goals (conv => whnf)
        all_goals first | exact Ret.is rfl | exact Ret.nl (by repeat (fail))
end Go.Proofs.YtabmcfnefjipbaaDoor
namespace Go.Proofs.YtabmcfnefjipbaaDoor
open Go.RowKit
theorem seenF_nd {l : List Ev} : ∀ i, (seenF l i).Nodup
  | 0 => List.nodup_nil
  | i + 1 => by
    have ih := seenF_nd (l := l) i
    rw [seenF]
    split
    · split
      · exact ih
      · rename_i h
        refine List.nodup_append.2 ⟨ih, by simp, fun a ha b hb e => ?_⟩
        simp at hb
        subst hb
        exact h (e ▸ ha)
    · exact ih
theorem act_seen {l : List Ev} (hv : Vd l) : ∀ i, i ≤ l.length → ∀ f ∈ actAt l i, f ∈ seenF l i
  | 0, _, f, h => by simp [actAt] at h
  | i + 1, hi, f, h => by
    have he : l[i]? = some l[i] := List.getElem?_eq_getElem (by omega)
    have ih := act_seen hv i (by omega)
    rw [actAt_succ he] at h
    rw [seenF_succ he]
    have hp : f ∈ pushM l[i] (actAt l i) := by
      unfold actM at h
      split at h
      · exact List.dropLast_subset _ h
      · exact h
    have hin : f ∈ seenF l i ∨ f = l[i].fu := by
      unfold pushM at hp
      split at hp
      · rcases List.mem_append.1 hp with hp | hp
        · exact .inl (ih f hp)
        · simp at hp; exact .inr hp
      · exact .inl (ih f hp)
    split
    · rename_i hm
      rcases hin with h | h
      · exact h
      · rw [h]; exact hm
    · rcases hin with h | h
      · simp [h]
      · simp [h]
theorem costI_unseen {l : List Ev} {fuel : Int} (hv : Vd l) {f : Fu} : ∀ i, i ≤ l.length → f ∉ seenF l i → costI l fuel f i = zeroC f
  | 0, _, _ => rfl
  | i + 1, hi, h => by
    have he : l[i]? = some l[i] := List.getElem?_eq_getElem (by omega)
    have hact : f ∉ actAt l (i + 1) := fun hm => h (act_seen hv (i + 1) hi f hm)
    rw [seenF_succ he] at h
    have h1 : f ∉ seenF l i ∧ l[i].fu ≠ f := by
      split at h
      · rename_i hm
        exact ⟨h, fun e => h (e ▸ hm)⟩
      · simp only [List.mem_append, List.mem_cons, List.not_mem_nil, or_false, not_or] at h
        exact ⟨h.1, fun e => h.2 e.symm⟩
    rw [costI_succ he, costI_unseen hv i (by omega) h1.1]
    unfold costStep
    simp only [if_neg h1.2, if_neg hact, if_neg (fun hh : f ∈ actAt l (i + 1) ∧ (actAt l (i + 1)).getLast? = some f => hact hh.1)]
theorem updF_map {g : Co → Co} {h : Fu → Co} (hh : ∀ f, (h f).fu = f) (f0 : Fu) : ∀ {F : List Fu}, F.Nodup → updF g (F.map h) f0 = F.map fun f => if f = f0 then g (h f) else h f
  | [], _ => rfl
  | x :: F, hn => by
    rw [List.nodup_cons] at hn
    rw [List.map_cons, updF, hh]
    by_cases hx : x = f0
    · subst hx
      rw [if_pos rfl, List.map_cons, if_pos rfl]
      congr 1
      refine List.map_congr_left fun y hy => ?_
      rw [if_neg (show ¬ y = x from fun e => hn.1 (e ▸ hy))]
    · rw [if_neg hx, List.map_cons, if_neg hx, updF_map hh f0 hn.2]
theorem totM_map (a : Int) {F : List Fu} (hF : F.Nodup) : ∀ (s : List Ac) (seen : List Fu) {h : Fu → Co}, (∀ f, (h f).fu = f) → totM a seen s (F.map h) = F.map fun f => if f ∈ s.map Ac.fu ∧ f ∉ seen then addTot a (h f) else h f
  | [], seen, h, hh => by simp [totM]
  | x :: r, seen, h, hh => by
    rw [totM]
    by_cases hx : x.fu ∈ seen
    · rw [if_pos hx, totM_map a hF r seen hh]
      refine List.map_congr_left fun f _ => ?_
      by_cases hf : f = x.fu
      · subst hf; simp [hx]
      · simp [hf]
    · rw [if_neg hx, updF_map hh x.fu hF, totM_map a hF r (seen ++ [x.fu]) (h := fun f => if f = x.fu then addTot a (h f) else h f) (fun f => by
        split
        · rw [addTot_fu]; exact hh f
        · exact hh f)]
      refine List.map_congr_left fun f _ => ?_
      by_cases hf : f = x.fu
      · subst hf; simp [hx]
      · simp [hf]
theorem costs_map {l : List Ev} {fuel : Int} (hv : Vd l) : ∀ i, i ≤ l.length → (costsAt l fuel i).out = (seenF l i).map fun f => costI l fuel f i
  | 0, _ => rfl
  | i + 1, hi => by
    have he : l[i]? = some l[i] := List.getElem?_eq_getElem (by omega)
    have ih := costs_map (fuel := fuel) hv i (by omega)
    have hnd := seenF_nd (l := l) (i + 1)
    have hst := stack_act hv (i + 1) hi
    have hfu : ∀ f, (costI l fuel f i).fu = f := fun f => costI_fu i
    have hens : ensF (costsAt l fuel i).out l[i].fu = (seenF l (i + 1)).map fun f => costI l fuel f i := by
      have hk : (costsAt l fuel i).out.map Co.fu = seenF l i := by rw [ih, List.map_map]; simp [Function.comp_def, hfu]
      rw [seenF_succ he]
      unfold ensF
      rw [hk]
      by_cases hm : l[i].fu ∈ seenF l i
      · rw [if_pos hm, if_pos hm, ih]
      · rw [if_neg hm, if_neg hm, ih, List.map_append, List.map_cons, List.map_nil, costI_unseen hv i (by omega) hm]
    rw [costsAt_succ he]
    unfold stepC
    rw [hens]
    generalize seenF l (i + 1) = F at *
    dsimp only
    have hc : ∀ f, costI l fuel f (i + 1) = costStep f (costI l fuel f i) l[i] (amt l fuel i) (actAt l (i + 1)) := fun f => costI_succ he
    simp only [hc]
    rw [← hst]
    generalize amt l fuel i = a at *
    generalize stackAt l (i + 1) = s at *
    generalize l[i] = e at *
    rw [updF_map hfu e.fu hnd]
    have hfu1 : ∀ f, (if f = e.fu then bump e.kind (costI l fuel f i) else costI l fuel f i).fu = f := fun f => by
      split
      · rw [bump_fu]; exact hfu f
      · exact hfu f
    rcases List.eq_nil_or_concat s with rfl | ⟨L, t, rfl⟩
    · simp only [List.getLast?_nil]
      refine List.map_congr_left fun f _ => ?_
      unfold costStep
      simp [eq_comm]
    · rw [List.concat_eq_append] at *
      simp only [List.getLast?_append, List.getLast?_singleton, Option.some_or]
      rw [updF_map hfu1 t.fu hnd, totM_map a hnd (L ++ [t]) [] (h := fun f => if f = t.fu then addOwn a (if f = e.fu then bump e.kind (costI l fuel f i) else costI l fuel f i) else if f = e.fu then bump e.kind (costI l fuel f i) else costI l fuel f i) (fun f => by
        split
        · rw [addOwn_fu]; exact hfu1 f
        · exact hfu1 f)]
      refine List.map_congr_left fun f _ => ?_
      unfold costStep
      dsimp only
      have hmem : f ∈ (L ++ [t]).map (fun a => ((a.md, a.fn) : Fu)) ↔ f ∈ (L ++ [t]).map Ac.fu := Iff.rfl
      have hlast : ((L ++ [t]).map fun a => ((a.md, a.fn) : Fu)).getLast? = some t.fu := by simp [Ac.fu]
      rw [hlast]
      generalize costI l fuel f i = c
      have hc1 : (if e.fu = f then bump e.kind c else c) = (if f = e.fu then bump e.kind c else c) := by
        by_cases h : f = e.fu
        · rw [if_pos h, if_pos h.symm]
        · rw [if_neg h, if_neg (Ne.symm h)]
      rw [hc1]
      generalize (if f = e.fu then bump e.kind c else c) = c1
      by_cases hm : f ∈ (L ++ [t]).map Ac.fu
      · have hm' := hmem.2 hm
        by_cases ht : f = t.fu
        · rw [if_pos ⟨hm, by simp⟩, if_pos ht, if_pos hm', if_pos ⟨hm', by rw [ht]⟩]; rfl
        · rw [if_pos ⟨hm, by simp⟩, if_neg ht, if_pos hm', if_neg (by rintro ⟨_, h⟩; injection h with h; exact ht h.symm)]
      · have hm' : ¬ f ∈ (L ++ [t]).map (fun a => ((a.md, a.fn) : Fu)) := fun h => hm (hmem.1 h)
        have ht : f ≠ t.fu := fun h => hm (by rw [h]; simp)
        rw [if_neg (fun h => hm h.1), if_neg ht, if_neg hm', if_neg (fun h => hm' h.1)]
theorem costs_agree {l : List Ev} {fuel : Int} (hv : Vd l) : costsM l fuel = refCosts l fuel := by
  unfold costsM refCosts
  dsimp only
  rw [costs_map hv l.length (Nat.le_refl _), outK_rest hv l.length (Nat.le_refl _)]
end Go.Proofs.YtabmcfnefjipbaaDoor
namespace Go.Proofs.YtabmcfnefjipbaaDoor
open Go.RowKit
abbrev dfR (m : Int × Int) : SC := .a [.u (.int .i64 m.1), .u (.int .i64 m.2)]
theorem costs_bad {l : List Ev} {fuel : Int} (h0 : (checkM l fuel).1 ≠ 0) : CallsA Tryd.prog 7 [.d (.u (evs l)), di fuel] [] (Iso (.t [.d (.u .nl), dfR (checkM l fuel)]) []) := by
  have h1 := check_T l fuel
  generalize checkM l fuel = m at *
  obtain ⟨c, i⟩ := m
  dsimp only at *
  refine callsA_of_rfO (T := tt) Tryd.func7 rfl rfl rfl rfl rfl ?_
  repeat' ((conv => whnf); first | refine Gs.id ?_ | with_reducible refine And.intro ?_ ?_ | with_reducible refine Brn.T rfl ?_ | with_reducible refine Brn.F rfl ?_ | refine Brn.T (by (try simp only [smT]); first | rfl | assumption | omega | (simp only [*]; done) | (simp [*]; done) | fail) ?_ | refine Brn.F (by (try simp only [smT]); first | rfl | assumption | omega | (simp only [*]; done) | (simp [*]; done) | fail) ?_ | (refine Brn.mk (fun hb => ?_) (fun hb => ?_) <;> (try simp only [smT] at hb) <;> (try (exact absurd trivial hb)) <;> (try (exfalso; omega))) | (refine Bnd.mk (fun hm => ?_); (try simp only [smT] at hm)) | refine Rng.mk (by (try simp only [smT]); omega) ?_ | refine Ix.map rfl (by (try simp only [smT]); omega) ?_ | refine Ix.map (m := 0) rfl (by (try simp only [smT]); omega) ?_ | refine Ix.lit (m := 0) rfl rfl ?_ | refine Ixo.mk ⟨_, rfl, (by (try simp only [smT]); omega), ?_⟩ | refine Rw.lit rfl ?_ | refine Rw.self (by (try simp only [smT]); omega) ?_ | refine Rw.map (by (try simp only [smT]); omega) ?_ | refine Len.mk (by first | rfl | (simp; done) | (simp only [smT]; assumption) | (simp only [smT]; omega)) ?_ | refine Eqv.mk (by kernel_rfl) ?_ | refine Apd.mk (by first | rfl | simp) (by first | rfl | simp) (by (try simp only [smT]); first | omega | (simp; omega)) (by unfold maxLen; first | (simp; done) | (simp; omega) | omega) ?_ | refine Raw.capNil (T := tt) rfl rfl rfl rfl ?_ | refine Raw.sliceNil (T := tt) rfl rfl (by first | rfl | omega | (simp; done)) rfl rfl rfl rfl ?_ | refine Raw.makeMap (T := tt) rfl rfl rfl rfl rfl rfl (.inl rfl) rfl rfl ?_ | refine Raw.mapUpdate (T := tt) (.inl rfl) rfl rfl rfl rfl rfl rfl rfl rfl rfl rfl rfl (by assumption) ?_ | refine Pm.mk (by first | assumption | omega | (simp; done) | (simp; omega)) (by first | assumption | omega | (simp; done) | (simp; omega)) ?_ | (refine Raw.appendR (T := tt) ?_; (conv => whnf); first | refine Rw.lit rfl ?_ | refine Rw.self (by (try simp only [smT]); omega) ?_ | refine Rw.map (by (try simp only [smT]); omega) ?_) | refine Raw.appendIn (T := tt) rfl rfl rfl rfl rfl rfl rfl rfl rfl rfl (by (try simp only [smT]); omega) (by (try simp only [smT]); omega) ?_ | refine Raw.clear (T := tt) rfl rfl rfl rfl rfl rfl rfl (by (try simp only [smT]); omega) ?_ | refine Slc.mk ⟨_, _, rfl, rfl, (by (try simp only [smT]); omega), (by (try simp only [smT]); omega), ?_⟩ | refine Slc.mk ⟨0, _, rfl, rfl, (by (try simp only [smT]); omega), (by (try simp only [smT]); omega), ?_⟩ | refine Slc.mk ⟨1, _, rfl, rfl, (by (try simp only [smT]); omega), (by (try simp only [smT]); omega), ?_⟩ | refine Slc3.mk ⟨_, _, _, rfl, rfl, rfl, (by (try simp only [smT]); omega), (by (try simp only [smT]); omega), (by (try simp only [smT]); omega)⟩ ?_ | refine Raw.mapUpdateS (T := tt) (.inl rfl) rfl rfl rfl rfl rfl rfl rfl rfl rfl rfl rfl rfl rfl (by kernel_rfl) (by assumption) ?_ | refine Drw.of (T := tt) (i := 3) [2] [] [(0, true), (1, true), (2, false)] (by kernel_rfl) ?_ | refine Drw.of (T := tt) (i := 9) [] [] [(0, true), (1, true), (2, true), (3, false), (4, true), (5, true), (6, true), (7, true), (8, true), (9, true)] (by kernel_rfl) ?_ | refine Drw.of (T := tt) (i := 12) [5] [] [(0, true), (1, true), (2, true), (4, true), (3, false), (5, false)] (by kernel_rfl) ?_ | refine Drw.of (T := tt) (i := 14) [18] [] [(0, true), (1, true), (2, true), (3, true), (4, true), (5, true), (6, true), (7, true), (8, true), (9, true), (10, true), (11, true), (12, true), (13, true), (14, true), (15, true), (16, true), (17, false), (18, false)] (by kernel_rfl) ?_ | refine Drw.of (T := tt) (i := 19) [18] [] [(0, true), (1, true), (2, true), (3, true), (4, true), (5, true), (6, true), (7, true), (8, true), (9, true), (10, true), (11, true), (12, true), (13, true), (14, true), (15, true), (16, true), (17, true), (18, false)] (by kernel_rfl) ?_ | refine Drw.of (T := tt) (i := 26) [13] [] [(0, true), (1, true), (2, true), (3, true), (4, true), (5, true), (6, true), (7, true), (8, true), (9, true), (10, true), (11, true), (12, true), (13, false)] (by kernel_rfl) ?_ | (refine CL.mk (Or.inl ?_); (conv => whnf); first | refine Cl.is (h1) rfl (by first | exact fun _ => rfl | (intro e; cases e; done) | fail) ?_) | (refine CL.mk (Or.inl ?_); (conv => whnf); refine ClO.mk (Or.inl ?_); (repeat ((conv => whnf); refine Len.mk (by first | rfl | (simp; done) | (simp only [smT]; assumption) | (simp only [smT]; omega)) ?_)); (conv => whnf); first | refine Cl.is (h1) rfl (by first | exact fun _ => rfl | (intro e; cases e; done) | fail) ?_) | (refine CL.mk (Or.inl ?_); (conv => whnf); refine ClO.mk (Or.inr ?_); (repeat ((conv => whnf); refine Len.mk (by first | rfl | (simp; done) | (simp only [smT]; assumption) | (simp only [smT]; omega)) ?_)); (conv => whnf); first | refine Cl.is (h1) rfl (by first | exact fun _ => rfl | (intro e; cases e; done) | fail) ?_))
  all_goals (conv => whnf)
  all_goals refine RetO.mk ⟨[], _, _, (by first | exact LeS.d (by first | exact LeD.u rfl | exact LeD.p rfl | exact LeD.ow rfl rfl | exact LeD.ow rfl (by simp) | exact LeD.no rfl rfl | exact LeD.nl (by first | rfl | simp) | exact LeD.u (by simp; done) | exact LeD.u (by congr 1; omega) | exact LeD.q rfl | exact LeD.r rfl | exact LeD.r (by simp; done) | exact LeD.re | exact LeD.mp rfl | exact LeD.ows rfl rfl rfl | exact LeD.u (by congr 1; congr 1; simp) | exact LeD.fn (by repeat (first | exact LeN.nil | refine LeN.cons rfl ?_))) | exact LeS.a (by repeat (first | exact LeL.nil | refine LeL.cons (by first | exact LeD.u rfl | exact LeD.p rfl | exact LeD.ow rfl rfl | exact LeD.ow rfl (by simp) | exact LeD.no rfl rfl | exact LeD.nl (by first | rfl | simp) | exact LeD.u (by simp; done) | exact LeD.u (by congr 1; omega) | exact LeD.q rfl | exact LeD.r rfl | exact LeD.r (by simp; done) | exact LeD.re | exact LeD.mp rfl | exact LeD.ows rfl rfl rfl | exact LeD.u (by congr 1; congr 1; simp) | exact LeD.fn (by repeat (first | exact LeN.nil | refine LeN.cons rfl ?_))) ?_)) | exact LeS.ts (by repeat (first | exact LeCs.nil | refine LeCs.cons (by first | exact LeC.d (by first | exact LeD.u rfl | exact LeD.p rfl | exact LeD.ow rfl rfl | exact LeD.ow rfl (by simp) | exact LeD.no rfl rfl | exact LeD.nl (by first | rfl | simp) | exact LeD.u (by simp; done) | exact LeD.u (by congr 1; omega) | exact LeD.q rfl | exact LeD.r rfl | exact LeD.r (by simp; done) | exact LeD.re | exact LeD.mp rfl | exact LeD.ows rfl rfl rfl | exact LeD.u (by congr 1; congr 1; simp) | exact LeD.fn (by repeat (first | exact LeN.nil | refine LeN.cons rfl ?_))) | exact LeC.a (by repeat (first | exact LeL.nil | refine LeL.cons (by first | exact LeD.u rfl | exact LeD.p rfl | exact LeD.ow rfl rfl | exact LeD.ow rfl (by simp) | exact LeD.no rfl rfl | exact LeD.nl (by first | rfl | simp) | exact LeD.u (by simp; done) | exact LeD.u (by congr 1; omega) | exact LeD.q rfl | exact LeD.r rfl | exact LeD.r (by simp; done) | exact LeD.re | exact LeD.mp rfl | exact LeD.ows rfl rfl rfl | exact LeD.u (by congr 1; congr 1; simp) | exact LeD.fn (by repeat (first | exact LeN.nil | refine LeN.cons rfl ?_))) ?_))) ?_))), (by repeat (first | exact LeO.nil | refine LeO.bx rfl rfl (by repeat (first | exact LeL.nil | refine LeL.cons (by first | exact LeD.u rfl | exact LeD.p rfl | exact LeD.ow rfl rfl | exact LeD.ow rfl (by simp) | exact LeD.no rfl rfl | exact LeD.nl (by first | rfl | simp) | exact LeD.u (by simp; done) | exact LeD.u (by congr 1; omega) | exact LeD.q rfl | exact LeD.r rfl | exact LeD.r (by simp; done) | exact LeD.re | exact LeD.mp rfl | exact LeD.ows rfl rfl rfl | exact LeD.u (by congr 1; congr 1; simp) | exact LeD.fn (by repeat (first | exact LeN.nil | refine LeN.cons rfl ?_))) ?_)) ?_ | refine LeO.ar rfl rfl (by first | rfl | simp) ?_ | refine LeO.ab rfl rfl (by repeat (first | exact LeL.nil | refine LeL.cons (by first | exact LeD.u rfl | exact LeD.p rfl | exact LeD.ow rfl rfl | exact LeD.ow rfl (by simp) | exact LeD.no rfl rfl | exact LeD.nl (by first | rfl | simp) | exact LeD.u (by simp; done) | exact LeD.u (by congr 1; omega) | exact LeD.q rfl | exact LeD.r rfl | exact LeD.r (by simp; done) | exact LeD.re | exact LeD.mp rfl | exact LeD.ows rfl rfl rfl | exact LeD.u (by congr 1; congr 1; simp) | exact LeD.fn (by repeat (first | exact LeN.nil | refine LeN.cons rfl ?_))) ?_)) (by first | rfl | simp) ?_ | refine LeO.fm rfl (by first | rfl | simp) ?_ | refine LeO.mp rfl rfl (by first | rfl | simp) ?_ | refine LeO.no rfl rfl ?_)), rfl, rfl⟩
theorem lines_bad {l : List Ev} {fuel : Int} (h0 : (checkM l fuel).1 ≠ 0) : CallsA Tryd.prog 13 [.d (.u (evs l)), di fuel] [] (Iso (.t [.d (.u .nl), dfR (checkM l fuel)]) []) := by
  have h1 := check_T l fuel
  generalize checkM l fuel = m at *
  obtain ⟨c, i⟩ := m
  dsimp only at *
  refine callsA_of_rfO (T := tt) Tryd.func13 rfl rfl rfl rfl rfl ?_
  repeat' ((conv => whnf); first | refine Gs.id ?_ | with_reducible refine And.intro ?_ ?_ | with_reducible refine Brn.T rfl ?_ | with_reducible refine Brn.F rfl ?_ | refine Brn.T (by (try simp only [smT]); first | rfl | assumption | omega | (simp only [*]; done) | (simp [*]; done) | fail) ?_ | refine Brn.F (by (try simp only [smT]); first | rfl | assumption | omega | (simp only [*]; done) | (simp [*]; done) | fail) ?_ | (refine Brn.mk (fun hb => ?_) (fun hb => ?_) <;> (try simp only [smT] at hb) <;> (try (exact absurd trivial hb)) <;> (try (exfalso; omega))) | (refine Bnd.mk (fun hm => ?_); (try simp only [smT] at hm)) | refine Rng.mk (by (try simp only [smT]); omega) ?_ | refine Ix.map rfl (by (try simp only [smT]); omega) ?_ | refine Ix.map (m := 0) rfl (by (try simp only [smT]); omega) ?_ | refine Ix.lit (m := 0) rfl rfl ?_ | refine Ixo.mk ⟨_, rfl, (by (try simp only [smT]); omega), ?_⟩ | refine Rw.lit rfl ?_ | refine Rw.self (by (try simp only [smT]); omega) ?_ | refine Rw.map (by (try simp only [smT]); omega) ?_ | refine Len.mk (by first | rfl | (simp; done) | (simp only [smT]; assumption) | (simp only [smT]; omega)) ?_ | refine Eqv.mk (by kernel_rfl) ?_ | refine Apd.mk (by first | rfl | simp) (by first | rfl | simp) (by (try simp only [smT]); first | omega | (simp; omega)) (by unfold maxLen; first | (simp; done) | (simp; omega) | omega) ?_ | refine Raw.capNil (T := tt) rfl rfl rfl rfl ?_ | refine Raw.sliceNil (T := tt) rfl rfl (by first | rfl | omega | (simp; done)) rfl rfl rfl rfl ?_ | refine Raw.makeMap (T := tt) rfl rfl rfl rfl rfl rfl (.inl rfl) rfl rfl ?_ | refine Raw.mapUpdate (T := tt) (.inl rfl) rfl rfl rfl rfl rfl rfl rfl rfl rfl rfl rfl (by assumption) ?_ | refine Pm.mk (by first | assumption | omega | (simp; done) | (simp; omega)) (by first | assumption | omega | (simp; done) | (simp; omega)) ?_ | (refine Raw.appendR (T := tt) ?_; (conv => whnf); first | refine Rw.lit rfl ?_ | refine Rw.self (by (try simp only [smT]); omega) ?_ | refine Rw.map (by (try simp only [smT]); omega) ?_) | refine Raw.appendIn (T := tt) rfl rfl rfl rfl rfl rfl rfl rfl rfl rfl (by (try simp only [smT]); omega) (by (try simp only [smT]); omega) ?_ | refine Raw.clear (T := tt) rfl rfl rfl rfl rfl rfl rfl (by (try simp only [smT]); omega) ?_ | refine Slc.mk ⟨_, _, rfl, rfl, (by (try simp only [smT]); omega), (by (try simp only [smT]); omega), ?_⟩ | refine Slc.mk ⟨0, _, rfl, rfl, (by (try simp only [smT]); omega), (by (try simp only [smT]); omega), ?_⟩ | refine Slc.mk ⟨1, _, rfl, rfl, (by (try simp only [smT]); omega), (by (try simp only [smT]); omega), ?_⟩ | refine Slc3.mk ⟨_, _, _, rfl, rfl, rfl, (by (try simp only [smT]); omega), (by (try simp only [smT]); omega), (by (try simp only [smT]); omega)⟩ ?_ | refine Raw.mapUpdateS (T := tt) (.inl rfl) rfl rfl rfl rfl rfl rfl rfl rfl rfl rfl rfl rfl rfl (by kernel_rfl) (by assumption) ?_ | refine Drw.of (T := tt) (i := 3) [2] [] [(0, true), (1, true), (2, false)] (by kernel_rfl) ?_ | refine Drw.of (T := tt) (i := 13) [15] [] [(0, true), (1, true), (2, true), (3, true), (4, true), (5, true), (10, true), (11, true), (6, false), (7, true), (8, true), (9, true), (12, true), (13, true), (14, true), (15, false)] (by kernel_rfl) ?_ | (refine CL.mk (Or.inl ?_); (conv => whnf); first | refine Cl.is (h1) rfl (by first | exact fun _ => rfl | (intro e; cases e; done) | fail) ?_) | (refine CL.mk (Or.inl ?_); (conv => whnf); refine ClO.mk (Or.inl ?_); (repeat ((conv => whnf); refine Len.mk (by first | rfl | (simp; done) | (simp only [smT]; assumption) | (simp only [smT]; omega)) ?_)); (conv => whnf); first | refine Cl.is (h1) rfl (by first | exact fun _ => rfl | (intro e; cases e; done) | fail) ?_) | (refine CL.mk (Or.inl ?_); (conv => whnf); refine ClO.mk (Or.inr ?_); (repeat ((conv => whnf); refine Len.mk (by first | rfl | (simp; done) | (simp only [smT]; assumption) | (simp only [smT]; omega)) ?_)); (conv => whnf); first | refine Cl.is (h1) rfl (by first | exact fun _ => rfl | (intro e; cases e; done) | fail) ?_))
  all_goals (conv => whnf)
  all_goals refine RetO.mk ⟨[], _, _, (by first | exact LeS.d (by first | exact LeD.u rfl | exact LeD.p rfl | exact LeD.ow rfl rfl | exact LeD.ow rfl (by simp) | exact LeD.no rfl rfl | exact LeD.nl (by first | rfl | simp) | exact LeD.u (by simp; done) | exact LeD.u (by congr 1; omega) | exact LeD.q rfl | exact LeD.r rfl | exact LeD.r (by simp; done) | exact LeD.re | exact LeD.mp rfl | exact LeD.ows rfl rfl rfl | exact LeD.u (by congr 1; congr 1; simp) | exact LeD.fn (by repeat (first | exact LeN.nil | refine LeN.cons rfl ?_))) | exact LeS.a (by repeat (first | exact LeL.nil | refine LeL.cons (by first | exact LeD.u rfl | exact LeD.p rfl | exact LeD.ow rfl rfl | exact LeD.ow rfl (by simp) | exact LeD.no rfl rfl | exact LeD.nl (by first | rfl | simp) | exact LeD.u (by simp; done) | exact LeD.u (by congr 1; omega) | exact LeD.q rfl | exact LeD.r rfl | exact LeD.r (by simp; done) | exact LeD.re | exact LeD.mp rfl | exact LeD.ows rfl rfl rfl | exact LeD.u (by congr 1; congr 1; simp) | exact LeD.fn (by repeat (first | exact LeN.nil | refine LeN.cons rfl ?_))) ?_)) | exact LeS.ts (by repeat (first | exact LeCs.nil | refine LeCs.cons (by first | exact LeC.d (by first | exact LeD.u rfl | exact LeD.p rfl | exact LeD.ow rfl rfl | exact LeD.ow rfl (by simp) | exact LeD.no rfl rfl | exact LeD.nl (by first | rfl | simp) | exact LeD.u (by simp; done) | exact LeD.u (by congr 1; omega) | exact LeD.q rfl | exact LeD.r rfl | exact LeD.r (by simp; done) | exact LeD.re | exact LeD.mp rfl | exact LeD.ows rfl rfl rfl | exact LeD.u (by congr 1; congr 1; simp) | exact LeD.fn (by repeat (first | exact LeN.nil | refine LeN.cons rfl ?_))) | exact LeC.a (by repeat (first | exact LeL.nil | refine LeL.cons (by first | exact LeD.u rfl | exact LeD.p rfl | exact LeD.ow rfl rfl | exact LeD.ow rfl (by simp) | exact LeD.no rfl rfl | exact LeD.nl (by first | rfl | simp) | exact LeD.u (by simp; done) | exact LeD.u (by congr 1; omega) | exact LeD.q rfl | exact LeD.r rfl | exact LeD.r (by simp; done) | exact LeD.re | exact LeD.mp rfl | exact LeD.ows rfl rfl rfl | exact LeD.u (by congr 1; congr 1; simp) | exact LeD.fn (by repeat (first | exact LeN.nil | refine LeN.cons rfl ?_))) ?_))) ?_))), (by repeat (first | exact LeO.nil | refine LeO.bx rfl rfl (by repeat (first | exact LeL.nil | refine LeL.cons (by first | exact LeD.u rfl | exact LeD.p rfl | exact LeD.ow rfl rfl | exact LeD.ow rfl (by simp) | exact LeD.no rfl rfl | exact LeD.nl (by first | rfl | simp) | exact LeD.u (by simp; done) | exact LeD.u (by congr 1; omega) | exact LeD.q rfl | exact LeD.r rfl | exact LeD.r (by simp; done) | exact LeD.re | exact LeD.mp rfl | exact LeD.ows rfl rfl rfl | exact LeD.u (by congr 1; congr 1; simp) | exact LeD.fn (by repeat (first | exact LeN.nil | refine LeN.cons rfl ?_))) ?_)) ?_ | refine LeO.ar rfl rfl (by first | rfl | simp) ?_ | refine LeO.ab rfl rfl (by repeat (first | exact LeL.nil | refine LeL.cons (by first | exact LeD.u rfl | exact LeD.p rfl | exact LeD.ow rfl rfl | exact LeD.ow rfl (by simp) | exact LeD.no rfl rfl | exact LeD.nl (by first | rfl | simp) | exact LeD.u (by simp; done) | exact LeD.u (by congr 1; omega) | exact LeD.q rfl | exact LeD.r rfl | exact LeD.r (by simp; done) | exact LeD.re | exact LeD.mp rfl | exact LeD.ows rfl rfl rfl | exact LeD.u (by congr 1; congr 1; simp) | exact LeD.fn (by repeat (first | exact LeN.nil | refine LeN.cons rfl ?_))) ?_)) (by first | rfl | simp) ?_ | refine LeO.fm rfl (by first | rfl | simp) ?_ | refine LeO.mp rfl rfl (by first | rfl | simp) ?_ | refine LeO.no rfl rfl ?_)), rfl, rfl⟩
end Go.Proofs.YtabmcfnefjipbaaDoor
namespace Go.Proofs.YtabmcfnefjipbaaDoor
open Go.RowKit
theorem costs_le {l : List Ev} {fuel : Int} : (costsM l fuel).length ≤ l.length + 1 := by
  have := costs_len (l := l) (fuel := fuel) l.length
  unfold costsM
  dsimp only
  split
  · simp; omega
  · omega
set_option maxHeartbeats 4000000 in
theorem law_costs_T (l : List Ev) (fuel : Int) (hsz : ∀ e ∈ l, e.md.size ≤ 1000000000000) (hx : fuel ≤ 9223372036854775807) (zt : Fz) (hz : Tab zt) : CallsA Tryd.prog 3 [.d (.u (evs l)), di fuel] [(907, tbOb zt)] (Iso (db true) [(907, tbOb zt)]) := by
  have hv := validate_T l
  have ht := trace_R l hsz
  have hf := fuelFault_T l fuel hsz
  have hp := profiled_T zt hz
  by_cases h0 : (checkM l fuel).1 = 0
  · have hc := checkM_zero h0
    have t := check_Tr (l := l) (fuel := fuel) h0 hx
    have h1 := costs_ok hc hx
    have h2 := costs_R t
    have hle := costs_le (l := l) (fuel := fuel)
    have hL := t.len
    rw [← costs_agree t.vd] at h2
    rw [hc] at hf
    generalize costsM l fuel = cs at *
    generalize validM l = v at *
    refine callsA_of_vcO (T := tt) Tryd.func3 rfl rfl rfl rfl rfl ?_
    repeat' ((conv => whnf); first | refine Gs.id ?_ | with_reducible refine Brn.F rfl ?_ | refine Brn.F (by (try simp only [smT]); first | rfl | (simp [*]; done) | fail) ?_ | (refine Brn.mk (fun hb => ?_) (fun hb => ?_) <;> (try simp only [smT] at hb) <;> (try (exact absurd trivial hb)) <;> (try (exfalso; omega))) | (refine Bnd.mk (fun hm => ?_); (try simp only [smT] at hm)) | refine Eqv.mk (by kernel_rfl) ?_ | (refine CL.mk (Or.inl ?_); (conv => whnf); first | refine Cl.is (hv) rfl (by first | exact fun _ => rfl | fail) ?_ | refine Cl.is (ht) rfl (by first | exact fun _ => rfl | fail) ?_ | refine Cl.is (hf) rfl (by first | exact fun _ => rfl | fail) ?_ | refine Cl.is (h2) rfl (by first | (intro e; cases e; done) | fail) ?_) | (refine CL.mk (Or.inr (Raw.callI [] [901] rfl rfl rfl rfl rfl rfl rfl (h1) ?_)); rintro _ _ ⟨rfl, rfl⟩; refine Bk.mk rfl rfl ?_))
    all_goals (conv => whnf)
    refine ⟨⟨Nat, fun i => i ≤ cs.length, fun i => cs.length - i, fun i => ⟨[(5, .d (.ow 901 cs.length)), (8, .d (.u (.sl 8 (cs.map coR)))), (9, di i)], [(901, .ar 33 8 (cs.map coR)), (907, tbOb zt)]⟩, 0, Nat.zero_le _, ⟨[(901, .k 901), (907, .k 907)], ⟨by (try dsimp only); (repeat (refine LeT.cons rfl (by first | exact LeS.d (by first | exact LeD.u rfl | exact LeD.ow rfl rfl | fail) | fail) ?_)); exact LeT.nil, by (try dsimp only); repeat (first | exact LeO.nil | refine LeO.ar rfl rfl (by first | rfl | fail) ?_ | refine LeO.ab rfl rfl (by repeat (first | exact LeL.nil | fail)) (by first | rfl | fail) ?_ | fail)⟩⟩, fun i hi => ?_⟩⟩
    dsimp only at hi ⊢
    by_cases h9 : i < cs.length
    · have hg : (cs.map coR)[i]? = some (coR cs[i]) := by rw [List.getElem?_map, List.getElem?_eq_getElem h9]; rfl
      generalize cs[i] = c at *
      repeat' ((conv => whnf); first | refine (Ix.mk ⟨i, coR c, rfl, hg, ?_⟩) | refine Rw.get hg ?_ | refine Gs.id ?_ | refine Brn.T (by (try simp only [smT]); first | rfl | omega | fail) ?_ | refine Brn.F (by (try simp only [smT]); first | rfl | (simp [*]; done) | fail) ?_ | (refine Bnd.mk (fun hm => ?_); (try simp only [smT] at hm)) | refine Rng.mk (by (try simp only [smT]); omega) ?_ | refine Ixo.mk ⟨_, rfl, (by (try simp only [smT]); omega), ?_⟩ | refine Eqv.mk (by kernel_rfl) ?_ | refine Drw.of (T := tt) (i := 13) [] [] [(0, true), (1, true), (2, true), (3, true), (4, true), (5, true), (6, true), (7, true), (8, true)] (by kernel_rfl) ?_)
      all_goals (conv => whnf)
      all_goals exact ⟨i + 1, by omega, by omega, [(901, .k 901), (907, .k 907)], ⟨by (try dsimp only); (repeat (refine LeT.cons rfl (by first | exact LeS.d (by first | exact LeD.u rfl | exact LeD.ow rfl rfl | fail) | fail) ?_)); exact LeT.nil, by (try dsimp only); repeat (first | exact LeO.nil | refine LeO.ar rfl rfl (by first | rfl | fail) ?_ | refine LeO.ab rfl rfl (by repeat (first | exact LeL.nil | fail)) (by first | rfl | fail) ?_ | fail)⟩⟩
    · obtain rfl : i = cs.length := by omega
      repeat' ((conv => whnf); first | refine Gs.id ?_ | refine Brn.F (by (try simp only [smT]); first | rfl | omega | fail) ?_ | (refine Bnd.mk (fun hm => ?_); (try simp only [smT] at hm)) | (refine CL.mk (Or.inr (Raw.callI [907] [907] rfl rfl rfl rfl rfl rfl rfl (hp) ?_)); rintro _ _ ⟨rfl, rfl⟩; refine Bk.mk rfl rfl ?_))
      all_goals (conv => whnf)
      all_goals refine RetO.mk ⟨[(907, .k 907)], _, _, (by first | exact LeS.d (by first | exact LeD.u rfl | fail) | fail), (by repeat (first | exact LeO.nil | refine LeO.ab rfl rfl (by repeat (first | exact LeL.nil | fail)) (by first | rfl | fail) ?_ | fail)), rfl, rfl⟩
  · have h1 := costs_bad h0
    generalize validM l = v at *
    generalize checkM l fuel = m at *
    obtain ⟨c, i⟩ := m
    dsimp only at *
    refine callsA_of_vcO (T := tt) Tryd.func3 rfl rfl rfl rfl rfl ?_
    repeat' ((conv => whnf); first | refine Gs.id ?_ | with_reducible refine Brn.T rfl ?_ | refine Brn.T (by (try simp only [smT]); first | rfl | assumption | (simp [*]; done) | fail) ?_ | refine Brn.F (by (try simp only [smT]); first | rfl | (simp [*]; done) | fail) ?_ | refine Eqv.mk (by kernel_rfl) ?_ | (refine CL.mk (Or.inl ?_); (conv => whnf); first | refine Cl.is (hv) rfl (by first | exact fun _ => rfl | fail) ?_ | refine Cl.is (ht) rfl (by first | exact fun _ => rfl | fail) ?_ | refine Cl.is (hf) rfl (by first | exact fun _ => rfl | fail) ?_ | refine Cl.is (h1) rfl (by first | exact fun _ => rfl | fail) ?_) | (refine CL.mk (Or.inr (Raw.callI [907] [907] rfl rfl rfl rfl rfl rfl rfl (hp) ?_)); rintro _ _ ⟨rfl, rfl⟩; refine Bk.mk rfl rfl ?_))
    all_goals (conv => whnf)
    all_goals refine RetO.mk ⟨[(907, .k 907)], _, _, (by first | exact LeS.d (by first | exact LeD.u rfl | fail) | fail), (by repeat (first | exact LeO.nil | refine LeO.ab rfl rfl (by repeat (first | exact LeL.nil | fail)) (by first | rfl | fail) ?_ | fail)), rfl, rfl⟩
end Go.Proofs.YtabmcfnefjipbaaDoor
namespace Go.Proofs.YtabmcfnefjipbaaDoor
open Go.ChangeShapes Go.WideShapes Go.ChangeAt Go.RowKit

section
variable {H : Type} {enc : TypeId × Value → H} {P : Program}

theorem trodAll_stays (hl : laidOutB P = true) {W W' : World} {sp' : Nat → Bool} : ∀ {ts : List TypeId} {vs : List Value} {ds : List (DataW H)} {ps : List MemPlace}, (∀ t ∈ ts, P.readableRec t = true ∧ t < P.types.size) →
    DataW.TrodAll enc P W 0 (fun _ => true) true ts vs ds ps → (∀ p ∈ ps, W.sameAt W' p) → (∀ p ∈ ps, sp' p.block = true) → DataW.TrodAll enc P W' 0 sp' true ts vs ds ps
  | [], [], [], _, _, h, _, _ => h
  | _ :: _, _ :: _, _ :: _, _, hT, ⟨p, q, h1, h2, e⟩, hm, hs =>
    ⟨p, q, WideElems.Trod_stays hl (hT _ (List.mem_cons.2 (Or.inl rfl))).1 (hT _ (List.mem_cons.2 (Or.inl rfl))).2 h1 (fun x hx => hm x (by rw [e]; exact List.mem_append_left _ hx)) (fun x hx => hs x (by rw [e]; exact List.mem_append_left _ hx)),
      trodAll_stays hl (fun t ht => hT t (List.mem_cons.2 (Or.inr ht))) h2 (fun x hx => hm x (by rw [e]; exact List.mem_append_right _ hx)) (fun x hx => hs x (by rw [e]; exact List.mem_append_right _ hx)), e⟩
  | [], [], _ :: _, _, _, h, _, _ => h.elim
  | [], _ :: _, _, _, _, h, _, _ => h.elim
  | _ :: _, [], _, _, _, h, _, _ => h.elim
  | _ :: _, _ :: _, [], _, _, h, _, _ => h.elim

/-- One closed fact: each parameter's type can be read and is a row of the table. -/
def paramsRead (P : Program) (fn : Func) : Bool := fn.params.toList.all fun t => P.readableRec t && decide (t < P.types.size)

theorem post_of_below {f : Func} {s : ChangeSpec} {apart fresh handsOn again : Bool} {W W' : World} {args : Array Value} {ds : List (DataW H)} {before : List MemPlace} {tb : TypeId}
    (hl : laidOutB P = true) (hT : paramsRead P f = true) (hres : f.resultTypes = #[tb]) (htb : P.underlying tb = some .bool) (hvars : s.vars = [])
    (hsp : s.fn H ds = { results := [.lit (.bool true)], args := ds })
    (hW : DataW.Whole enc P f.params.toList s.vars apart W args.toList ds [] before) (hb : Below W.heap.size W W') :
    s.post enc P f apart fresh handsOn again W args (.bool true) W' := by
  have hT' : ∀ t ∈ f.params.toList, P.readableRec t = true ∧ t < P.types.size := fun t ht => by
    have := List.all_eq_true.1 hT t ht
    simpa using this
  have hlt := hW.lt
  have hW' := hW
  obtain ⟨p, q, hA, hV, he, hz, hn⟩ := hW
  have hq : q = [] := by
    rw [hvars] at hV
    exact (trodVars_none hV).2
  subst hq
  rw [List.append_nil] at he
  subst he
  have hR : ∀ (b : Nat) (sp : Nat → Bool) (hd : Bool), DataW.TrodAll enc P W' b sp hd f.resultTypes.toList ((Value.bool true).resultList f.resultTypes.size) (s.fn H (ds ++ [])).results [] := by
    intro b sp hd
    rw [List.append_nil, hsp, hres]
    exact trodAll_mk1 (shut_bool htb _)
  have hG : ∀ sp : Nat → Bool, (∀ p' ∈ before, sp p'.block = true) → DataW.TrodAll enc P W' 0 sp true f.params.toList args.toList (s.fn H (ds ++ [])).args before := by
    intro sp h
    rw [List.append_nil, hsp]
    exact trodAll_stays hl hT' hA (fun x hx => hb.same (hlt x hx)) h
  have hU : ∀ sp : Nat → Bool, DataW.TrodVars enc P W' sp s.vars (s.fn H (ds ++ [])).vars [] := by
    intro sp
    rw [hvars, List.append_nil, hsp]
    rfl
  refine ⟨ds, [], before, [], before, [], hW', hR _ _ _, hG _ (fun x hx => by simpa using hlt x hx), hU _, hb.frame _, fun _ => ?_⟩
  refine ⟨ok_one hres rfl (okWide_bool_mk htb _), _, _, ([] ++ before) ++ [], ⟨[] ++ before, [], trodAll_append (hG _ (fun _ _ => rfl)) (hR _ _ _), hU _, rfl, ?_, ?_⟩, ?_⟩
  · intro b off hp
    have hp' := by simpa using hp
    rw [hb.frozen (hlt _ hp')]
    exact hz b off hp'
  · intro ha
    simpa using hn ha
  · intro x hx _
    simpa using hx
end

end Go.Proofs.YtabmcfnefjipbaaDoor
namespace Go.Proofs.YtabmcfnefjipbaaDoor
theorem bulk_one {H : Type} (d : DataW H) : 1 ≤ Rows.uptoBulk d := by
  cases d with
  | lit l => cases l <;> simp [Rows.uptoBulk]
  | nil => simp [Rows.uptoBulk]
  | ptr d => simp [Rows.uptoBulk]
  | slice elems spare => simp [Rows.uptoBulk]
  | agg parts => simp [Rows.uptoBulk]
  | iface t d => simp [Rows.uptoBulk]
  | map entries => simp [Rows.uptoBulk]
  | held h => simp [Rows.uptoBulk]
theorem bulk_len {H : Type} : ∀ (l : List (DataW H)), l.length ≤ Rows.uptoBulkAll l
  | [] => by simp [Rows.uptoBulkAll]
  | x :: r => by have := bulk_one x; have := bulk_len r; simp only [Rows.uptoBulkAll, List.length_cons]; omega
theorem bulk_entry {H : Type} (x : Lit × DataW H) : Rows.uptoBulk x.2 + 1 ≤ Rows.uptoBulkEntry x := by
  obtain ⟨l, d⟩ := x
  cases l <;> simp [Rows.uptoBulkEntry] <;> omega
theorem bulk_entries {H : Type} : ∀ (l : List (Lit × DataW H)), l.length ≤ Rows.uptoBulkEntries l
  | [] => by simp [Rows.uptoBulkEntries]
  | x :: r => by have := bulk_entry x; have := bulk_entries r; simp only [Rows.uptoBulkEntries, List.length_cons]; omega
theorem bulk_mem {H : Type} {d : DataW H} {l : List (DataW H)} (h : d ∈ l) : Rows.uptoBulk d ≤ Rows.uptoBulkAll l := by
  induction l with
  | nil => cases h
  | cons x r ih =>
    simp only [Rows.uptoBulkAll]
    rcases List.mem_cons.1 h with rfl | h
    · omega
    · have := ih h; omega
theorem le_of_mul {m a b C : Nat} (h : m ≤ a * C) (hab : a ≤ b) : m ≤ b * C := Nat.le_trans h (Nat.mul_le_mul_right C hab)
/-- The types of a type's parts are in the table; what they weigh. -/
def closedT (P : Program) : Bool := (List.range P.types.size).all fun t => decide (P.bytesOf t ≤ 4096) && match P.underlying t with
  | some (.slice e) => decide (e < P.types.size)
  | some (.pointer e) => decide (e < P.types.size)
  | some (.array _ e) => decide (e < P.types.size)
  | some (.map k e) => decide (k < P.types.size) && decide (e < P.types.size)
  | some (.struct fs) => (fs.toList.map (·.type)).all fun e => decide (e < P.types.size)
  | _ => true
theorem closed_at {P : Program} (hP : closedT P = true) {t : TypeId} (h : t < P.types.size) : P.bytesOf t ≤ 4096 ∧ (∀ e, P.underlying t = some (.slice e) → e < P.types.size) ∧ (∀ e, P.underlying t = some (.pointer e) → e < P.types.size) ∧ (∀ n e, P.underlying t = some (.array n e) → e < P.types.size) ∧ (∀ k e, P.underlying t = some (.map k e) → k < P.types.size ∧ e < P.types.size) ∧ (∀ fs, P.underlying t = some (.struct fs) → ∀ e ∈ fs.toList.map (·.type), e < P.types.size) := by
  have h1 := List.all_eq_true.1 hP t (List.mem_range.2 h)
  rw [Bool.and_eq_true] at h1
  obtain ⟨h1, h2⟩ := h1
  refine ⟨of_decide_eq_true h1, fun e q => ?_, fun e q => ?_, fun n e q => ?_, fun k e q => ?_, fun fs q => ?_⟩
  · rw [q] at h2; exact of_decide_eq_true h2
  · rw [q] at h2; exact of_decide_eq_true h2
  · rw [q] at h2; exact of_decide_eq_true h2
  · rw [q] at h2
    rw [Bool.and_eq_true] at h2
    exact ⟨of_decide_eq_true h2.1, of_decide_eq_true h2.2⟩
  · rw [q] at h2
    exact fun e he => of_decide_eq_true (List.all_eq_true.1 h2 e he)
theorem one_C {C : Nat} (hC : C = 8192) : 1 ≤ C := by rw [hC]; decide
theorem two_C {P : Program} {C : Nat} (hC : C = 8192) (hP : closedT P = true) {e k : TypeId} (h : e < P.types.size) (h' : k < P.types.size) : P.bytesOf e + P.bytesOf k ≤ C := by
  have h1 := (closed_at hP h).1
  have h2 := (closed_at hP h').1
  rw [hC]
  exact Nat.add_le_add h1 h2
mutual
theorem wb {H : Type} {P : Program} {C : Nat} (hC : C = 8192) (hP : closedT P = true) : ∀ (d : DataW H) (t : TypeId), t < P.types.size → ∀ m ∈ d.weights P t, m ≤ Rows.uptoBulk d * C
  | .lit l, t, hlt, m, h => by
    cases l with
    | string b =>
      simp only [DataW.weights, List.mem_singleton] at h
      subst h
      simp only [Rows.uptoBulk]
      exact Nat.le_trans (Nat.le_succ _) (Nat.le_trans (Nat.le_of_eq (Nat.mul_one _).symm) (Nat.mul_le_mul_left _ (one_C hC)))
    | _ => simp [DataW.weights] at h
  | .nil, t, hlt, m, h => by simp [DataW.weights] at h
  | .ptr d, t, hlt, m, h => by
    simp only [DataW.weights] at h
    simp only [Rows.uptoBulk]
    split at h
    · rename_i e q; exact le_of_mul (wb hC hP d _ ((closed_at hP hlt).2.2.1 e q) m h) (by omega)
    · cases h
  | .slice es sp, t, hlt, m, h => by
    simp only [DataW.weights] at h
    simp only [Rows.uptoBulk]
    split at h
    · rename_i e q
      have he := (closed_at hP hlt).2.1 e q
      rcases List.mem_cons.1 h with rfl | h
      · have h1 := bulk_len es
        have h2 := bulk_len sp
        exact le_of_mul (Nat.mul_le_mul (show es.length + sp.length ≤ Rows.uptoBulkAll es + Rows.uptoBulkAll sp by omega) (Nat.le_trans (Nat.le_add_right _ _) (two_C hC hP he he))) (by omega)
      · rcases List.mem_append.1 h with h | h
        · exact le_of_mul (wbAll hC hP es e he m h) (by omega)
        · exact le_of_mul (wbAll hC hP sp e he m h) (by omega)
    · cases h
  | .agg ps, t, hlt, m, h => by
    simp only [DataW.weights] at h
    simp only [Rows.uptoBulk]
    split at h
    · rename_i fs q; exact le_of_mul (wbEach hC hP ps _ ((closed_at hP hlt).2.2.2.2.2 fs q) m h) (by omega)
    · rename_i n e q; exact le_of_mul (wbAll hC hP ps _ ((closed_at hP hlt).2.2.2.1 n e q) m h) (by omega)
    · cases h
  | .iface n d, t, hlt, m, h => by simp [DataW.weights] at h
  | .map es, t, hlt, m, h => by
    simp only [DataW.weights] at h
    simp only [Rows.uptoBulk]
    split at h
    · rename_i k e q
      obtain ⟨hk, he⟩ := (closed_at hP hlt).2.2.2.2.1 k e q
      rcases List.mem_cons.1 h with rfl | h
      · exact le_of_mul (Nat.mul_le_mul (bulk_entries es) (two_C hC hP hk he)) (by omega)
      · exact le_of_mul (wbEntries hC hP es e he m h) (by omega)
    · cases h
  | .held x, t, hlt, m, h => by simp [DataW.weights] at h
theorem wbAll {H : Type} {P : Program} {C : Nat} (hC : C = 8192) (hP : closedT P = true) : ∀ (l : List (DataW H)) (t : TypeId), t < P.types.size → ∀ m ∈ DataW.weightsAll P t l, m ≤ Rows.uptoBulkAll l * C
  | [], t, hlt, m, h => by simp [DataW.weightsAll] at h
  | d :: r, t, hlt, m, h => by
    simp only [DataW.weightsAll, List.mem_append] at h
    simp only [Rows.uptoBulkAll]
    rcases h with h | h
    · exact le_of_mul (wb hC hP d t (by first | exact hlt | exact hlt _ (by simp)) m h) (by omega)
    · exact le_of_mul (wbAll hC hP r t hlt m h) (by omega)
theorem wbEach {H : Type} {P : Program} {C : Nat} (hC : C = 8192) (hP : closedT P = true) : ∀ (l : List (DataW H)) (ts : List TypeId), (∀ t ∈ ts, t < P.types.size) → ∀ m ∈ DataW.weightsEach P ts l, m ≤ Rows.uptoBulkAll l * C
  | [], ts, hlt, m, h => by cases ts <;> simp [DataW.weightsEach] at h
  | d :: r, [], hlt, m, h => by simp [DataW.weightsEach] at h
  | d :: r, t :: ts, hlt, m, h => by
    simp only [DataW.weightsEach, List.mem_append] at h
    simp only [Rows.uptoBulkAll]
    rcases h with h | h
    · exact le_of_mul (wb hC hP d t (by first | exact hlt | exact hlt _ (by simp)) m h) (by omega)
    · exact le_of_mul (wbEach hC hP r ts (fun t ht => hlt t (by simp [ht])) m h) (by omega)
theorem wbEntries {H : Type} {P : Program} {C : Nat} (hC : C = 8192) (hP : closedT P = true) : ∀ (l : List (Lit × DataW H)) (t : TypeId), t < P.types.size → ∀ m ∈ DataW.weightsEntries P t l, m ≤ Rows.uptoBulkEntries l * C
  | [], t, hlt, m, h => by simp [DataW.weightsEntries] at h
  | x :: r, t, hlt, m, h => by
    simp only [DataW.weightsEntries, List.mem_append] at h
    simp only [Rows.uptoBulkEntries]
    rcases h with h | h
    · exact le_of_mul (wbEntry hC hP x t hlt m h) (by omega)
    · exact le_of_mul (wbEntries hC hP r t hlt m h) (by omega)
theorem wbEntry {H : Type} {P : Program} {C : Nat} (hC : C = 8192) (hP : closedT P = true) : ∀ (x : Lit × DataW H) (t : TypeId), t < P.types.size → ∀ m ∈ DataW.weightsEntry P t x, m ≤ Rows.uptoBulkEntry x * C
  | (l, d), t, hlt, m, h => by
    have hb := wb hC hP d t hlt
    cases l with
    | string b =>
      simp only [DataW.weightsEntry, List.mem_cons] at h
      simp only [Rows.uptoBulkEntry]
      rcases h with rfl | h
      · exact le_of_mul (a := b.length) (Nat.le_trans (Nat.le_of_eq (Nat.mul_one _).symm) (Nat.mul_le_mul_left _ (one_C hC))) (by omega)
      · exact le_of_mul (hb m h) (by omega)
    | _ =>
      simp only [DataW.weightsEntry] at h
      simp only [Rows.uptoBulkEntry]
      exact le_of_mul (hb m h) (by omega)
end
/-- What an argument weighs. -/
theorem bulk_weights {H : Type} {P : Program} {C : Nat} (hC : C = 8192) (hP : closedT P = true) {ds : List (DataW H)} {d : DataW H} {t : TypeId} (h : Rows.uptoBulkAll ds ≤ 1048576) (hlt : t < P.types.size) (hd : d ∈ ds) {m : Nat} (hm : m ∈ d.weights P t) : m ≤ 9000000000 :=
  Nat.le_trans (wb hC hP d t hlt m hm) (Nat.le_trans (Nat.mul_le_mul (Nat.le_trans (bulk_mem hd) h) (Nat.le_of_eq hC)) (by decide))
end Go.Proofs.YtabmcfnefjipbaaDoor
namespace Go.Proofs.YtabmcfnefjipbaaDoor
open Go.ChangeShapes Go.WideShapes Go.Deep

section
variable {H : Type} {enc : TypeId × Value → H} {P : Program} {w : World} {base : Nat} {spare : Nat → Bool} {held : Bool}

theorem cell_lt {p : Addr} {v : Value} (h : w.cell? p = some v) : p.block < w.heap.size := by
  by_cases hl : p.block < w.heap.size
  · exact hl
  · have : w.heap[p.block]? = none := by simp; omega
    simp [World.cell?, this] at h

end

section
variable {H : Type} {P : Program} {ts : List TypeId} {ds : List (DataW H)}
/-- What a field of a struct weighs is weighed. -/
theorem weights_field {t u : TypeId} {fs : Array Field} {parts : List (DataW H)} {j : Nat} {d : DataW H} (hu : P.underlying t = some (.struct fs)) (hf : (fs.toList.map (·.type))[j]? = some u) (hd : parts[j]? = some d) {n : Nat} (hn : n ∈ d.weights P u) : n ∈ (DataW.agg parts).weights P t := by
  simp only [DataW.weights, hu]
  exact DataW.weights_mem_each hf hd n hn
theorem weights_slice {t e : TypeId} {el sp : List (DataW H)} (hu : P.underlying t = some (.slice e)) : (el.length + sp.length) * P.bytesOf e ∈ (DataW.slice el sp).weights P t := by
  simp [DataW.weights, hu]
end
end Go.Proofs.YtabmcfnefjipbaaDoor
