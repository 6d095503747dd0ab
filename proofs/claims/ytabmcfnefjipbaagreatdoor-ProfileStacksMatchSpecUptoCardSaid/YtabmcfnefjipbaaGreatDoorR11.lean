/-
  Part 11 of the proofs of stacks_holds: laws and contracts that they need.
-/
import Derived.Test.YtabmcfnefjipbaaGreatDoorR10
import Derived.Laws.Runes
import Derived.Test.YtabmcfnefjipbaaGreatDoorRows
import Derived.ProofKit
import Derived.Carry
import Derived.SizedLaws
import Derived.Deep.Slices
import Derived.Deep.Fields
import Derived.ChangeSame
import Derived.Lib.SmallJoins
import Derived.Deep.DeepHandedRow
import Derived.Stop.LaidErr
import Derived.LaidLaws
import Derived.Test.YtabmcfnefjipbaaGreatDoorChecked
set_option linter.unusedVariables false
set_option linter.unusedSimpArgs false
namespace Go.Proofs.YtabmcfnefjipbaaGreatDoor
open Go.RowKit
theorem nest_check : checkM nestL 6 = (0, 0) := by kernel_rfl
theorem nest_costs : costsM nestL 6 = [⟨mainB, moduleB, 1, 1, 0, 0, 3, 6⟩, ⟨mainB, fB, 1, 1, 0, 1, 3, 3⟩] := by kernel_rfl
theorem nest_lines0 : linesAt nestL 6 nestL.length = [⟨mainB, 0, 0, 4⟩, ⟨mainB, 7, 1, 2⟩] := by kernel_rfl
theorem nest_lines : linesM nestL 6 = [⟨mainB, 0, 0, 4⟩, ⟨mainB, 7, 1, 2⟩] := by
  unfold linesM
  have hp := srtL_perm (linesAt nestL 6 nestL.length)
  have hs := srtL_sorted (linesAt nestL 6 nestL.length)
  have hn := (hp.map Lc.pl).nodup_iff.2 (lines_nd (l := nestL) (fuel := 6) nestL.length)
  generalize srtL (linesAt nestL 6 nestL.length) = x at *
  rw [nest_lines0] at hp
  refine sorted_uniq hp hn hs ?_
  simp only [List.pairwise_cons, List.mem_cons, List.not_mem_nil, or_false, forall_eq, List.Pairwise.nil, and_true, false_implies, implies_true]
  rw [ltLf]
  exact .inr ⟨cmpB_self _, by decide⟩
theorem itoa3 : itoaB 3 = ByteArray.mk #[51] := by
  unfold itoaB Lib.itoa
  rw [if_neg (by omega), show (3 : Int).toNat = 3 from rfl, Lib.decDigits, dif_pos (by omega)]
  rfl
theorem nest_stacks0 : stacksAt nestL 6 nestL.length = [⟨ByteArray.mk #[], 0⟩, ⟨ByteArray.mk #[109, 97, 105, 110, 58, 109, 111, 100, 117, 108, 101], 3⟩, ⟨ByteArray.mk #[109, 97, 105, 110, 58, 109, 111, 100, 117, 108, 101, 59, 109, 97, 105, 110, 58, 102], 3⟩] := by kernel_rfl
theorem nest_stacks : stacksM nestL 6 = [ByteArray.mk #[109, 97, 105, 110, 58, 109, 111, 100, 117, 108, 101, 32, 51], ByteArray.mk #[109, 97, 105, 110, 58, 109, 111, 100, 117, 108, 101, 59, 109, 97, 105, 110, 58, 102, 32, 51]] := by
  unfold stacksM
  rw [nest_stacks0]
  simp only [List.filter_cons, List.filter_nil, List.map_cons, List.map_nil, outS, itoa3]
  kernel_rfl
theorem evs_nm (l : List Ev) (fuel : Int) : ∀ s ∈ [SV.d (.u (evs l)), di fuel], NmS s := by
  intro s hs
  simp only [List.mem_cons, List.not_mem_nil, or_false] at hs
  rcases hs with rfl | rfl
  · refine ⟨_, rfl, .sl fun r hr x hx => ?_⟩
    obtain ⟨e, _, rfl⟩ := List.mem_map.1 hr
    simp only [Ev.row, List.mem_cons, List.not_mem_nil, or_false] at hx
    rcases hx with rfl | rfl | rfl | rfl | rfl | rfl | rfl | rfl
    all_goals first | (constructor; done) | skip
    refine .sl fun r hr x hx => ?_
    obtain ⟨p, _, rfl⟩ := List.mem_map.1 hr
    simp only [List.mem_cons, List.not_mem_nil, or_false] at hx
    rcases hx with rfl | rfl <;> constructor
  · exact ⟨_, rfl, by constructor⟩
theorem nos_own (k n : Nat) : NoS (.t [.d (.ow k n), .a [.u (.int .i64 0), .u (.int .i64 0)]]) := fun s hs => by
  simp only [List.mem_cons, List.not_mem_nil, or_false] at hs
  rcases hs with rfl | rfl
  · exact .inr ⟨_, _, rfl⟩
  · intro x hx
    simp only [List.mem_cons, List.not_mem_nil, or_false] at hx
    rcases hx with rfl | rfl <;> exact .inl ⟨_, rfl, .int⟩
/-- Lines, its answer by a name of one's own. -/
theorem lines_own {l : List Ev} {fuel : Int} (hc : checkM l fuel = (0, 0)) (hx : fuel ≤ 9223372036854775807) : CallsA Tryz.prog 46 [.d (.u (evs l)), di fuel] [] (Iso (.t [.d (.ow 911 (linesM l fuel).length), .a [.u (.int .i64 0), .u (.int .i64 0)]]) [(911, .ar 98 4 ((linesM l fuel).map lcR))]) :=
  CallsA.renO (CallsA.hideO [(905, 98)] (evs_nm l fuel) (nos_own _ _) (fun p hp => by
    simp at hp
    subst hp
    refine ⟨_, _, _, rfl, fun r hr x hx => ?_⟩
    obtain ⟨a, _, rfl⟩ := List.mem_map.1 hr
    simp only [List.mem_cons, List.not_mem_nil, or_false] at hx
    rcases hx with rfl | rfl | rfl | rfl
    · exact .str
    · exact .int
    · exact .int
    · exact .int) (lines_ok hc hx)) [(911, .k 901)] (by first | exact LeS.d (by first | exact LeD.u rfl | exact LeD.p rfl | exact LeD.ow rfl rfl | exact LeD.ow rfl (by simp) | exact LeD.no rfl rfl | exact LeD.nl (by first | rfl | simp) | exact LeD.u (by simp; done) | exact LeD.u (by congr 1; omega) | exact LeD.q rfl | exact LeD.r rfl | exact LeD.r (by simp; done) | exact LeD.re | exact LeD.mp rfl | exact LeD.ows rfl rfl rfl | exact LeD.u (by congr 1; congr 1; simp) | exact LeD.fn (by repeat (first | exact LeN.nil | refine LeN.cons rfl ?_))) | exact LeS.a (by repeat (first | exact LeL.nil | refine LeL.cons (by first | exact LeD.u rfl | exact LeD.p rfl | exact LeD.ow rfl rfl | exact LeD.ow rfl (by simp) | exact LeD.no rfl rfl | exact LeD.nl (by first | rfl | simp) | exact LeD.u (by simp; done) | exact LeD.u (by congr 1; omega) | exact LeD.q rfl | exact LeD.r rfl | exact LeD.r (by simp; done) | exact LeD.re | exact LeD.mp rfl | exact LeD.ows rfl rfl rfl | exact LeD.u (by congr 1; congr 1; simp) | exact LeD.fn (by repeat (first | exact LeN.nil | refine LeN.cons rfl ?_))) ?_)) | exact LeS.ts (by repeat (first | exact LeCs.nil | refine LeCs.cons (by first | exact LeC.d (by first | exact LeD.u rfl | exact LeD.p rfl | exact LeD.ow rfl rfl | exact LeD.ow rfl (by simp) | exact LeD.no rfl rfl | exact LeD.nl (by first | rfl | simp) | exact LeD.u (by simp; done) | exact LeD.u (by congr 1; omega) | exact LeD.q rfl | exact LeD.r rfl | exact LeD.r (by simp; done) | exact LeD.re | exact LeD.mp rfl | exact LeD.ows rfl rfl rfl | exact LeD.u (by congr 1; congr 1; simp) | exact LeD.fn (by repeat (first | exact LeN.nil | refine LeN.cons rfl ?_))) | exact LeC.a (by repeat (first | exact LeL.nil | refine LeL.cons (by first | exact LeD.u rfl | exact LeD.p rfl | exact LeD.ow rfl rfl | exact LeD.ow rfl (by simp) | exact LeD.no rfl rfl | exact LeD.nl (by first | rfl | simp) | exact LeD.u (by simp; done) | exact LeD.u (by congr 1; omega) | exact LeD.q rfl | exact LeD.r rfl | exact LeD.r (by simp; done) | exact LeD.re | exact LeD.mp rfl | exact LeD.ows rfl rfl rfl | exact LeD.u (by congr 1; congr 1; simp) | exact LeD.fn (by repeat (first | exact LeN.nil | refine LeN.cons rfl ?_))) ?_))) ?_))) (by repeat (first | exact LeO.nil | refine LeO.bx rfl rfl (by repeat (first | exact LeL.nil | refine LeL.cons (by first | exact LeD.u rfl | exact LeD.p rfl | exact LeD.ow rfl rfl | exact LeD.ow rfl (by simp) | exact LeD.no rfl rfl | exact LeD.nl (by first | rfl | simp) | exact LeD.u (by simp; done) | exact LeD.u (by congr 1; omega) | exact LeD.q rfl | exact LeD.r rfl | exact LeD.r (by simp; done) | exact LeD.re | exact LeD.mp rfl | exact LeD.ows rfl rfl rfl | exact LeD.u (by congr 1; congr 1; simp) | exact LeD.fn (by repeat (first | exact LeN.nil | refine LeN.cons rfl ?_))) ?_)) ?_ | refine LeO.ar rfl rfl (by first | rfl | simp) ?_ | refine LeO.ab rfl rfl (by repeat (first | exact LeL.nil | refine LeL.cons (by first | exact LeD.u rfl | exact LeD.p rfl | exact LeD.ow rfl rfl | exact LeD.ow rfl (by simp) | exact LeD.no rfl rfl | exact LeD.nl (by first | rfl | simp) | exact LeD.u (by simp; done) | exact LeD.u (by congr 1; omega) | exact LeD.q rfl | exact LeD.r rfl | exact LeD.r (by simp; done) | exact LeD.re | exact LeD.mp rfl | exact LeD.ows rfl rfl rfl | exact LeD.u (by congr 1; congr 1; simp) | exact LeD.fn (by repeat (first | exact LeN.nil | refine LeN.cons rfl ?_))) ?_)) (by first | rfl | simp) ?_ | refine LeO.fa rfl rfl (by first | rfl | simp) ?_ | refine LeO.fm rfl (by first | rfl | simp) ?_ | refine LeO.mp rfl rfl (by first | rfl | simp) ?_ | refine LeO.no rfl rfl ?_))
set_option maxHeartbeats 2000000 in
theorem profiled_T (zt : Fz) (hz : Tab zt) : CallsA Tryz.prog 14 [] [(907, tbOb zt)] (Iso (db true) [(907, tbOb zt)]) := by
  have h1 := nested_T
  have h2 := costs_ok (l := nestL) (fuel := 6) nest_check (by omega)
  have h3 := lines_own (l := nestL) (fuel := 6) nest_check (by omega)
  have h4 := stacks_ok (l := nestL) (fuel := 6) nest_check (by omega) zt hz
  rw [nest_costs] at h2
  rw [nest_lines] at h3
  rw [nest_stacks] at h4
  have h5 := strings_R [ByteArray.mk #[109, 97, 105, 110, 58, 109, 111, 100, 117, 108, 101, 32, 51], ByteArray.mk #[109, 97, 105, 110, 58, 109, 111, 100, 117, 108, 101, 59, 109, 97, 105, 110, 58, 102, 32, 51]] [ByteArray.mk #[109, 97, 105, 110, 58, 109, 111, 100, 117, 108, 101, 32, 51], ByteArray.mk #[109, 97, 105, 110, 58, 109, 111, 100, 117, 108, 101, 59, 109, 97, 105, 110, 58, 102, 32, 51]]
  rw [decide_eq_true rfl] at h5
  refine callsA_of_vcO (T := tt) Tryz.func14 rfl rfl rfl rfl rfl ?_
  repeat' ((conv => whnf); first | refine Gs.id ?_ | with_reducible refine And.intro ?_ ?_ | with_reducible refine Brn.T rfl ?_ | with_reducible refine Brn.F rfl ?_ | refine Brn.T (by (try simp only [smT]); first | rfl | assumption | omega | (simp only [*]; done) | (simp [*]; done) | fail) ?_ | refine Brn.F (by (try simp only [smT]); first | rfl | assumption | omega | (simp only [*]; done) | (simp [*]; done) | fail) ?_ | (refine Brn.mk (fun hb => ?_) (fun hb => ?_) <;> (try simp only [smT] at hb) <;> (try (exact absurd trivial hb)) <;> (try (exfalso; omega))) | (refine Bnd.mk (fun hm => ?_); (try simp only [smT] at hm)) | refine Rng.mk (by (try simp only [smT]); omega) ?_ | refine Ix.map rfl (by (try simp only [smT]); omega) ?_ | refine Ix.map (m := 0) rfl (by (try simp only [smT]); omega) ?_ | refine Ix.lit (m := 0) rfl rfl ?_ | refine Ixo.mk ⟨_, rfl, (by (try simp only [smT]); omega), ?_⟩ | refine Rw.lit rfl ?_ | refine Rw.self (by (try simp only [smT]); omega) ?_ | refine Rw.map (by (try simp only [smT]); omega) ?_ | refine Len.mk (by first | rfl | (simp; done) | (simp only [smT]; assumption) | (simp only [smT]; omega)) ?_ | refine Eqv.mk (by kernel_rfl) ?_ | refine Apd.mk (by first | rfl | simp) (by first | rfl | simp) (by (try simp only [smT]); first | omega | (simp; omega)) (by unfold maxLen; first | (simp; done) | (simp; omega) | omega) ?_ | refine Raw.capNil (T := tt) rfl rfl rfl rfl ?_ | refine Raw.sliceNil (T := tt) rfl rfl (by first | rfl | omega | (simp; done)) rfl rfl rfl rfl ?_ | refine Raw.makeMap (T := tt) rfl rfl rfl rfl rfl rfl (.inl rfl) rfl rfl ?_ | refine Raw.mapUpdate (T := tt) (.inl rfl) rfl rfl rfl rfl rfl rfl rfl rfl rfl rfl rfl (by assumption) ?_ | refine Pm.mk (by first | assumption | omega | (simp; done) | (simp; omega)) (by first | assumption | omega | (simp; done) | (simp; omega)) ?_ | (refine Raw.appendR (T := tt) ?_; (conv => whnf); first | refine Rw.lit rfl ?_ | refine Rw.self (by (try simp only [smT]); omega) ?_ | refine Rw.map (by (try simp only [smT]); omega) ?_) | refine Raw.appendIn (T := tt) rfl rfl rfl rfl rfl rfl rfl rfl rfl rfl (by (try simp only [smT]); omega) (by (try simp only [smT]); omega) ?_ | refine Raw.clear (T := tt) rfl rfl rfl rfl rfl rfl rfl (by (try simp only [smT]); omega) ?_ | refine Slc.mk ⟨_, _, rfl, rfl, (by (try simp only [smT]); omega), (by (try simp only [smT]); omega), ?_⟩ | refine Slc.mk ⟨0, _, rfl, rfl, (by (try simp only [smT]); omega), (by (try simp only [smT]); omega), ?_⟩ | refine Slc.mk ⟨1, _, rfl, rfl, (by (try simp only [smT]); omega), (by (try simp only [smT]); omega), ?_⟩ | refine Slc3.mk ⟨_, _, _, rfl, rfl, rfl, (by (try simp only [smT]); omega), (by (try simp only [smT]); omega), (by (try simp only [smT]); omega)⟩ ?_ | refine Raw.mapUpdateS (T := tt) (.inl rfl) rfl rfl rfl rfl rfl rfl rfl rfl rfl rfl rfl rfl rfl (by kernel_rfl) (by assumption) ?_ | refine Raw.faStoreV (T := tt) rfl rfl rfl rfl rfl rfl (by first | rfl | assumption | exact fa_get (by first | assumption | (simp; done) | (simp; omega))) rfl (by first | exact .inl ⟨_, rfl⟩ | exact .inr rfl) ?_ | refine Raw.faStoreO (T := tt) rfl rfl rfl rfl rfl rfl rfl rfl (by first | rfl | assumption | exact fa_get (by first | assumption | (simp; done) | (simp; omega))) rfl ?_ | refine Raw.faStoreRe (T := tt) rfl rfl rfl rfl rfl rfl rfl rfl (by first | rfl | assumption | exact fa_get (by first | assumption | (simp; done) | (simp; omega))) rfl (by first | rfl | assumption | exact fa_get (by first | assumption | (simp; done) | (simp; omega))) (by (try simp only [smT]); omega) ?_ | refine Raw.faAppend (T := tt) rfl rfl rfl rfl rfl rfl rfl rfl rfl rfl rfl rfl rfl (by first | rfl | assumption | exact fa_get (by first | assumption | (simp; done) | (simp; omega))) rfl rfl ?_ | refine Raw.faCopy (T := tt) rfl rfl rfl rfl rfl rfl rfl rfl rfl rfl rfl rfl rfl rfl ?_ | (refine CL.mk (Or.inl ?_); (conv => whnf); first | refine Cl.is (h1) rfl (by first | exact fun _ => rfl | (intro e; cases e; done) | fail) ?_ | refine Cl.is (h5) rfl (by first | exact fun _ => rfl | (intro e; cases e; done) | fail) ?_) | (refine CL.mk (Or.inl ?_); (conv => whnf); refine ClO.mk (Or.inl ?_); (repeat ((conv => whnf); refine Len.mk (by first | rfl | (simp; done) | (simp only [smT]; assumption) | (simp only [smT]; omega)) ?_)); (conv => whnf); first | refine Cl.is (h1) rfl (by first | exact fun _ => rfl | (intro e; cases e; done) | fail) ?_ | refine Cl.is (h5) rfl (by first | exact fun _ => rfl | (intro e; cases e; done) | fail) ?_) | (refine CL.mk (Or.inl ?_); (conv => whnf); refine ClO.mk (Or.inr ?_); (repeat ((conv => whnf); refine Len.mk (by first | rfl | (simp; done) | (simp only [smT]; assumption) | (simp only [smT]; omega)) ?_)); (conv => whnf); first | refine Cl.is (h1) rfl (by first | exact fun _ => rfl | (intro e; cases e; done) | fail) ?_ | refine Cl.is (h5) rfl (by first | exact fun _ => rfl | (intro e; cases e; done) | fail) ?_) | (refine CL.mk (Or.inr (Raw.callI [] [901] rfl rfl rfl rfl rfl rfl rfl (h2) ?_)); rintro _ _ ⟨rfl, rfl⟩; refine Bk.mk rfl rfl ?_) | (refine CL.mk (Or.inr (Raw.callI [] [911] rfl rfl rfl rfl rfl rfl rfl (h3) ?_)); rintro _ _ ⟨rfl, rfl⟩; refine Bk.mk rfl rfl ?_) | (refine CL.mk (Or.inr (Raw.callI [907] [907,908] rfl rfl rfl rfl rfl rfl rfl (h4) ?_)); rintro _ _ ⟨rfl, rfl⟩; refine Bk.mk rfl rfl ?_))
  all_goals (conv => whnf)
  all_goals refine RetO.mk ⟨[(907, .k 907)], _, _, (by first | exact LeS.d (by first | exact LeD.u rfl | exact LeD.p rfl | exact LeD.ow rfl rfl | exact LeD.ow rfl (by simp) | exact LeD.no rfl rfl | exact LeD.nl (by first | rfl | simp) | exact LeD.u (by simp; done) | exact LeD.u (by congr 1; omega) | exact LeD.q rfl | exact LeD.r rfl | exact LeD.r (by simp; done) | exact LeD.re | exact LeD.mp rfl | exact LeD.ows rfl rfl rfl | exact LeD.u (by congr 1; congr 1; simp) | exact LeD.fn (by repeat (first | exact LeN.nil | refine LeN.cons rfl ?_))) | exact LeS.a (by repeat (first | exact LeL.nil | refine LeL.cons (by first | exact LeD.u rfl | exact LeD.p rfl | exact LeD.ow rfl rfl | exact LeD.ow rfl (by simp) | exact LeD.no rfl rfl | exact LeD.nl (by first | rfl | simp) | exact LeD.u (by simp; done) | exact LeD.u (by congr 1; omega) | exact LeD.q rfl | exact LeD.r rfl | exact LeD.r (by simp; done) | exact LeD.re | exact LeD.mp rfl | exact LeD.ows rfl rfl rfl | exact LeD.u (by congr 1; congr 1; simp) | exact LeD.fn (by repeat (first | exact LeN.nil | refine LeN.cons rfl ?_))) ?_)) | exact LeS.ts (by repeat (first | exact LeCs.nil | refine LeCs.cons (by first | exact LeC.d (by first | exact LeD.u rfl | exact LeD.p rfl | exact LeD.ow rfl rfl | exact LeD.ow rfl (by simp) | exact LeD.no rfl rfl | exact LeD.nl (by first | rfl | simp) | exact LeD.u (by simp; done) | exact LeD.u (by congr 1; omega) | exact LeD.q rfl | exact LeD.r rfl | exact LeD.r (by simp; done) | exact LeD.re | exact LeD.mp rfl | exact LeD.ows rfl rfl rfl | exact LeD.u (by congr 1; congr 1; simp) | exact LeD.fn (by repeat (first | exact LeN.nil | refine LeN.cons rfl ?_))) | exact LeC.a (by repeat (first | exact LeL.nil | refine LeL.cons (by first | exact LeD.u rfl | exact LeD.p rfl | exact LeD.ow rfl rfl | exact LeD.ow rfl (by simp) | exact LeD.no rfl rfl | exact LeD.nl (by first | rfl | simp) | exact LeD.u (by simp; done) | exact LeD.u (by congr 1; omega) | exact LeD.q rfl | exact LeD.r rfl | exact LeD.r (by simp; done) | exact LeD.re | exact LeD.mp rfl | exact LeD.ows rfl rfl rfl | exact LeD.u (by congr 1; congr 1; simp) | exact LeD.fn (by repeat (first | exact LeN.nil | refine LeN.cons rfl ?_))) ?_))) ?_))), (by repeat (first | exact LeO.nil | refine LeO.bx rfl rfl (by repeat (first | exact LeL.nil | refine LeL.cons (by first | exact LeD.u rfl | exact LeD.p rfl | exact LeD.ow rfl rfl | exact LeD.ow rfl (by simp) | exact LeD.no rfl rfl | exact LeD.nl (by first | rfl | simp) | exact LeD.u (by simp; done) | exact LeD.u (by congr 1; omega) | exact LeD.q rfl | exact LeD.r rfl | exact LeD.r (by simp; done) | exact LeD.re | exact LeD.mp rfl | exact LeD.ows rfl rfl rfl | exact LeD.u (by congr 1; congr 1; simp) | exact LeD.fn (by repeat (first | exact LeN.nil | refine LeN.cons rfl ?_))) ?_)) ?_ | refine LeO.ar rfl rfl (by first | rfl | simp) ?_ | refine LeO.ab rfl rfl (by repeat (first | exact LeL.nil | refine LeL.cons (by first | exact LeD.u rfl | exact LeD.p rfl | exact LeD.ow rfl rfl | exact LeD.ow rfl (by simp) | exact LeD.no rfl rfl | exact LeD.nl (by first | rfl | simp) | exact LeD.u (by simp; done) | exact LeD.u (by congr 1; omega) | exact LeD.q rfl | exact LeD.r rfl | exact LeD.r (by simp; done) | exact LeD.re | exact LeD.mp rfl | exact LeD.ows rfl rfl rfl | exact LeD.u (by congr 1; congr 1; simp) | exact LeD.fn (by repeat (first | exact LeN.nil | refine LeN.cons rfl ?_))) ?_)) (by first | rfl | simp) ?_ | refine LeO.fa rfl rfl (by first | rfl | simp) ?_ | refine LeO.fm rfl (by first | rfl | simp) ?_ | refine LeO.mp rfl rfl (by first | rfl | simp) ?_ | refine LeO.no rfl rfl ?_)), rfl, rfl⟩
end Go.Proofs.YtabmcfnefjipbaaGreatDoor
namespace Go.Proofs.YtabmcfnefjipbaaGreatDoor
open Go.RowKit
section
variable {P : Program} {nt : Nt} {Q : Exit → Act → World → Prop} {ty : TypeId} {pos : String} {af : Array Edge} {gd : Option (Nat × Bool)} {K : Kt}
theorem Raw.strLss {d : Nat} {x y : Operand} {t u : TypeId} {a b : ByteArray} {tmT : List (Nat × SV)} {ob : List (Nat × Ob)} (hx : evT tmT x = some (.d (.u (.str a)))) (hy : evT tmT y = some (.d (.u (.str b)))) (hd : Nat.blt d nt = true) (k : K ((d, .d (.u (.bool (strLt a b)))) :: tmT) ob) : Raw P nt ⟨some d, .binOp .lss t x y u, ty, pos, af, gd⟩ tmT ob K := ⟨fun Q c tm h ρ G g => by
  obtain ⟨F, w0, hp⟩ := h
  obtain ⟨vx, x1, x2⟩ := g.ev hx
  obtain ⟨vy, y1, y2⟩ := g.ev hy
  cases x2 with | d x2 => cases x2 with | u x2 => cases x2 with | str _ hs1 =>
  cases y2 with | d y2 => cases y2 with | u y2 => cases y2 with | str _ hs2 =>
  refine .of_run hd fun a' w ha hw => ⟨.bool (strLt a b), w, _, ?_, hw, .of (Gd.put (d := d) (st := ⟨tmT, ob⟩) g (.d (.u (.bool _)))) k⟩
  simp [execOp, eqGuard, ha.ev x1, ha.ev y1, binOp_string_lss, strLt]⟩
theorem Raw.strGtr {d : Nat} {x y : Operand} {t u : TypeId} {a b : ByteArray} {tmT : List (Nat × SV)} {ob : List (Nat × Ob)} (hx : evT tmT x = some (.d (.u (.str a)))) (hy : evT tmT y = some (.d (.u (.str b)))) (hd : Nat.blt d nt = true) (k : K ((d, .d (.u (.bool (!(strLt a b || a.toList == b.toList))))) :: tmT) ob) : Raw P nt ⟨some d, .binOp .gtr t x y u, ty, pos, af, gd⟩ tmT ob K := ⟨fun Q c tm h ρ G g => by
  obtain ⟨F, w0, hp⟩ := h
  obtain ⟨vx, x1, x2⟩ := g.ev hx
  obtain ⟨vy, y1, y2⟩ := g.ev hy
  cases x2 with | d x2 => cases x2 with | u x2 => cases x2 with | str _ hs1 =>
  cases y2 with | d y2 => cases y2 with | u y2 => cases y2 with | str _ hs2 =>
  refine .of_run hd fun a' w ha hw => ⟨.bool (!(strLt a b || a.toList == b.toList)), w, _, ?_, hw, .of (Gd.put (d := d) (st := ⟨tmT, ob⟩) g (.d (.u (.bool _)))) k⟩
  simp [execOp, eqGuard, ha.ev x1, ha.ev y1, binOp_string_gtr, strLt]⟩
end
end Go.Proofs.YtabmcfnefjipbaaGreatDoor
namespace Go.Proofs.YtabmcfnefjipbaaGreatDoor
open Go.RowKit
section
variable {P : Program} {T : List (Nat × Ty)} [hT : Tys P T] {nt : Nt} {ty : TypeId} {pos : String} {af : Array Edge} {gd : Option (Nat × Bool)} {K : Kt}
theorem Raw.runeStr {x : Operand} {t t2 d : Nat} {ik : IntKind} {n : Int} {s : ByteArray} {tmT : List (Nat × SV)} {ob : List (Nat × Ob)} {i i2 : Ty} (hx : evT tmT x = some (.d (.u (.int ik n)))) (ht : lk t T = some i) (ht2 : lk t2 T = some i2) (hk2 : i2.k = .sr) (hs : Utf8.encode n = s) (hz : s.size ≤ maxLen) (hd : Nat.blt d nt = true) (k : K ((d, .d (.u (.str s))) :: tmT) ob) : Raw P nt ⟨some d, .convert t t2 x, ty, pos, af, gd⟩ tmT ob K := ⟨fun Q c tm h ρ G g => by
  obtain ⟨vx, x1, x2⟩ := g.ev hx
  cases x2 with | d x2 => cases x2 with | u x2 => cases x2 with | int _ _ =>
  have ku := (hT.ok t i ht).kind
  have ku2 := (hT.ok t2 i2 ht2).kind
  rw [hk2] at ku2
  have ku2 : P.underlying t2 = some .string := ku2
  have kus : (P.underlying t).isSome = true := by
    cases hk : i.k <;> simp only [hk] at ku <;> first | (rw [ku]; rfl) | (obtain ⟨_, ku, _⟩ := ku; rw [ku]; rfl) | (obtain ⟨_, ku⟩ := ku; rw [ku]; rfl)
  obtain ⟨F, w0, hp⟩ := h
  refine OpS.of_run hd fun a w ha hw => ?_
  exact ⟨.string s, w, _, by simp [execOp, ha.ev x1, run_convert_int_string w t t2 ik n kus ku2, hs], hw, .of (g.put (d := d) (s := .d (.u (.str s))) (.d (.u (.str _ hz)))) k⟩⟩
theorem Raw.quoN {d : Nat} {x y : Operand} {t u : TypeId} {m n : Int} {tmT : List (Nat × SV)} {ob : List (Nat × Ob)} (hx : evT tmT x = some (.d (.u (.int .i64 m)))) (hy : evT tmT y = some (.d (.u (.int .i64 n)))) (h0 : 0 ≤ m) (h1 : m ≤ 9223372036854775807) (hn : 0 < n) (hd : Nat.blt d nt = true) (k : K ((d, .d (.u (.int .i64 (m / n)))) :: tmT) ob) : Raw P nt ⟨some d, .binOp .quo t x y u, ty, pos, af, gd⟩ tmT ob K := ⟨fun Q c tm h ρ G g => by
  obtain ⟨F, w0, hp⟩ := h
  have e1 := evT_int g hx
  have e2 := evT_int g hy
  have hq : m / n ≤ m := Int.ediv_le_self n h0
  have hq0 : 0 ≤ m / n := Int.ediv_nonneg h0 (by omega)
  have hw : IntKind.i64.wrap (m.tdiv n) = m / n := by
    rw [Int.tdiv_eq_ediv_of_nonneg h0]
    exact wrap_small _ hq0 (by omega)
  refine OpS.of_run hd fun a w ha hw' => ⟨.int .i64 (m / n), w, _, ?_, hw', .of (Gd.put (d := d) (st := ⟨tmT, ob⟩) g (.d (.u (.int _ _)))) k⟩
  simp [execOp, eqGuard, ha.ev e1, ha.ev e2, binOp_quo, Op.intDiv, hw, show ¬ n = 0 by omega]⟩
theorem Raw.remN {d : Nat} {x y : Operand} {t u : TypeId} {m n : Int} {tmT : List (Nat × SV)} {ob : List (Nat × Ob)} (hx : evT tmT x = some (.d (.u (.int .i64 m)))) (hy : evT tmT y = some (.d (.u (.int .i64 n)))) (h0 : 0 ≤ m) (hn : 0 < n) (hd : Nat.blt d nt = true) (k : K ((d, .d (.u (.int .i64 (m % n)))) :: tmT) ob) : Raw P nt ⟨some d, .binOp .rem t x y u, ty, pos, af, gd⟩ tmT ob K := ⟨fun Q c tm h ρ G g => by
  obtain ⟨F, w0, hp⟩ := h
  have e1 := evT_int g hx
  have e2 := evT_int g hy
  refine OpS.of_run hd fun a w ha hw' => ⟨.int .i64 (m % n), w, _, ?_, hw', .of (Gd.put (d := d) (st := ⟨tmT, ob⟩) g (.d (.u (.int _ _)))) k⟩
  simp [execOp, eqGuard, ha.ev e1, ha.ev e2, binOp_rem, Op.intDiv, Int.tmod_eq_emod_of_nonneg h0, show ¬ n = 0 by omega]⟩
/-- A small number as a rune. -/
theorem Raw.conv32 {x : Operand} {t t2 d : Nat} {n : Int} {tmT : List (Nat × SV)} {ob : List (Nat × Ob)} {i i2 : Ty} (hx : evT tmT x = some (.d (.u (.int .i64 n)))) (ht : lk t T = some i) (hk : i.k = .in_ .i64) (ht2 : lk t2 T = some i2) (hk2 : i2.k = .in_ .i32) (h0 : 0 ≤ n) (h1 : n < 2147483648) (hd : Nat.blt d nt = true) (k : K ((d, .d (.u (.int .i32 n))) :: tmT) ob) : Raw P nt ⟨some d, .convert t t2 x, ty, pos, af, gd⟩ tmT ob K := ⟨fun Q c tm h ρ G g => by
  obtain ⟨F, w0, hp⟩ := h
  have e1 := evT_int g hx
  have ku := (hT.ok t i ht).kind
  rw [hk] at ku
  have ku : P.underlying t = some (.int .i64) := ku
  have ku2 := (hT.ok t2 i2 ht2).kind
  rw [hk2] at ku2
  have ku2 : P.underlying t2 = some (.int .i32) := ku2
  have hik : P.intKind t2 = .i32 := by simp [Program.intKind, ku2]
  have hw : IntKind.i32.wrap n = n := by
    have hm : n % 4294967296 = n := by omega
    unfold IntKind.wrap
    simp [IntKind.bits, IntKind.signed, hm]
    omega
  refine OpS.of_run hd fun a w ha hw' => ⟨.int .i32 n, w, _, ?_, hw', .of (Gd.put (d := d) (st := ⟨tmT, ob⟩) g (.d (.u (.int _ _)))) k⟩
  simp [execOp, ha.ev e1, run_convert_int w t t2 .i64 n (by rw [ku]; rfl) (by rw [hik]; exact ku2), hik, hw]⟩
end
theorem encode_digit {n : Int} (h0 : 0 ≤ n) (h1 : n < 10) : Utf8.encode (48 + n) = ByteArray.mk #[UInt8.ofNat (48 + n.toNat)] := by
  obtain ⟨m, rfl⟩ : ∃ m : Nat, n = m := ⟨n.toNat, by omega⟩
  have hm : m < 10 := by omega
  match m, hm with
  | 0, _ => rfl
  | 1, _ => rfl
  | 2, _ => rfl
  | 3, _ => rfl
  | 4, _ => rfl
  | 5, _ => rfl
  | 6, _ => rfl
  | 7, _ => rfl
  | 8, _ => rfl
  | 9, _ => rfl
end Go.Proofs.YtabmcfnefjipbaaGreatDoor
namespace Go.Proofs.YtabmcfnefjipbaaGreatDoor
open Go.RowKit
theorem itoaB_small {n : Int} (h0 : 0 ≤ n) (h1 : n < 10) : itoaB n = ByteArray.mk #[UInt8.ofNat (48 + n.toNat)] := by
  unfold itoaB Lib.itoa
  rw [if_neg (by omega), Lib.decDigits, dif_pos (by omega)]
theorem itoaB_big {n : Int} (h : 10 ≤ n) : itoaB n = itoaB (n / 10) ++ ByteArray.mk #[UInt8.ofNat (48 + (n % 10).toNat)] := by
  refine bytes_ext ?_
  unfold itoaB Lib.itoa
  rw [if_neg (by omega), if_neg (by omega), Lib.decDigits, dif_neg (by omega), show n.toNat / 10 = (n / 10).toNat by omega, show n.toNat % 10 = (n % 10).toNat by omega]
  simp
set_option maxHeartbeats 2000000 in
theorem decimal_R : ∀ (k : Nat) (n : Int), n.toNat < 10 ^ k → 0 ≤ n → n ≤ 9223372036854775807 → CallsA Tryz.prog 51 [di n] [] (Is (dsr (itoaB n)))
  | 0, n, h, h0, _ => by
    have hb := encode_digit (n := n) h0 (by omega)
    have h2 : n = 0 := by omega
    subst h2
    rw [itoaB_small (by omega) (by omega)]
    refine callsA_of_vc (T := tt) Tryz.func51 rfl rfl rfl rfl rfl ?_
    repeat' ((conv => whnf); first | refine Raw.conv32 rfl rfl rfl rfl rfl (by omega) (by omega) rfl ?_ | refine Raw.runeStr rfl rfl rfl rfl hb (by decide) rfl ?_ | refine Gs.id ?_ | with_reducible refine Brn.T rfl ?_ | with_reducible refine Brn.F rfl ?_ | refine Rng.mk (by (try simp only [smT]); omega) ?_ | fail)
    all_goals (conv => whnf)
    all_goals exact Ret.is rfl
  | k + 1, n, h, h0, h1 => by
    by_cases h9 : n < 10
    · have hb := encode_digit (n := n) h0 h9
      rw [itoaB_small h0 h9]
      refine callsA_of_vc (T := tt) Tryz.func51 rfl rfl rfl rfl rfl ?_
      repeat' ((conv => whnf); first | refine Raw.conv32 rfl rfl rfl rfl rfl (by omega) (by omega) rfl ?_ | refine Raw.runeStr rfl rfl rfl rfl hb (by unfold maxLen; simp [ByteArray.size]) rfl ?_ | refine Gs.id ?_ | refine Brn.T (by (try simp only [smT]); first | rfl | assumption | fail) ?_ | refine Brn.F (by (try simp only [smT]); first | rfl | assumption | fail) ?_ | refine Rng.mk (by (try simp only [smT]); omega) ?_ | fail)
      all_goals (conv => whnf)
      all_goals exact Ret.is rfl
    · have ih := decimal_R k (n / 10) (by rw [Nat.pow_succ] at h; omega) (by omega) (by omega)
      have hb := encode_digit (n := n % 10) (by omega) (by omega)
      have hz := itoaB_size (n := n / 10) (by omega) (by omega)
      have h1z : (ByteArray.mk #[UInt8.ofNat (48 + (n % 10).toNat)]).size = 1 := rfl
      rw [itoaB_big (by omega)]
      refine callsA_of_vc (T := tt) Tryz.func51 rfl rfl rfl rfl rfl ?_
      repeat' ((conv => whnf); first | refine Raw.conv32 rfl rfl rfl rfl rfl (by omega) (by omega) rfl ?_ | refine Raw.quoN rfl rfl (by omega) (by omega) (by omega) rfl ?_ | refine Raw.remN rfl rfl (by omega) (by omega) rfl ?_ | refine Raw.runeStr rfl rfl rfl rfl hb (by unfold maxLen; omega) rfl ?_ | refine Cat.mk (by unfold maxLen; (try simp only [ByteArray.size_append]); omega) ?_ | refine Gs.id ?_ | refine Brn.F (by (try simp only [smT]); first | rfl | assumption | omega | fail) ?_ | refine Rng.mk (by (try simp only [smT]); omega) ?_ | (refine CL.mk (Or.inl ?_); (conv => whnf); refine Cl.is (ih) rfl (by first | exact fun _ => rfl | fail) ?_) | fail)
      all_goals (conv => whnf)
      all_goals exact Ret.is rfl
end Go.Proofs.YtabmcfnefjipbaaGreatDoor
namespace Go.Proofs.YtabmcfnefjipbaaGreatDoor
open Go.RowKit
def stepI (e : Ev) (i : Nat) (ix : List Nat) : List Nat := if e.kind = 2 then ix ++ [i] else if e.kind ≠ 1 then ix.dropLast else ix
/-- The reference's stack behind n events. -/
def stkI (l : List Ev) : Nat → List Nat
  | 0 => []
  | n + 1 => match l[n]? with
    | some e => stepI e n (stkI l n)
    | none => stkI l n
theorem stkI_succ {l : List Ev} {i : Nat} {e : Ev} (h : l[i]? = some e) : stkI l (i + 1) = stepI e i (stkI l i) := by rw [stkI, h]
theorem stkI_lt {l : List Ev} : ∀ n, ∀ j ∈ stkI l n, j < n ∧ j < l.length
  | 0, j, h => by simp [stkI] at h
  | n + 1, j, h => by
    have ih := stkI_lt (l := l) n
    rw [stkI] at h
    split at h
    · rename_i e he
      have hn := (List.getElem?_eq_some_iff.1 he).1
      unfold stepI at h
      split at h
      · rcases List.mem_append.1 h with h | h
        · have := ih j h; omega
        · simp at h; omega
      · split at h
        · have := ih j (List.dropLast_subset _ h); omega
        · have := ih j h; omega
    · have := ih j h; omega
theorem stkI_len {l : List Ev} : ∀ n, (stkI l n).length ≤ n
  | 0 => Nat.le_refl _
  | n + 1 => by
    have ih := stkI_len (l := l) n
    rw [stkI]
    split
    · unfold stepI
      split
      · simp; omega
      · split
        · simp; omega
        · omega
    · omega
set_option maxHeartbeats 2000000 in
theorem stack_R (l : List Ev) (n : Nat) (hn : n ≤ l.length) (hl : l.length ≤ 1000000000) : CallsA Tryz.prog 48 [.d (.u (evs l)), di n] [] (Is (.d (.u (.sl 1 ((stkI l n).map ixR))))) := by
  refine callsA_of_vc (T := tt) Tryz.func48 rfl rfl rfl rfl rfl ?_
  repeat' ((conv => whnf); first | refine Gs.id ?_ | fail)
  all_goals (conv => whnf)
  refine ⟨⟨Nat, fun i => i ≤ n, fun i => n - i, fun i => ⟨[(0, .d (.u (evs l))), (1, di n), (5, .d (.ow 900 (stkI l i).length)), (6, di i)], [(900, .ar 3 1 ((stkI l i).map ixR))]⟩, 0, Nat.zero_le _, ⟨[(900, .n 1)], ⟨by (try dsimp only); (repeat (refine LeT.cons rfl (by first | exact LeS.d (by first | exact LeD.u rfl | exact LeD.no rfl rfl | fail) | fail) ?_)); exact LeT.nil, by (try dsimp only); repeat (first | exact LeO.nil | refine LeO.no rfl rfl ?_)⟩⟩, fun i hi => ?_⟩⟩
  dsimp only at hi ⊢
  by_cases h9 : i < n
  · have hil : i < l.length := by omega
    have hev : l[i]? = some l[i] := List.getElem?_eq_getElem hil
    have hst := stkI_succ hev
    have hlen := stkI_len (l := l) i
    have hrow : ∀ {K : List V → Prop} {j : Int}, j = (i : Int) → K (l[i]).row → Ix (l.map Ev.row) j K := fun h k => by subst h; exact Ix.map rfl hil k
    generalize l[i] = e at *
    by_cases h2 : e.kind = 2
    · rw [stepI, if_pos h2] at hst
      repeat' ((conv => whnf); first | refine hrow rfl ?_ | refine Gs.id ?_ | refine Brn.T (by (try simp only [smT]); first | rfl | assumption | omega | fail) ?_ | refine Rng.mk (by (try simp only [smT]); omega) ?_ | refine Apd.mk (by first | rfl | fail) (by first | rfl | simp) (by (try simp only [smT]); first | omega | fail) (by unfold maxLen; first | (simp; omega) | fail) ?_ | fail)
      all_goals (conv => whnf)
      all_goals exact ⟨i + 1, by omega, by omega, [(900, .k 23)], by rw [hst]; exact ⟨by (try dsimp only); (repeat (refine LeT.cons rfl (by first | exact LeS.d (by first | exact LeD.u rfl | exact LeD.ow rfl (by simp) | fail) | fail) ?_)); exact LeT.nil, by (try dsimp only); repeat (first | exact LeO.nil | refine LeO.ar rfl rfl (by first | simp) ?_ | fail)⟩⟩
    · rw [stepI, if_neg h2] at hst
      by_cases h1 : e.kind = 1
      · rw [if_neg (by simpa using h1)] at hst
        repeat' ((conv => whnf); first | refine hrow rfl ?_ | refine Gs.id ?_ | with_reducible refine Brn.F rfl ?_ | refine Brn.T (by (try simp only [smT]); first | rfl | omega | fail) ?_ | refine Brn.F (by (try simp only [smT]); first | rfl | assumption | fail) ?_ | refine Rng.mk (by (try simp only [smT]); omega) ?_ | fail)
        all_goals (conv => whnf)
        all_goals exact ⟨i + 1, by omega, by omega, [(900, .k 900)], by rw [hst]; exact ⟨by (try dsimp only); (repeat (refine LeT.cons rfl (by first | exact LeS.d (by first | exact LeD.u rfl | exact LeD.ow rfl rfl | fail) | fail) ?_)); exact LeT.nil, by (try dsimp only); repeat (first | exact LeO.nil | refine LeO.ar rfl rfl (by first | rfl | fail) ?_ | fail)⟩⟩
      · rw [if_pos h1] at hst
        generalize stkI l i = s at *
        rcases List.eq_nil_or_concat s with rfl | ⟨L, j, rfl⟩
        · repeat' ((conv => whnf); first | refine hrow rfl ?_ | refine Gs.id ?_ | with_reducible refine Brn.F rfl ?_ | refine Brn.T (by (try simp only [smT]); first | rfl | assumption | omega | fail) ?_ | refine Brn.F (by (try simp only [smT]); first | rfl | assumption | fail) ?_ | (refine Bnd.mk (fun hm => ?_); (try simp only [smT] at hm)) | refine Rng.mk (by (try simp only [smT]); omega) ?_ | fail)
          all_goals (conv => whnf)
          all_goals exact ⟨i + 1, by omega, by omega, [(900, .k 900)], by rw [hst]; exact ⟨by (try dsimp only); (repeat (refine LeT.cons rfl (by first | exact LeS.d (by first | exact LeD.u rfl | exact LeD.ow rfl rfl | fail) | fail) ?_)); exact LeT.nil, by (try dsimp only); repeat (first | exact LeO.nil | refine LeO.ar rfl rfl (by first | rfl | fail) ?_ | fail)⟩⟩
        · rw [List.concat_eq_append] at *
          have hsn : (((L ++ [j]).length : Nat) : Int) = (L.length : Int) + 1 := by simp
          rw [List.dropLast_concat] at hst
          repeat' ((conv => whnf); first | refine hrow rfl ?_ | refine Slc.mk ⟨0, L.length, rfl, by simp, by omega, by simp, ?_⟩ | refine Gs.id ?_ | refine Brn.T (by (try simp only [smT]); first | rfl | assumption | omega | fail) ?_ | refine Brn.F (by (try simp only [smT]); first | rfl | assumption | fail) ?_ | (refine Bnd.mk (fun hm => ?_); (try simp only [smT] at hm)) | refine Rng.mk (by (try simp only [smT]); omega) ?_ | fail)
          all_goals (conv => whnf)
          all_goals exact ⟨i + 1, by omega, by omega, [(900, .k 900)], by rw [hst]; exact ⟨(by (try dsimp only); (repeat (refine LeT.cons rfl (by first | exact LeS.d (by first | exact LeD.u rfl | exact LeD.ow rfl rfl | fail) | fail) ?_)); exact LeT.nil), .tr (m := L.length) rfl rfl (by simp) (by simp) .nil⟩⟩
  · obtain rfl : i = n := by omega
    repeat' ((conv => whnf); first | refine Gs.id ?_ | refine Brn.F (by (try simp only [smT]); first | rfl | omega | fail) ?_ | refine Len.mk (by first | rfl | (simp; done) | fail) ?_ | fail)
    all_goals (conv => whnf)
    all_goals first | exact Ret.is rfl | exact Ret.nl (by repeat (fail))
/-- The fuel at an event; ahead of all: at the first one. -/
theorem amount_R {l : List Ev} {fuel : Int} (t : Tr l fuel) (i : Nat) (hi : i < l.length) : CallsA Tryz.prog 50 [.d (.u (evs l)), di i, di fuel] [] (Is (di (amt l fuel i))) := by
  obtain ⟨e, he⟩ : ∃ e, l[i]? = some e := ⟨_, List.getElem?_eq_getElem hi⟩
  obtain ⟨n1, n2, n3, n4⟩ := t.next hi
  rw [fuelAt_succ he] at n2 n4
  have hmx := t.mx
  have hlen := t.len
  have ham : amt l fuel i = nextF l fuel i - e.fuel := by rw [amt, fuelAt_succ he]
  rw [ham]
  have hrow : ∀ {K : List V → Prop} {j : Int}, j = (i : Int) → K e.row → Ix (l.map Ev.row) j K := fun h k => ⟨⟨i, e.row, h, by rw [List.getElem?_map, he]; rfl, k⟩⟩
  by_cases h10 : i + 1 < l.length
  · obtain ⟨e2, he2⟩ : ∃ e2, l[i + 1]? = some e2 := ⟨_, List.getElem?_eq_getElem h10⟩
    have hnx : nextF l fuel i = e2.fuel := by rw [nextF, he2]
    have hrow2 : ∀ {K : List V → Prop} {j : Int}, j = (i : Int) + 1 → K e2.row → Ix (l.map Ev.row) j K := fun hj k => ⟨⟨i + 1, e2.row, by rw [hj]; omega, by rw [List.getElem?_map, he2]; rfl, k⟩⟩
    rw [hnx] at n2 n3 ⊢
    refine callsA_of_vc (T := tt) Tryz.func50 rfl rfl rfl rfl rfl ?_
    repeat' ((conv => whnf); first | refine hrow rfl ?_ | refine hrow2 rfl ?_ | refine Gs.id ?_ | with_reducible refine Brn.F rfl ?_ | refine Brn.T (by (try simp only [smT]); first | rfl | omega | fail) ?_ | (refine Bnd.mk (fun hm => ?_); (try simp only [smT] at hm)) | refine Rng.mk (by (try simp only [smT]); omega) ?_ | fail)
    all_goals (conv => whnf)
    all_goals exact Ret.is rfl
  · have hnx : nextF l fuel i = fuel := by rw [nextF, List.getElem?_eq_none (by omega)]
    rw [hnx] at n2 n3 ⊢
    refine callsA_of_vc (T := tt) Tryz.func50 rfl rfl rfl rfl rfl ?_
    repeat' ((conv => whnf); first | refine hrow rfl ?_ | refine Gs.id ?_ | with_reducible refine Brn.F rfl ?_ | refine Brn.F (by (try simp only [smT]); first | rfl | omega | fail) ?_ | (refine Bnd.mk (fun hm => ?_); (try simp only [smT] at hm)) | refine Rng.mk (by (try simp only [smT]); omega) ?_ | fail)
    all_goals (conv => whnf)
    all_goals exact Ret.is rfl
theorem amount0_R {l : List Ev} {fuel : Int} (hl : l.length ≤ 20000) : CallsA Tryz.prog 50 [.d (.u (evs l)), di (-1), di fuel] [] (Is (di (beforeM l fuel))) := by
  cases l with
  | nil =>
    refine callsA_of_vc (T := tt) Tryz.func50 rfl rfl rfl rfl rfl ?_
    repeat' ((conv => whnf); first | refine Gs.id ?_ | with_reducible refine Brn.T rfl ?_ | with_reducible refine Brn.F rfl ?_ | (refine Bnd.mk (fun hm => ?_); (try simp only [smT] at hm)) | refine Rng.mk (by (try simp only [smT]); omega) ?_ | fail)
    all_goals (conv => whnf)
    all_goals exact Ret.is rfl
  | cons e r =>
    refine callsA_of_vc (T := tt) Tryz.func50 rfl rfl rfl rfl rfl ?_
    repeat' ((conv => whnf); first | refine Gs.id ?_ | with_reducible refine Brn.T rfl ?_ | refine Brn.T (by (try simp only [smT]); first | rfl | omega | fail) ?_ | (refine Bnd.mk (fun hm => ?_); (try simp only [smT] at hm)) | refine Rng.mk (by (try simp only [smT]); omega) ?_ | refine Ix.map rfl (by (try simp only [smT]); omega) ?_ | fail)
    all_goals (conv => whnf)
    all_goals exact Ret.is rfl
end Go.Proofs.YtabmcfnefjipbaaGreatDoor
namespace Go.Proofs.YtabmcfnefjipbaaGreatDoor
open Go.RowKit
section
variable {α κ : Type} [DecidableEq κ] {key : α → κ}
theorem updK_mapG {g : α → α} {p : κ} : ∀ {ls : List α}, (ls.map key).Nodup → updK key g ls p = ls.map fun x => if key x = p then g x else x
  | [], _ => rfl
  | x :: r, h => by
    rw [List.map_cons, List.nodup_cons] at h
    rw [updK]
    by_cases hx : key x = p
    · rw [if_pos hx, List.map_cons, if_pos hx]
      congr 1
      have : ∀ y ∈ r, (if key y = p then g y else y) = y := fun y hy => if_neg fun e => h.1 (List.mem_map.2 ⟨y, hy, by rw [e, hx]⟩)
      rw [List.map_congr_left this, List.map_id']
    · rw [if_neg hx, List.map_cons, if_neg hx, updK_mapG h.2]
end
/-- The text of the stack behind j events; the amount of event j - 1. -/
def nmAt (l : List Ev) (j : Nat) : ByteArray := stackB (stackAt l j)
def aAt (l : List Ev) (fuel : Int) : Nat → Int
  | 0 => beforeM l fuel
  | k + 1 => amt l fuel k
/-- The texts so far, each once. -/
def dn (l : List Ev) : Nat → List ByteArray
  | 0 => []
  | j + 1 => if nmAt l j ∈ dn l j then dn l j else dn l j ++ [nmAt l j]
def totN (l : List Ev) (fuel : Int) (nm : ByteArray) : Nat → Int
  | 0 => 0
  | j + 1 => totN l fuel nm j + (if nmAt l j = nm then aAt l fuel j else 0)
theorem dn_nd {l : List Ev} : ∀ j, (dn l j).Nodup
  | 0 => List.nodup_nil
  | j + 1 => by
    have ih := dn_nd (l := l) j
    rw [dn]
    split
    · exact ih
    · rename_i h
      refine List.nodup_append.2 ⟨ih, by simp, fun a ha b hb e => ?_⟩
      simp at hb
      subst hb
      exact h (e ▸ ha)
theorem dn_len {l : List Ev} : ∀ j, (dn l j).length ≤ j
  | 0 => Nat.le_refl _
  | j + 1 => by
    have ih := dn_len (l := l) j
    rw [dn]
    split
    · omega
    · simp; omega
theorem totN_zero {l : List Ev} {fuel : Int} {nm : ByteArray} : ∀ j, nm ∉ dn l j → totN l fuel nm j = 0
  | 0, _ => rfl
  | j + 1, h => by
    rw [dn] at h
    have h1 : nm ∉ dn l j ∧ nmAt l j ≠ nm := by
      split at h
      · rename_i hm
        exact ⟨h, fun e => h (e ▸ hm)⟩
      · simp only [List.mem_append, List.mem_cons, List.not_mem_nil, or_false, not_or] at h
        exact ⟨h.1, fun e => h.2 e.symm⟩
    rw [totN, totN_zero j h1.1, if_neg h1.2]
    rfl
theorem stacks_map {l : List Ev} {fuel : Int} : ∀ i, stacksAt l fuel i = (dn l (i + 1)).map fun nm => ⟨nm, totN l fuel nm (i + 1)⟩
  | 0 => by
    have h : nmAt l 0 = ByteArray.mk #[] := rfl
    have h2 : dn l (0 + 1) = [ByteArray.mk #[]] := by rw [dn, dn, if_neg (by simp), h]; rfl
    rw [h2, List.map_cons, List.map_nil, stacksAt, totN, totN, h, if_pos rfl, aAt]
    simp
  | i + 1 => by
    have ih := stacks_map (l := l) (fuel := fuel) i
    have hnd := dn_nd (l := l) (i + 1 + 1)
    rw [stacksAt, stepS, ih]
    have hk : ((dn l (i + 1)).map fun nm => (⟨nm, totN l fuel nm (i + 1)⟩ : Sk)).map Sk.nm = dn l (i + 1) := by rw [List.map_map]; simp [Function.comp_def]
    have hens : ensK Sk.nm zeroS ((dn l (i + 1)).map fun nm => ⟨nm, totN l fuel nm (i + 1)⟩) (nmAt l (i + 1)) = (dn l (i + 1 + 1)).map fun nm => ⟨nm, totN l fuel nm (i + 1)⟩ := by
      unfold ensK
      have hdn : dn l (i + 1 + 1) = if nmAt l (i + 1) ∈ dn l (i + 1) then dn l (i + 1) else dn l (i + 1) ++ [nmAt l (i + 1)] := rfl
      rw [hk, hdn]
      by_cases hm : nmAt l (i + 1) ∈ dn l (i + 1)
      · rw [if_pos hm, if_pos hm]
      · rw [if_neg hm, if_neg hm, List.map_append, List.map_cons, List.map_nil, totN_zero _ hm]
        rfl
    rw [show stackB (stackAt l (i + 1)) = nmAt l (i + 1) from rfl, hens]
    rw [updK_mapG (by rw [List.map_map]; simpa [Function.comp_def] using hnd), List.map_map]
    refine List.map_congr_left fun nm _ => ?_
    simp only [Function.comp_def]
    have e : totN l fuel nm (i + 1 + 1) = totN l fuel nm (i + 1) + (if nmAt l (i + 1) = nm then aAt l fuel (i + 1) else 0) := rfl
    rw [e]
    by_cases h : nm = nmAt l (i + 1)
    · rw [if_pos h, if_pos h.symm]
      rfl
    · rw [if_neg h, if_neg (Ne.symm h)]
      simp
/-- The reference's lines behind j texts. -/
def rs (l : List Ev) (fuel : Int) : Nat → List ByteArray
  | 0 => []
  | j + 1 => if nmAt l j ∈ dn l j then rs l fuel j else if 0 < totN l fuel (nmAt l j) (l.length + 1) then rs l fuel j ++ [nmAt l j ++ spaceB ++ itoaB (totN l fuel (nmAt l j) (l.length + 1))] else rs l fuel j
theorem rs_eq {l : List Ev} {fuel : Int} : ∀ j, rs l fuel j = (((dn l j).map fun nm => (⟨nm, totN l fuel nm (l.length + 1)⟩ : Sk)).filter fun c => decide (0 < c.sm)).map outS
  | 0 => rfl
  | j + 1 => by
    have ih := rs_eq (l := l) (fuel := fuel) j
    rw [rs, dn]
    split
    · exact ih
    · rw [List.map_append, List.filter_append, List.map_append, ← ih]
      split
      · rename_i h
        simp [h, outS]
      · rename_i h
        simp [h]
theorem stacks_agree {l : List Ev} {fuel : Int} : stacksM l fuel = rs l fuel (l.length + 1) := by
  unfold stacksM
  rw [rs_eq, stacks_map]
theorem rs_len {l : List Ev} {fuel : Int} : ∀ j, (rs l fuel j).length ≤ j
  | 0 => Nat.le_refl _
  | j + 1 => by
    have ih := rs_len (l := l) (fuel := fuel) j
    rw [rs]
    split
    · omega
    · split
      · simp; omega
      · omega
theorem totN_bd {l : List Ev} {fuel : Int} (t : Tr l fuel) (nm : ByteArray) : ∀ j, j ≤ l.length → 0 ≤ totN l fuel nm (j + 1) ∧ totN l fuel nm (j + 1) ≤ curF l fuel j
  | 0, _ => by
    have h := t.cur 0 (by omega)
    have e : beforeM l fuel = curF l fuel 0 := by cases l <;> rfl
    rw [totN, totN, aAt, e]
    split <;> omega
  | j + 1, hj => by
    have ih := totN_bd t nm j (by omega)
    have he : l[j]? = some l[j] := List.getElem?_eq_getElem (by omega)
    have ha := t.amt he
    have hA := amt_eq (fuel := fuel) he
    rw [totN, aAt]
    split <;> omega
theorem totN_rng {l : List Ev} {fuel : Int} (t : Tr l fuel) (nm : ByteArray) (j : Nat) (hj : j ≤ l.length + 1) : 0 ≤ totN l fuel nm j ∧ totN l fuel nm j ≤ fuel := by
  cases j with
  | zero =>
    have h := t.cur 0 (by omega)
    rw [totN]; omega
  | succ k =>
    have h1 := totN_bd t nm k (by omega)
    have h2 := t.cur k (by omega)
    omega
end Go.Proofs.YtabmcfnefjipbaaGreatDoor
namespace Go.Proofs.YtabmcfnefjipbaaGreatDoor
open Go.RowKit
set_option maxHeartbeats 2000000 in
theorem hasS_R (l : List ByteArray) (s : ByteArray) (hl : l.length ≤ 1000000) (n : Int) (hn : n = l.length) : CallsA Tryz.prog 49 [.d (.u (strs' l)), di n, dsr s] [] (Is (db (decide (s ∈ l)))) := by
  subst hn
  refine callsA_of_vc (T := tt) Tryz.func49 rfl rfl rfl rfl rfl ?_
  repeat' ((conv => whnf); first | refine Gs.id ?_ | fail)
  all_goals (conv => whnf)
  refine ⟨⟨Nat, fun i => i ≤ l.length ∧ decide (s ∈ l) = decide (s ∈ l.drop i), fun i => l.length - i, fun i => ⟨[(0, .d (.u (strs' l))), (1, di l.length), (2, dsr s), (7, di i)], []⟩, 0, ⟨Nat.zero_le _, rfl⟩, ⟨[], ⟨by (try dsimp only); (repeat (refine LeT.cons rfl (by first | exact LeS.d (by first | exact LeD.u rfl | fail) | fail) ?_)); exact LeT.nil, by (try dsimp only); repeat (first | exact LeO.nil | fail)⟩⟩, fun i hi => ?_⟩⟩
  obtain ⟨hi, he⟩ := hi
  dsimp only
  rw [he]
  by_cases h9 : i < l.length
  · obtain ⟨x, hx⟩ : ∃ x, l[i]? = some x := ⟨_, List.getElem?_eq_getElem h9⟩
    have e2 : (x.toList == s.toList) = decide (x = s) := toList_beq x s
    have e1 : decide (s ∈ l.drop i) = (decide (x = s) || decide (s ∈ l.drop (i + 1))) := by
      rw [List.drop_eq_getElem_cons h9, (List.getElem?_eq_some_iff.1 hx).2]
      simp [List.mem_cons, eq_comm]
    have hgx : (strs l)[i]? = some [V.str x] := by unfold strs; rw [List.getElem?_map, hx]; rfl
    rw [e1]
    by_cases hxs : x = s
    · rw [decide_eq_true hxs] at e2
      rw [decide_eq_true hxs, Bool.true_or]
      repeat' ((conv => whnf); first | refine (Ix.mk ⟨i, [V.str x], rfl, hgx, ?_⟩) | refine Gs.id ?_ | refine Brn.T (by (try simp only [smT]); first | rfl | assumption | omega | fail) ?_ | (refine Bnd.mk (fun hm => ?_); (try simp only [smT] at hm)) | fail)
      all_goals (conv => whnf)
      all_goals first | (exfalso; simp_all; done) | exact Ret.is rfl
    · rw [decide_eq_false hxs] at e2
      rw [decide_eq_false hxs, Bool.false_or]
      repeat' ((conv => whnf); first | refine (Ix.mk ⟨i, [V.str x], rfl, hgx, ?_⟩) | refine Gs.id ?_ | refine Brn.T (by (try simp only [smT]); first | rfl | omega | fail) ?_ | refine Brn.F (by (try simp only [smT]); first | rfl | assumption | fail) ?_ | (refine Bnd.mk (fun hm => ?_); (try simp only [smT] at hm)) | refine Rng.mk (by (try simp only [smT]); omega) ?_ | fail)
      all_goals (conv => whnf)
      all_goals first | (exfalso; simp_all; done) | exact ⟨i + 1, ⟨by omega, rfl⟩, by omega, [], ⟨by (try dsimp only); (repeat (refine LeT.cons rfl (by first | exact LeS.d (by first | exact LeD.u rfl | fail) | fail) ?_)); exact LeT.nil, by (try dsimp only); repeat (first | exact LeO.nil | fail)⟩⟩
  · obtain rfl : i = l.length := by omega
    have e1 : decide (s ∈ l.drop l.length) = false := by rw [List.drop_length]; rfl
    rw [e1]
    repeat' ((conv => whnf); first | refine Gs.id ?_ | with_reducible refine Brn.F rfl ?_ | refine Brn.F (by (try simp only [smT]); first | rfl | omega | fail) ?_ | fail)
    all_goals (conv => whnf)
    all_goals exact Ret.is rfl
/-- The stack's functions are the active ones. -/
theorem stkJ_fu {l : List Ev} (hv : Vd l) : ∀ n, n ≤ l.length → fuI l (stkI l n) = actAt l n
  | 0, _ => rfl
  | i + 1, hi => by
    have he : l[i]? = some l[i] := List.getElem?_eq_getElem (by omega)
    have ok := hv.ok he
    have ih := stkJ_fu hv i (by omega)
    have hact : actI l[i] i (stkI l i) = stkI l (i + 1) := by
      rw [stkI_succ he, actI, pushI, stepI]
      have := ok.k1
      by_cases h2 : l[i].kind = 2
      · rw [if_pos h2, if_pos h2, if_neg (by omega)]
      · rw [if_neg h2, if_neg h2]
        by_cases h1 : l[i].kind = 1
        · rw [if_neg (by omega), if_neg (by simpa using h1)]
        · rw [if_pos (by omega), if_pos h1]
    rw [← hact, fuI_act he, ih, actAt_succ he]
/-- The part of the text that stands for a function. -/
def partF (f : Fu) : ByteArray := f.1 ++ colon ++ f.2
theorem parts_fu {l : List Ev} (hv : Vd l) (n : Nat) (hn : n ≤ l.length) : (stackAt l n).map partB = (fuI l (stkI l n)).map partF := by
  rw [stkJ_fu hv n hn, ← stack_act hv n hn, List.map_map]
  rfl
theorem nmAt_fu {l : List Ev} (hv : Vd l) (n : Nat) (hn : n ≤ l.length) : nmAt l n = joinB ((fuI l (stkI l n)).map partF) semi ((fuI l (stkI l n)).map partF).length := by
  unfold nmAt stackB
  rw [parts_fu hv n hn]
set_option maxHeartbeats 2000000 in
theorem stackText_R {l : List Ev} (hv : Vd l) (n : Nat) (hn : n ≤ l.length) (hl : l.length ≤ 20000) : CallsA Tryz.prog 47 [.d (.u (evs l)), .d (.u (.sl 1 ((stkI l n).map ixR)))] [] (Is (dsr (nmAt l n))) := by
  have htot := stack_total hv n hn hl
  rw [parts_fu hv n hn] at htot
  have hj := join_R ((fuI l (stkI l n)).map partF) semi (by omega)
  rw [← nmAt_fu hv n hn] at hj
  have hslt := stkI_lt (l := l) n
  have hlen := stkI_len (l := l) n
  have hok : ∀ j ∈ stkI l n, ∃ e, l[j]? = some e ∧ e.md.size ≤ 60 ∧ e.fn.size ≤ 24 := fun j h => by
    obtain ⟨_, h2⟩ := hslt j h
    have he : l[j]? = some l[j] := List.getElem?_eq_getElem h2
    have ok := hv.ok he
    exact ⟨_, he, dotted_size ok.name.1, nameB_size ok.name.2⟩
  generalize nmAt l n = nm at *
  generalize stkI l n = ix at *
  clear htot
  refine callsA_of_vc (T := tt) Tryz.func47 rfl rfl rfl rfl rfl ?_
  repeat' ((conv => whnf); first | refine Gs.id ?_ | fail)
  all_goals (conv => whnf)
  refine ⟨⟨Nat × List ByteArray, fun q => q.1 ≤ ix.length ∧ q.2 = (fuI l (ix.take q.1)).map partF, fun q => ix.length - q.1, fun q => ⟨[(0, .d (.u (evs l))), (1, .d (.u (.sl 1 (ix.map ixR)))), (5, .d (.ow 900 q.2.length)), (6, di q.1)], [(900, .ar 9 1 (strs q.2))]⟩, (0, []), ⟨Nat.zero_le _, rfl⟩, ⟨[(900, .n 1)], ⟨by (try dsimp only); (repeat (refine LeT.cons rfl (by first | exact LeS.d (by first | exact LeD.u rfl | exact LeD.no rfl rfl | fail) | fail) ?_)); exact LeT.nil, by (try dsimp only); repeat (first | exact LeO.nil | refine LeO.no rfl rfl ?_)⟩⟩, fun q hq => ?_⟩⟩
  obtain ⟨q, ps⟩ := q
  obtain ⟨hq1, hq2⟩ := hq
  dsimp only at hq1 hq2 ⊢
  have hpl : ps.length = q := by rw [hq2, List.length_map, fuI, List.length_map, List.length_take]; omega
  by_cases h9 : q < ix.length
  · obtain ⟨j, hj0⟩ : ∃ j, ix[q]? = some j := ⟨_, List.getElem?_eq_getElem h9⟩
    have hgq : (ix.map ixR)[q]? = some (ixR j) := by rw [List.getElem?_map, hj0]; rfl
    obtain ⟨e, he, z1, z2⟩ := hok j (List.mem_of_getElem? hj0)
    have hrowj : ∀ {K : List V → Prop} {m : Int}, m = (j : Int) → K e.row → Ix (l.map Ev.row) m K := fun h k => ⟨⟨j, e.row, h, by rw [List.getElem?_map, he]; rfl, k⟩⟩
    have hpt : ps ++ [e.md ++ colon ++ e.fn] = (fuI l (ix.take (q + 1))).map partF := by
      rw [List.take_add_one, hj0, hq2]
      simp [fuI, he, partF, Ev.fu]
    have hcl : (ByteArray.mk #[58]).size = 1 := rfl
    clear hj hok hslt
    repeat' ((conv => whnf); first | refine (Ix.mk ⟨q, ixR j, rfl, hgq, ?_⟩) | refine hrowj rfl ?_ | refine Cat.mk (by unfold maxLen; (try simp only [ByteArray.size_append]); omega) ?_ | refine Gs.id ?_ | refine Brn.T (by (try simp only [smT]); first | rfl | omega | fail) ?_ | (refine Bnd.mk (fun hm => ?_); (try simp only [smT] at hm)) | refine Rng.mk (by (try simp only [smT]); omega) ?_ | refine Apd.mk (by first | rfl | simp) (by first | rfl | fail) (by (try simp only [smT]); first | omega | fail) (by unfold maxLen; first | (simp; omega) | fail) ?_ | refine Drw.of (T := tt) (i := 5) [20, 21] [] [(0, true), (1, true), (2, true), (3, true), (4, true), (5, true), (6, true), (7, true), (8, true), (9, true), (10, true), (11, true), (12, true), (13, true), (14, true), (15, true), (16, true), (17, true), (18, true), (19, false), (20, false), (21, false)] (by kernel_rfl) ?_)
    all_goals (conv => whnf)
    all_goals exact ⟨(q + 1, ps ++ [e.md ++ colon ++ e.fn]), ⟨by dsimp only; omega, hpt⟩, by dsimp only; omega, [(900, .k 33)], ⟨by (try dsimp only); (repeat (refine LeT.cons rfl (by first | exact LeS.d (by first | exact LeD.u rfl | exact LeD.ow rfl (by simp) | fail) | fail) ?_)); exact LeT.nil, by (try dsimp only); repeat (first | exact LeO.nil | refine LeO.ar rfl rfl (by first | simp) ?_ | fail)⟩⟩
  · obtain rfl : q = ix.length := by omega
    rw [List.take_length] at hq2
    subst hq2
    repeat' ((conv => whnf); first | refine Gs.id ?_ | refine Brn.F (by (try simp only [smT]); first | rfl | omega | fail) ?_ | (refine Bnd.mk (fun hm => ?_); (try simp only [smT] at hm)) | (refine CL.mk (Or.inl ?_); (conv => whnf); refine ClO.mk (Or.inl ?_); (repeat ((conv => whnf); refine Len.mk (by first | rfl | (simp; done) | fail) ?_)); (conv => whnf); refine Cl.is (hj) rfl (by first | exact fun _ => rfl | fail) ?_) | fail)
    all_goals (conv => whnf)
    all_goals exact Ret.is rfl
/-- The amount ahead of all events, or of an event. -/
theorem amountJ_R {l : List Ev} {fuel : Int} (t : Tr l fuel) (j : Nat) (hj : j ≤ l.length) (i : Int) (hi : i = (j : Int) - 1) : CallsA Tryz.prog 50 [.d (.u (evs l)), di i, di fuel] [] (Is (di (aAt l fuel j))) := by
  cases j with
  | zero => rw [show i = -1 by omega]; exact amount0_R t.len
  | succ k => rw [show i = (k : Int) by omega]; exact amount_R t k (by omega)
end Go.Proofs.YtabmcfnefjipbaaGreatDoor
namespace Go.Proofs.YtabmcfnefjipbaaGreatDoor
open Go.RowKit
theorem nmAt_size {l : List Ev} (hv : Vd l) (n : Nat) (hn : n ≤ l.length) (hl : l.length ≤ 20000) : (nmAt l n).size ≤ 1720000 := stackB_size hv n hn hl
set_option maxHeartbeats 4000000 in
theorem stacksR_R {l : List Ev} {fuel : Int} (t : Tr l fuel) : CallsA Tryz.prog 16 [.d (.u (evs l)), di fuel] [] (Is (.d (.u (strs' (rs l fuel (l.length + 1)))))) := by
  have hL := t.len
  have hmx := t.mx
  have hv := t.vd
  refine callsA_of_vc (T := tt) Tryz.func16 rfl rfl rfl rfl rfl ?_
  repeat' ((conv => whnf); first | refine Gs.id ?_ | fail)
  all_goals (conv => whnf)
  refine ⟨⟨Nat, fun j => j ≤ l.length + 1, fun j => l.length + 1 - j, fun j => ⟨[(0, .d (.u (evs l))), (1, di fuel), (5, .d (.ow 900 (rs l fuel j).length)), (6, .d (.ow 901 (dn l j).length)), (7, di ((j : Int) - 1))], [(900, .ar 9 1 (strs (rs l fuel j))), (901, .ar 9 1 (strs (dn l j)))]⟩, 0, Nat.zero_le _, ⟨[(900, .n 1), (901, .n 1)], ⟨by (try dsimp only); (repeat (refine LeT.cons rfl (by first | exact LeS.d (by first | exact LeD.u rfl | exact LeD.no rfl rfl | fail) | fail) ?_)); exact LeT.nil, by (try dsimp only); repeat (first | exact LeO.nil | refine LeO.no rfl rfl ?_)⟩⟩, fun j hj => ?_⟩⟩
  dsimp only at hj ⊢
  by_cases h9 : j < l.length + 1
  · have hst : ∀ m : Int, m = (j : Int) → CallsA Tryz.prog 48 [.d (.u (evs l)), di m] [] (Is (.d (.u (.sl 1 ((stkI l j).map ixR))))) := fun m hm => by subst hm; exact stack_R l j (by omega) (by omega)
    have htx := stackText_R hv j (by omega) hL
    have hdl := dn_len (l := l) j
    have hrl := rs_len (l := l) (fuel := fuel) j
    have hhs := hasS_R (dn l j) (nmAt l j) (by omega) _ rfl
    have hnz := nmAt_size hv j (by omega) hL
    have hdn : dn l (j + 1) = if nmAt l j ∈ dn l j then dn l j else dn l j ++ [nmAt l j] := rfl
    have hrs : rs l fuel (j + 1) = if nmAt l j ∈ dn l j then rs l fuel j else if 0 < totN l fuel (nmAt l j) (l.length + 1) then rs l fuel j ++ [nmAt l j ++ spaceB ++ itoaB (totN l fuel (nmAt l j) (l.length + 1))] else rs l fuel j := rfl
    have ht0 := totN_zero (l := l) (fuel := fuel) (nm := nmAt l j) j
    by_cases hm : nmAt l j ∈ dn l j
    · rw [if_pos hm] at hdn hrs
      rw [decide_eq_true hm] at hhs
      clear ht0
      generalize nmAt l j = nm at *
      generalize dn l j = ds at *
      generalize rs l fuel j = os at *
      repeat' ((conv => whnf); first | refine Gs.id ?_ | with_reducible refine Brn.T rfl ?_ | refine Brn.T (by (try simp only [smT]); first | rfl | omega | fail) ?_ | (refine Bnd.mk (fun hm => ?_); (try simp only [smT] at hm)) | refine Rng.mk (by (try simp only [smT]); omega) ?_ | (refine CL.mk (Or.inl ?_); (conv => whnf); first | refine Cl.is (hst _ (by omega)) rfl (by first | (intro e; cases e; done) | fail) ?_ | refine Cl.is (htx) rfl (by first | exact fun _ => rfl | fail) ?_ | fail) | (refine CL.mk (Or.inl ?_); (conv => whnf); refine ClO.mk (Or.inl ?_); (repeat ((conv => whnf); refine Len.mk (by first | rfl | (simp; done) | fail) ?_)); (conv => whnf); refine Cl.is (hhs) rfl (by first | exact fun _ => rfl | fail) ?_) | fail)
      all_goals (conv => whnf)
      all_goals exact ⟨j + 1, by omega, by omega, [(900, .k 900), (901, .k 901)], by ((try dsimp only); rw [hdn, hrs]; exact ⟨by (try dsimp only); (repeat (refine LeT.cons rfl (by first | exact LeS.d (by first | exact LeD.u rfl | exact LeD.ow rfl rfl | exact LeD.u (by simp; done) | fail) | fail) ?_)); exact LeT.nil, by (try dsimp only); repeat (first | exact LeO.nil | refine LeO.ar rfl rfl (by first | rfl | fail) ?_ | fail)⟩)⟩
    · rw [if_neg hm] at hdn hrs
      rw [decide_eq_false hm] at hhs
      have ht1 := ht0 hm
      clear ht0
      have hbd := totN_rng t (nmAt l j)
      have hsub : ∀ m, m ≤ l.length → CallsA Tryz.prog 47 [.d (.u (evs l)), .d (.u (.sl 1 ((stkI l m).map ixR)))] [] (Is (dsr (nmAt l m))) := fun m h => stackText_R hv m h hL
      have htot : ∀ m, totN l fuel (nmAt l j) (m + 1) = totN l fuel (nmAt l j) m + (if nmAt l m = nmAt l j then aAt l fuel m else 0) := fun m => rfl
      generalize hnm : nmAt l j = nm at *
      generalize dn l j = ds at *
      generalize rs l fuel j = os at *
      repeat' ((conv => whnf); first | refine Gs.id ?_ | with_reducible refine Brn.F rfl ?_ | refine Brn.T (by (try simp only [smT]); first | rfl | omega | fail) ?_ | (refine Bnd.mk (fun hm => ?_); (try simp only [smT] at hm)) | refine Rng.mk (by (try simp only [smT]); omega) ?_ | refine Apd.mk (by first | rfl | simp) (by first | rfl | fail) (by (try simp only [smT]); first | omega | fail) (by unfold maxLen; first | (simp; omega) | fail) ?_ | (refine CL.mk (Or.inl ?_); (conv => whnf); first | refine Cl.is (hst _ (by omega)) rfl (by first | (intro e; cases e; done) | fail) ?_ | refine Cl.is (htx) rfl (by first | exact fun _ => rfl | fail) ?_ | fail) | (refine CL.mk (Or.inl ?_); (conv => whnf); refine ClO.mk (Or.inl ?_); (repeat ((conv => whnf); refine Len.mk (by first | rfl | (simp; done) | fail) ?_)); (conv => whnf); refine Cl.is (hhs) rfl (by first | exact fun _ => rfl | fail) ?_) | fail)
      all_goals (conv => whnf)
      refine ⟨⟨Nat, fun m => j ≤ m ∧ m ≤ l.length + 1, fun m => l.length + 1 - m, fun m => ⟨[(0, .d (.u (evs l))), (1, di fuel), (5, .d (.ow 900 os.length)), (6, .d (.ow 901 (ds ++ [nm]).length)), (7, di ((j : Int) - 1)), (8, dsr nm), (9, di (totN l fuel nm m)), (10, di ((m : Int) - 1))], [(900, .ar 9 1 (strs os)), (901, .ar 9 1 (strs (ds ++ [nm])))]⟩, j, ⟨Nat.le_refl _, hj⟩, ⟨[(900, .k 900), (901, .k 31)], by ((try dsimp only); rw [ht1]; exact ⟨by (try dsimp only); (repeat (refine LeT.cons rfl (by first | exact LeS.d (by first | exact LeD.u rfl | exact LeD.ow rfl rfl | exact LeD.ow rfl (by simp) | fail) | fail) ?_)); exact LeT.nil, by (try dsimp only); repeat (first | exact LeO.nil | refine LeO.ar rfl rfl (by first | rfl | simp) ?_ | fail)⟩)⟩, fun m hm2 => ?_⟩⟩
      obtain ⟨hm2, hm3⟩ := hm2
      dsimp only
      by_cases h8 : m < l.length + 1
      · have hst2 : ∀ k : Int, k = (m : Int) → CallsA Tryz.prog 48 [.d (.u (evs l)), di k] [] (Is (.d (.u (.sl 1 ((stkI l m).map ixR))))) := fun k hk => by subst hk; exact stack_R l m (by omega) (by omega)
        have htx2 := hsub m (by omega)
        have ham : ∀ k : Int, k = (m : Int) - 1 → CallsA Tryz.prog 50 [.d (.u (evs l)), di k, di fuel] [] (Is (di (aAt l fuel m))) := fun k hk => amountJ_R t m (by omega) k hk
        have h1 := hbd m (by omega)
        have h2 := hbd (m + 1) (by omega)
        have h3 := htot m
        rw [h3] at h2
        have hq := toList_beq (nmAt l m) nm
        clear hst htx hhs hsub hbd htot hrs hdn hnz ht1
        by_cases hmn : nmAt l m = nm
        · rw [if_pos hmn] at h2 h3
          rw [decide_eq_true hmn] at hq
          clear hmn hnm
          generalize nmAt l m = nm2 at *
          generalize totN l fuel nm m = S at *
          generalize aAt l fuel m = a at *
          repeat' ((conv => whnf); first | rw [hq] | refine Gs.id ?_ | with_reducible refine Brn.T rfl ?_ | refine Brn.T (by (try simp only [smT]); first | rfl | omega | fail) ?_ | (refine Bnd.mk (fun hm => ?_); (try simp only [smT] at hm)) | refine Rng.mk (by (try simp only [smT]); omega) ?_ | (refine CL.mk (Or.inl ?_); (conv => whnf); first | refine Cl.is (hst2 _ (by omega)) rfl (by first | (intro e; cases e; done) | fail) ?_ | refine Cl.is (htx2) rfl (by first | exact fun _ => rfl | fail) ?_ | refine Cl.is (ham _ (by omega)) rfl (by first | exact fun _ => rfl | fail) ?_) | fail)
          all_goals (conv => whnf)
          all_goals exact ⟨m + 1, ⟨by omega, by omega⟩, by omega, [(900, .k 900), (901, .k 901)], by ((try dsimp only); rw [h3]; exact ⟨by (try dsimp only); (repeat (refine LeT.cons rfl (by first | exact LeS.d (by first | exact LeD.u rfl | exact LeD.ow rfl rfl | exact LeD.u (by simp; done) | fail) | fail) ?_)); exact LeT.nil, by (try dsimp only); repeat (first | exact LeO.nil | refine LeO.ar rfl rfl (by first | rfl | fail) ?_ | fail)⟩)⟩
        · rw [if_neg hmn, Int.add_zero] at h3
          rw [decide_eq_false hmn] at hq
          clear hmn hnm h2
          generalize nmAt l m = nm2 at *
          generalize totN l fuel nm m = S at *
          repeat' ((conv => whnf); first | rw [hq] | refine Gs.id ?_ | with_reducible refine Brn.F rfl ?_ | refine Brn.T (by (try simp only [smT]); first | rfl | omega | fail) ?_ | (refine Bnd.mk (fun hm => ?_); (try simp only [smT] at hm)) | refine Rng.mk (by (try simp only [smT]); omega) ?_ | (refine CL.mk (Or.inl ?_); (conv => whnf); first | refine Cl.is (hst2 _ (by omega)) rfl (by first | (intro e; cases e; done) | fail) ?_ | refine Cl.is (htx2) rfl (by first | exact fun _ => rfl | fail) ?_) | fail)
          all_goals (conv => whnf)
          all_goals exact ⟨m + 1, ⟨by omega, by omega⟩, by omega, [(900, .k 900), (901, .k 901)], by ((try dsimp only); rw [h3]; exact ⟨by (try dsimp only); (repeat (refine LeT.cons rfl (by first | exact LeS.d (by first | exact LeD.u rfl | exact LeD.ow rfl rfl | exact LeD.u (by simp; done) | fail) | fail) ?_)); exact LeT.nil, by (try dsimp only); repeat (first | exact LeO.nil | refine LeO.ar rfl rfl (by first | rfl | fail) ?_ | fail)⟩)⟩
      · obtain rfl : m = l.length + 1 := by omega
        have h1 := hbd (l.length + 1) (by omega)
        clear hst htx hhs hsub hbd htot ht1
        generalize totN l fuel nm (l.length + 1) = S at *
        have hdec := decimal_R 19 S (by omega) (by omega) (by omega)
        have hz1 := itoaB_size (n := S) (by omega) (by omega)
        have hz2 : (ByteArray.mk #[32]).size = 1 := rfl
        by_cases h0 : 0 < S
        · rw [if_pos h0] at hrs
          repeat' ((conv => whnf); first | refine Cat.mk (by unfold maxLen; (try simp only [ByteArray.size_append]); omega) ?_ | refine Gs.id ?_ | refine Brn.T (by (try simp only [smT]); first | rfl | assumption | fail) ?_ | refine Brn.F (by (try simp only [smT]); first | rfl | omega | fail) ?_ | (refine Bnd.mk (fun hm => ?_); (try simp only [smT] at hm)) | refine Rng.mk (by (try simp only [smT]); omega) ?_ | refine Apd.mk (by first | rfl | simp) (by first | rfl | fail) (by (try simp only [smT]); first | omega | fail) (by unfold maxLen; first | (simp; omega) | fail) ?_ | (refine CL.mk (Or.inl ?_); (conv => whnf); refine Cl.is (hdec) rfl (by first | exact fun _ => rfl | fail) ?_) | fail)
          all_goals (conv => whnf)
          all_goals exact ⟨j + 1, by omega, by omega, [(900, .k 62), (901, .k 901)], by ((try dsimp only); rw [hdn, hrs]; exact ⟨by (try dsimp only); (repeat (refine LeT.cons rfl (by first | exact LeS.d (by first | exact LeD.u rfl | exact LeD.ow rfl rfl | exact LeD.ow rfl (by simp) | exact LeD.u (by simp; done) | fail) | fail) ?_)); exact LeT.nil, by (try dsimp only); repeat (first | exact LeO.nil | refine LeO.ar rfl rfl (by first | rfl | simp) ?_ | fail)⟩)⟩
        · rw [if_neg h0] at hrs
          repeat' ((conv => whnf); first | refine Gs.id ?_ | refine Brn.F (by (try simp only [smT]); first | rfl | omega | fail) ?_ | (refine Bnd.mk (fun hm => ?_); (try simp only [smT] at hm)) | refine Rng.mk (by (try simp only [smT]); omega) ?_ | fail)
          all_goals (conv => whnf)
          all_goals exact ⟨j + 1, by omega, by omega, [(900, .k 900), (901, .k 901)], by ((try dsimp only); rw [hdn, hrs]; exact ⟨by (try dsimp only); (repeat (refine LeT.cons rfl (by first | exact LeS.d (by first | exact LeD.u rfl | exact LeD.ow rfl rfl | exact LeD.u (by simp; done) | fail) | fail) ?_)); exact LeT.nil, by (try dsimp only); repeat (first | exact LeO.nil | refine LeO.ar rfl rfl (by first | rfl | fail) ?_ | fail)⟩)⟩
  · obtain rfl : j = l.length + 1 := by omega
    repeat' ((conv => whnf); first | refine Gs.id ?_ | refine Brn.F (by (try simp only [smT]); first | rfl | omega | fail) ?_ | (refine Bnd.mk (fun hm => ?_); (try simp only [smT] at hm)) | refine Len.mk (by first | rfl | (simp; done) | fail) ?_ | fail)
    all_goals (conv => whnf)
    all_goals first | exact Ret.is rfl | exact Ret.nl (by repeat (fail))
end Go.Proofs.YtabmcfnefjipbaaGreatDoor
namespace Go.Proofs.YtabmcfnefjipbaaGreatDoor
open Go.RowKit
abbrev dfR (m : Int × Int) : SC := .a [.u (.int .i64 m.1), .u (.int .i64 m.2)]
theorem stacks_bad {l : List Ev} {fuel : Int} (h0 : (checkM l fuel).1 ≠ 0) : CallsA Tryz.prog 12 [.d (.u (evs l)), di fuel] [] (Iso (.t [.d (.u .nl), dfR (checkM l fuel)]) []) := by
  have h1 := check_T l fuel
  generalize checkM l fuel = m at *
  obtain ⟨c, i⟩ := m
  dsimp only at *
  refine callsA_of_rfO (T := tt) Tryz.func12 rfl rfl rfl rfl rfl ?_
  repeat' ((conv => whnf); first | refine Gs.id ?_ | refine Brn.T (by (try simp only [smT]); first | rfl | assumption | fail) ?_ | refine Drw.of (T := tt) (i := 3) [2] [] [(0, true), (1, true), (2, false)] (by kernel_rfl) ?_ | (refine CL.mk (Or.inl ?_); (conv => whnf); refine Cl.is (h1) rfl (by first | exact fun _ => rfl | fail) ?_) | fail)
  all_goals (conv => whnf)
  all_goals refine RetO.mk ⟨[], _, _, (by exact LeS.ts (by repeat (first | exact LeCs.nil | refine LeCs.cons (by first | exact LeC.d (by first | exact LeD.u rfl | fail) | exact LeC.a (by repeat (first | exact LeL.nil | refine LeL.cons (by first | exact LeD.u rfl | fail) ?_))) ?_))), (by repeat (first | exact LeO.nil | fail)), rfl, rfl⟩
end Go.Proofs.YtabmcfnefjipbaaGreatDoor
namespace Go.Proofs.YtabmcfnefjipbaaGreatDoor
open Go.RowKit
set_option maxHeartbeats 4000000 in
theorem law_stacks_T (l : List Ev) (fuel : Int) (hsz : ∀ e ∈ l, e.md.size ≤ 1000000000000) (hx : fuel ≤ 9223372036854775807) (zt : Fz) (hz : Tab zt) : CallsA Tryz.prog 3 [.d (.u (evs l)), di fuel] [(907, tbOb zt)] (Iso (db true) [(907, tbOb zt)]) := by
  have hf := fuelFault_T l fuel hsz
  have hp := profiled_T zt hz
  by_cases h0 : (checkM l fuel).1 = 0
  · have hc := checkM_zero h0
    have t := check_Tr (l := l) (fuel := fuel) h0 hx
    have h1 := stacks_ok (l := l) (fuel := fuel) hc hx zt hz
    have h2 := stacksR_R t
    have h3 := strings_R (stacksM l fuel) (stacksM l fuel)
    rw [decide_eq_true rfl] at h3
    rw [← stacks_agree] at h2
    rw [hc] at hf
    generalize stacksM l fuel = ss at *
    clear t
    refine callsA_of_vcO (T := tt) Tryz.func3 rfl rfl rfl rfl rfl ?_
    repeat' ((conv => whnf); first | refine Gs.id ?_ | with_reducible refine And.intro ?_ ?_ | with_reducible refine Brn.T rfl ?_ | with_reducible refine Brn.F rfl ?_ | refine Brn.T (by (try simp only [smT]); first | rfl | assumption | omega | (simp only [*]; done) | (simp [*]; done) | fail) ?_ | refine Brn.F (by (try simp only [smT]); first | rfl | assumption | omega | (simp only [*]; done) | (simp [*]; done) | fail) ?_ | (refine Brn.mk (fun hb => ?_) (fun hb => ?_) <;> (try simp only [smT] at hb) <;> (try (exact absurd trivial hb)) <;> (try (exfalso; omega))) | (refine Bnd.mk (fun hm => ?_); (try simp only [smT] at hm)) | refine Rng.mk (by (try simp only [smT]); omega) ?_ | refine Ix.map rfl (by (try simp only [smT]); omega) ?_ | refine Ix.map (m := 0) rfl (by (try simp only [smT]); omega) ?_ | refine Ix.lit (m := 0) rfl rfl ?_ | refine Ixo.mk ⟨_, rfl, (by (try simp only [smT]); omega), ?_⟩ | refine Rw.lit rfl ?_ | refine Rw.self (by (try simp only [smT]); omega) ?_ | refine Rw.map (by (try simp only [smT]); omega) ?_ | refine Len.mk (by first | rfl | (simp; done) | (simp only [smT]; assumption) | (simp only [smT]; omega)) ?_ | refine Eqv.mk (by kernel_rfl) ?_ | refine Apd.mk (by first | rfl | simp) (by first | rfl | simp) (by (try simp only [smT]); first | omega | (simp; omega)) (by unfold maxLen; first | (simp; done) | (simp; omega) | omega) ?_ | refine Raw.capNil (T := tt) rfl rfl rfl rfl ?_ | refine Raw.sliceNil (T := tt) rfl rfl (by first | rfl | omega | (simp; done)) rfl rfl rfl rfl ?_ | refine Raw.makeMap (T := tt) rfl rfl rfl rfl rfl rfl (.inl rfl) rfl rfl ?_ | refine Raw.mapUpdate (T := tt) (.inl rfl) rfl rfl rfl rfl rfl rfl rfl rfl rfl rfl rfl (by assumption) ?_ | refine Pm.mk (by first | assumption | omega | (simp; done) | (simp; omega)) (by first | assumption | omega | (simp; done) | (simp; omega)) ?_ | (refine Raw.appendR (T := tt) ?_; (conv => whnf); first | refine Rw.lit rfl ?_ | refine Rw.self (by (try simp only [smT]); omega) ?_ | refine Rw.map (by (try simp only [smT]); omega) ?_) | refine Raw.appendIn (T := tt) rfl rfl rfl rfl rfl rfl rfl rfl rfl rfl (by (try simp only [smT]); omega) (by (try simp only [smT]); omega) ?_ | refine Raw.clear (T := tt) rfl rfl rfl rfl rfl rfl rfl (by (try simp only [smT]); omega) ?_ | refine Slc.mk ⟨_, _, rfl, rfl, (by (try simp only [smT]); omega), (by (try simp only [smT]); omega), ?_⟩ | refine Slc.mk ⟨0, _, rfl, rfl, (by (try simp only [smT]); omega), (by (try simp only [smT]); omega), ?_⟩ | refine Slc.mk ⟨1, _, rfl, rfl, (by (try simp only [smT]); omega), (by (try simp only [smT]); omega), ?_⟩ | refine Slc3.mk ⟨_, _, _, rfl, rfl, rfl, (by (try simp only [smT]); omega), (by (try simp only [smT]); omega), (by (try simp only [smT]); omega)⟩ ?_ | refine Raw.mapUpdateS (T := tt) (.inl rfl) rfl rfl rfl rfl rfl rfl rfl rfl rfl rfl rfl rfl rfl (by kernel_rfl) (by assumption) ?_ | refine Raw.faStoreV (T := tt) rfl rfl rfl rfl rfl rfl (by first | rfl | assumption | exact fa_get (by first | assumption | (simp; done) | (simp; omega))) rfl (by first | exact .inl ⟨_, rfl⟩ | exact .inr rfl) ?_ | refine Raw.faStoreO (T := tt) rfl rfl rfl rfl rfl rfl rfl rfl (by first | rfl | assumption | exact fa_get (by first | assumption | (simp; done) | (simp; omega))) rfl ?_ | refine Raw.faStoreRe (T := tt) rfl rfl rfl rfl rfl rfl rfl rfl (by first | rfl | assumption | exact fa_get (by first | assumption | (simp; done) | (simp; omega))) rfl (by first | rfl | assumption | exact fa_get (by first | assumption | (simp; done) | (simp; omega))) (by (try simp only [smT]); omega) ?_ | refine Raw.faAppend (T := tt) rfl rfl rfl rfl rfl rfl rfl rfl rfl rfl rfl rfl rfl (by first | rfl | assumption | exact fa_get (by first | assumption | (simp; done) | (simp; omega))) rfl rfl ?_ | refine Raw.faCopy (T := tt) rfl rfl rfl rfl rfl rfl rfl rfl rfl rfl rfl rfl rfl rfl ?_ | (refine CL.mk (Or.inl ?_); (conv => whnf); first | refine Cl.is (hf) rfl (by first | exact fun _ => rfl | (intro e; cases e; done) | fail) ?_ | refine Cl.is (h2) rfl (by first | exact fun _ => rfl | (intro e; cases e; done) | fail) ?_ | refine Cl.is (h3) rfl (by first | exact fun _ => rfl | (intro e; cases e; done) | fail) ?_) | (refine CL.mk (Or.inl ?_); (conv => whnf); refine ClO.mk (Or.inl ?_); (repeat ((conv => whnf); refine Len.mk (by first | rfl | (simp; done) | (simp only [smT]; assumption) | (simp only [smT]; omega)) ?_)); (conv => whnf); first | refine Cl.is (hf) rfl (by first | exact fun _ => rfl | (intro e; cases e; done) | fail) ?_ | refine Cl.is (h2) rfl (by first | exact fun _ => rfl | (intro e; cases e; done) | fail) ?_ | refine Cl.is (h3) rfl (by first | exact fun _ => rfl | (intro e; cases e; done) | fail) ?_) | (refine CL.mk (Or.inl ?_); (conv => whnf); refine ClO.mk (Or.inr ?_); (repeat ((conv => whnf); refine Len.mk (by first | rfl | (simp; done) | (simp only [smT]; assumption) | (simp only [smT]; omega)) ?_)); (conv => whnf); first | refine Cl.is (hf) rfl (by first | exact fun _ => rfl | (intro e; cases e; done) | fail) ?_ | refine Cl.is (h2) rfl (by first | exact fun _ => rfl | (intro e; cases e; done) | fail) ?_ | refine Cl.is (h3) rfl (by first | exact fun _ => rfl | (intro e; cases e; done) | fail) ?_) | (refine CL.mk (Or.inr (Raw.callI [907] [907,908] rfl rfl rfl rfl rfl rfl rfl (h1) ?_)); rintro _ _ ⟨rfl, rfl⟩; refine Bk.mk rfl rfl ?_) | (refine CL.mk (Or.inr (Raw.callI [907] [907] rfl rfl rfl rfl rfl rfl rfl (hp) ?_)); rintro _ _ ⟨rfl, rfl⟩; refine Bk.mk rfl rfl ?_))
    all_goals (conv => whnf)
    all_goals refine RetO.mk ⟨[(907, .k 907)], _, _, (by first | exact LeS.d (by first | exact LeD.u rfl | exact LeD.p rfl | exact LeD.ow rfl rfl | exact LeD.ow rfl (by simp) | exact LeD.no rfl rfl | exact LeD.nl (by first | rfl | simp) | exact LeD.u (by simp; done) | exact LeD.u (by congr 1; omega) | exact LeD.q rfl | exact LeD.r rfl | exact LeD.r (by simp; done) | exact LeD.re | exact LeD.mp rfl | exact LeD.ows rfl rfl rfl | exact LeD.u (by congr 1; congr 1; simp) | exact LeD.fn (by repeat (first | exact LeN.nil | refine LeN.cons rfl ?_))) | exact LeS.a (by repeat (first | exact LeL.nil | refine LeL.cons (by first | exact LeD.u rfl | exact LeD.p rfl | exact LeD.ow rfl rfl | exact LeD.ow rfl (by simp) | exact LeD.no rfl rfl | exact LeD.nl (by first | rfl | simp) | exact LeD.u (by simp; done) | exact LeD.u (by congr 1; omega) | exact LeD.q rfl | exact LeD.r rfl | exact LeD.r (by simp; done) | exact LeD.re | exact LeD.mp rfl | exact LeD.ows rfl rfl rfl | exact LeD.u (by congr 1; congr 1; simp) | exact LeD.fn (by repeat (first | exact LeN.nil | refine LeN.cons rfl ?_))) ?_)) | exact LeS.ts (by repeat (first | exact LeCs.nil | refine LeCs.cons (by first | exact LeC.d (by first | exact LeD.u rfl | exact LeD.p rfl | exact LeD.ow rfl rfl | exact LeD.ow rfl (by simp) | exact LeD.no rfl rfl | exact LeD.nl (by first | rfl | simp) | exact LeD.u (by simp; done) | exact LeD.u (by congr 1; omega) | exact LeD.q rfl | exact LeD.r rfl | exact LeD.r (by simp; done) | exact LeD.re | exact LeD.mp rfl | exact LeD.ows rfl rfl rfl | exact LeD.u (by congr 1; congr 1; simp) | exact LeD.fn (by repeat (first | exact LeN.nil | refine LeN.cons rfl ?_))) | exact LeC.a (by repeat (first | exact LeL.nil | refine LeL.cons (by first | exact LeD.u rfl | exact LeD.p rfl | exact LeD.ow rfl rfl | exact LeD.ow rfl (by simp) | exact LeD.no rfl rfl | exact LeD.nl (by first | rfl | simp) | exact LeD.u (by simp; done) | exact LeD.u (by congr 1; omega) | exact LeD.q rfl | exact LeD.r rfl | exact LeD.r (by simp; done) | exact LeD.re | exact LeD.mp rfl | exact LeD.ows rfl rfl rfl | exact LeD.u (by congr 1; congr 1; simp) | exact LeD.fn (by repeat (first | exact LeN.nil | refine LeN.cons rfl ?_))) ?_))) ?_))), (by repeat (first | exact LeO.nil | refine LeO.bx rfl rfl (by repeat (first | exact LeL.nil | refine LeL.cons (by first | exact LeD.u rfl | exact LeD.p rfl | exact LeD.ow rfl rfl | exact LeD.ow rfl (by simp) | exact LeD.no rfl rfl | exact LeD.nl (by first | rfl | simp) | exact LeD.u (by simp; done) | exact LeD.u (by congr 1; omega) | exact LeD.q rfl | exact LeD.r rfl | exact LeD.r (by simp; done) | exact LeD.re | exact LeD.mp rfl | exact LeD.ows rfl rfl rfl | exact LeD.u (by congr 1; congr 1; simp) | exact LeD.fn (by repeat (first | exact LeN.nil | refine LeN.cons rfl ?_))) ?_)) ?_ | refine LeO.ar rfl rfl (by first | rfl | simp) ?_ | refine LeO.ab rfl rfl (by repeat (first | exact LeL.nil | refine LeL.cons (by first | exact LeD.u rfl | exact LeD.p rfl | exact LeD.ow rfl rfl | exact LeD.ow rfl (by simp) | exact LeD.no rfl rfl | exact LeD.nl (by first | rfl | simp) | exact LeD.u (by simp; done) | exact LeD.u (by congr 1; omega) | exact LeD.q rfl | exact LeD.r rfl | exact LeD.r (by simp; done) | exact LeD.re | exact LeD.mp rfl | exact LeD.ows rfl rfl rfl | exact LeD.u (by congr 1; congr 1; simp) | exact LeD.fn (by repeat (first | exact LeN.nil | refine LeN.cons rfl ?_))) ?_)) (by first | rfl | simp) ?_ | refine LeO.fa rfl rfl (by first | rfl | simp) ?_ | refine LeO.fm rfl (by first | rfl | simp) ?_ | refine LeO.mp rfl rfl (by first | rfl | simp) ?_ | refine LeO.no rfl rfl ?_)), rfl, rfl⟩
  · have h1 := stacks_bad h0
    generalize checkM l fuel = m at *
    obtain ⟨c, i⟩ := m
    dsimp only at *
    refine callsA_of_vcO (T := tt) Tryz.func3 rfl rfl rfl rfl rfl ?_
    repeat' ((conv => whnf); first | refine Gs.id ?_ | with_reducible refine And.intro ?_ ?_ | with_reducible refine Brn.T rfl ?_ | with_reducible refine Brn.F rfl ?_ | refine Brn.T (by (try simp only [smT]); first | rfl | assumption | omega | (simp only [*]; done) | (simp [*]; done) | fail) ?_ | refine Brn.F (by (try simp only [smT]); first | rfl | assumption | omega | (simp only [*]; done) | (simp [*]; done) | fail) ?_ | (refine Brn.mk (fun hb => ?_) (fun hb => ?_) <;> (try simp only [smT] at hb) <;> (try (exact absurd trivial hb)) <;> (try (exfalso; omega))) | (refine Bnd.mk (fun hm => ?_); (try simp only [smT] at hm)) | refine Rng.mk (by (try simp only [smT]); omega) ?_ | refine Ix.map rfl (by (try simp only [smT]); omega) ?_ | refine Ix.map (m := 0) rfl (by (try simp only [smT]); omega) ?_ | refine Ix.lit (m := 0) rfl rfl ?_ | refine Ixo.mk ⟨_, rfl, (by (try simp only [smT]); omega), ?_⟩ | refine Rw.lit rfl ?_ | refine Rw.self (by (try simp only [smT]); omega) ?_ | refine Rw.map (by (try simp only [smT]); omega) ?_ | refine Len.mk (by first | rfl | (simp; done) | (simp only [smT]; assumption) | (simp only [smT]; omega)) ?_ | refine Eqv.mk (by kernel_rfl) ?_ | refine Apd.mk (by first | rfl | simp) (by first | rfl | simp) (by (try simp only [smT]); first | omega | (simp; omega)) (by unfold maxLen; first | (simp; done) | (simp; omega) | omega) ?_ | refine Raw.capNil (T := tt) rfl rfl rfl rfl ?_ | refine Raw.sliceNil (T := tt) rfl rfl (by first | rfl | omega | (simp; done)) rfl rfl rfl rfl ?_ | refine Raw.makeMap (T := tt) rfl rfl rfl rfl rfl rfl (.inl rfl) rfl rfl ?_ | refine Raw.mapUpdate (T := tt) (.inl rfl) rfl rfl rfl rfl rfl rfl rfl rfl rfl rfl rfl (by assumption) ?_ | refine Pm.mk (by first | assumption | omega | (simp; done) | (simp; omega)) (by first | assumption | omega | (simp; done) | (simp; omega)) ?_ | (refine Raw.appendR (T := tt) ?_; (conv => whnf); first | refine Rw.lit rfl ?_ | refine Rw.self (by (try simp only [smT]); omega) ?_ | refine Rw.map (by (try simp only [smT]); omega) ?_) | refine Raw.appendIn (T := tt) rfl rfl rfl rfl rfl rfl rfl rfl rfl rfl (by (try simp only [smT]); omega) (by (try simp only [smT]); omega) ?_ | refine Raw.clear (T := tt) rfl rfl rfl rfl rfl rfl rfl (by (try simp only [smT]); omega) ?_ | refine Slc.mk ⟨_, _, rfl, rfl, (by (try simp only [smT]); omega), (by (try simp only [smT]); omega), ?_⟩ | refine Slc.mk ⟨0, _, rfl, rfl, (by (try simp only [smT]); omega), (by (try simp only [smT]); omega), ?_⟩ | refine Slc.mk ⟨1, _, rfl, rfl, (by (try simp only [smT]); omega), (by (try simp only [smT]); omega), ?_⟩ | refine Slc3.mk ⟨_, _, _, rfl, rfl, rfl, (by (try simp only [smT]); omega), (by (try simp only [smT]); omega), (by (try simp only [smT]); omega)⟩ ?_ | refine Raw.mapUpdateS (T := tt) (.inl rfl) rfl rfl rfl rfl rfl rfl rfl rfl rfl rfl rfl rfl rfl (by kernel_rfl) (by assumption) ?_ | refine Raw.faStoreV (T := tt) rfl rfl rfl rfl rfl rfl (by first | rfl | assumption | exact fa_get (by first | assumption | (simp; done) | (simp; omega))) rfl (by first | exact .inl ⟨_, rfl⟩ | exact .inr rfl) ?_ | refine Raw.faStoreO (T := tt) rfl rfl rfl rfl rfl rfl rfl rfl (by first | rfl | assumption | exact fa_get (by first | assumption | (simp; done) | (simp; omega))) rfl ?_ | refine Raw.faStoreRe (T := tt) rfl rfl rfl rfl rfl rfl rfl rfl (by first | rfl | assumption | exact fa_get (by first | assumption | (simp; done) | (simp; omega))) rfl (by first | rfl | assumption | exact fa_get (by first | assumption | (simp; done) | (simp; omega))) (by (try simp only [smT]); omega) ?_ | refine Raw.faAppend (T := tt) rfl rfl rfl rfl rfl rfl rfl rfl rfl rfl rfl rfl rfl (by first | rfl | assumption | exact fa_get (by first | assumption | (simp; done) | (simp; omega))) rfl rfl ?_ | refine Raw.faCopy (T := tt) rfl rfl rfl rfl rfl rfl rfl rfl rfl rfl rfl rfl rfl rfl ?_ | (refine CL.mk (Or.inl ?_); (conv => whnf); first | refine Cl.is (hf) rfl (by first | exact fun _ => rfl | (intro e; cases e; done) | fail) ?_ | refine Cl.is (h1) rfl (by first | exact fun _ => rfl | (intro e; cases e; done) | fail) ?_) | (refine CL.mk (Or.inl ?_); (conv => whnf); refine ClO.mk (Or.inl ?_); (repeat ((conv => whnf); refine Len.mk (by first | rfl | (simp; done) | (simp only [smT]; assumption) | (simp only [smT]; omega)) ?_)); (conv => whnf); first | refine Cl.is (hf) rfl (by first | exact fun _ => rfl | (intro e; cases e; done) | fail) ?_ | refine Cl.is (h1) rfl (by first | exact fun _ => rfl | (intro e; cases e; done) | fail) ?_) | (refine CL.mk (Or.inl ?_); (conv => whnf); refine ClO.mk (Or.inr ?_); (repeat ((conv => whnf); refine Len.mk (by first | rfl | (simp; done) | (simp only [smT]; assumption) | (simp only [smT]; omega)) ?_)); (conv => whnf); first | refine Cl.is (hf) rfl (by first | exact fun _ => rfl | (intro e; cases e; done) | fail) ?_ | refine Cl.is (h1) rfl (by first | exact fun _ => rfl | (intro e; cases e; done) | fail) ?_) | (refine CL.mk (Or.inr (Raw.callI [] [] rfl rfl rfl rfl rfl rfl rfl (h1) ?_)); rintro _ _ ⟨rfl, rfl⟩; refine Bk.mk rfl rfl ?_) | (refine CL.mk (Or.inr (Raw.callI [907] [907] rfl rfl rfl rfl rfl rfl rfl (hp) ?_)); rintro _ _ ⟨rfl, rfl⟩; refine Bk.mk rfl rfl ?_))
    all_goals (conv => whnf)
    all_goals refine RetO.mk ⟨[(907, .k 907)], _, _, (by first | exact LeS.d (by first | exact LeD.u rfl | exact LeD.p rfl | exact LeD.ow rfl rfl | exact LeD.ow rfl (by simp) | exact LeD.no rfl rfl | exact LeD.nl (by first | rfl | simp) | exact LeD.u (by simp; done) | exact LeD.u (by congr 1; omega) | exact LeD.q rfl | exact LeD.r rfl | exact LeD.r (by simp; done) | exact LeD.re | exact LeD.mp rfl | exact LeD.ows rfl rfl rfl | exact LeD.u (by congr 1; congr 1; simp) | exact LeD.fn (by repeat (first | exact LeN.nil | refine LeN.cons rfl ?_))) | exact LeS.a (by repeat (first | exact LeL.nil | refine LeL.cons (by first | exact LeD.u rfl | exact LeD.p rfl | exact LeD.ow rfl rfl | exact LeD.ow rfl (by simp) | exact LeD.no rfl rfl | exact LeD.nl (by first | rfl | simp) | exact LeD.u (by simp; done) | exact LeD.u (by congr 1; omega) | exact LeD.q rfl | exact LeD.r rfl | exact LeD.r (by simp; done) | exact LeD.re | exact LeD.mp rfl | exact LeD.ows rfl rfl rfl | exact LeD.u (by congr 1; congr 1; simp) | exact LeD.fn (by repeat (first | exact LeN.nil | refine LeN.cons rfl ?_))) ?_)) | exact LeS.ts (by repeat (first | exact LeCs.nil | refine LeCs.cons (by first | exact LeC.d (by first | exact LeD.u rfl | exact LeD.p rfl | exact LeD.ow rfl rfl | exact LeD.ow rfl (by simp) | exact LeD.no rfl rfl | exact LeD.nl (by first | rfl | simp) | exact LeD.u (by simp; done) | exact LeD.u (by congr 1; omega) | exact LeD.q rfl | exact LeD.r rfl | exact LeD.r (by simp; done) | exact LeD.re | exact LeD.mp rfl | exact LeD.ows rfl rfl rfl | exact LeD.u (by congr 1; congr 1; simp) | exact LeD.fn (by repeat (first | exact LeN.nil | refine LeN.cons rfl ?_))) | exact LeC.a (by repeat (first | exact LeL.nil | refine LeL.cons (by first | exact LeD.u rfl | exact LeD.p rfl | exact LeD.ow rfl rfl | exact LeD.ow rfl (by simp) | exact LeD.no rfl rfl | exact LeD.nl (by first | rfl | simp) | exact LeD.u (by simp; done) | exact LeD.u (by congr 1; omega) | exact LeD.q rfl | exact LeD.r rfl | exact LeD.r (by simp; done) | exact LeD.re | exact LeD.mp rfl | exact LeD.ows rfl rfl rfl | exact LeD.u (by congr 1; congr 1; simp) | exact LeD.fn (by repeat (first | exact LeN.nil | refine LeN.cons rfl ?_))) ?_))) ?_))), (by repeat (first | exact LeO.nil | refine LeO.bx rfl rfl (by repeat (first | exact LeL.nil | refine LeL.cons (by first | exact LeD.u rfl | exact LeD.p rfl | exact LeD.ow rfl rfl | exact LeD.ow rfl (by simp) | exact LeD.no rfl rfl | exact LeD.nl (by first | rfl | simp) | exact LeD.u (by simp; done) | exact LeD.u (by congr 1; omega) | exact LeD.q rfl | exact LeD.r rfl | exact LeD.r (by simp; done) | exact LeD.re | exact LeD.mp rfl | exact LeD.ows rfl rfl rfl | exact LeD.u (by congr 1; congr 1; simp) | exact LeD.fn (by repeat (first | exact LeN.nil | refine LeN.cons rfl ?_))) ?_)) ?_ | refine LeO.ar rfl rfl (by first | rfl | simp) ?_ | refine LeO.ab rfl rfl (by repeat (first | exact LeL.nil | refine LeL.cons (by first | exact LeD.u rfl | exact LeD.p rfl | exact LeD.ow rfl rfl | exact LeD.ow rfl (by simp) | exact LeD.no rfl rfl | exact LeD.nl (by first | rfl | simp) | exact LeD.u (by simp; done) | exact LeD.u (by congr 1; omega) | exact LeD.q rfl | exact LeD.r rfl | exact LeD.r (by simp; done) | exact LeD.re | exact LeD.mp rfl | exact LeD.ows rfl rfl rfl | exact LeD.u (by congr 1; congr 1; simp) | exact LeD.fn (by repeat (first | exact LeN.nil | refine LeN.cons rfl ?_))) ?_)) (by first | rfl | simp) ?_ | refine LeO.fa rfl rfl (by first | rfl | simp) ?_ | refine LeO.fm rfl (by first | rfl | simp) ?_ | refine LeO.mp rfl rfl (by first | rfl | simp) ?_ | refine LeO.no rfl rfl ?_)), rfl, rfl⟩
end Go.Proofs.YtabmcfnefjipbaaGreatDoor
namespace Go.Proofs.YtabmcfnefjipbaaGreatDoor
open Go.ChangeShapes Go.WideShapes Go.ChangeAt Go.RowKit

section
variable {H : Type} {enc : TypeId × Value → H} {P : Program}

theorem trodAll_stays (hl : laidOutB P = true) {W W' : World} {sp' : Nat → Bool} : ∀ {ts : List TypeId} {vs : List Value} {ds : List (DataW H)} {ps : List MemPlace}, (∀ t ∈ ts, P.readableRec t = true ∧ t < P.types.size) →
    DataW.TrodAll enc P W 0 (fun _ => true) true ts vs ds ps → (∀ p ∈ ps, W.sameAt W' p) → (∀ p ∈ ps, sp' p.block = true) → DataW.TrodAll enc P W' 0 sp' true ts vs ds ps
  | [], [], [], _, _, h, _, _ => h
  | _ :: _, _ :: _, _ :: _, _, hT, ⟨p, q, h1, h2, e⟩, hm, hs =>
    ⟨p, q, WideElems.Trod_stays hl (hT _ (List.mem_cons.2 (Or.inl rfl))).1 (hT _ (List.mem_cons.2 (Or.inl rfl))).2 h1 (fun x hx => hm x (by rw [e]; exact List.mem_append_left _ hx)) (fun x hx => hs x (by rw [e]; exact List.mem_append_left _ hx)),
      trodAll_stays hl (fun t ht => hT t (List.mem_cons.2 (Or.inr ht))) h2 (fun x hx => hm x (by rw [e]; exact List.mem_append_right _ hx)) (fun x hx => hs x (by rw [e]; exact List.mem_append_right _ hx)), e⟩
  | [], [], _ :: _, _, _, h, _, _ => h.elim
  | [], _ :: _, _, _, _, h, _, _ => h.elim
  | _ :: _, [], _, _, _, h, _, _ => h.elim
  | _ :: _, _ :: _, [], _, _, h, _, _ => h.elim

/-- One closed fact: each parameter's type can be read and is a row of the table. -/
def paramsRead (P : Program) (fn : Func) : Bool := fn.params.toList.all fun t => P.readableRec t && decide (t < P.types.size)

theorem post_of_below {f : Func} {s : ChangeSpec} {apart fresh handsOn again : Bool} {W W' : World} {args : Array Value} {ds : List (DataW H)} {before : List MemPlace} {tb : TypeId}
    (hl : laidOutB P = true) (hT : paramsRead P f = true) (hres : f.resultTypes = #[tb]) (htb : P.underlying tb = some .bool) (hvars : s.vars = [])
    (hsp : s.fn H ds = { results := [.lit (.bool true)], args := ds })
    (hW : DataW.Whole enc P f.params.toList s.vars apart W args.toList ds [] before) (hb : Below W.heap.size W W') :
    s.post enc P f apart fresh handsOn again W args (.bool true) W' := by
  have hT' : ∀ t ∈ f.params.toList, P.readableRec t = true ∧ t < P.types.size := fun t ht => by
    have := List.all_eq_true.1 hT t ht
    simpa using this
  have hlt := hW.lt
  have hW' := hW
  obtain ⟨p, q, hA, hV, he, hz, hn⟩ := hW
  have hq : q = [] := by
    rw [hvars] at hV
    exact (trodVars_none hV).2
  subst hq
  rw [List.append_nil] at he
  subst he
  have hR : ∀ (b : Nat) (sp : Nat → Bool) (hd : Bool), DataW.TrodAll enc P W' b sp hd f.resultTypes.toList ((Value.bool true).resultList f.resultTypes.size) (s.fn H (ds ++ [])).results [] := by
    intro b sp hd
    rw [List.append_nil, hsp, hres]
    exact trodAll_mk1 (shut_bool htb _)
  have hG : ∀ sp : Nat → Bool, (∀ p' ∈ before, sp p'.block = true) → DataW.TrodAll enc P W' 0 sp true f.params.toList args.toList (s.fn H (ds ++ [])).args before := by
    intro sp h
    rw [List.append_nil, hsp]
    exact trodAll_stays hl hT' hA (fun x hx => hb.same (hlt x hx)) h
  have hU : ∀ sp : Nat → Bool, DataW.TrodVars enc P W' sp s.vars (s.fn H (ds ++ [])).vars [] := by
    intro sp
    rw [hvars, List.append_nil, hsp]
    rfl
  refine ⟨ds, [], before, [], before, [], hW', hR _ _ _, hG _ (fun x hx => by simpa using hlt x hx), hU _, hb.frame _, fun _ => ?_⟩
  refine ⟨ok_one hres rfl (okWide_bool_mk htb _), _, _, ([] ++ before) ++ [], ⟨[] ++ before, [], trodAll_append (hG _ (fun _ _ => rfl)) (hR _ _ _), hU _, rfl, ?_, ?_⟩, ?_⟩
  · intro b off hp
    have hp' := by simpa using hp
    rw [hb.frozen (hlt _ hp')]
    exact hz b off hp'
  · intro ha
    simpa using hn ha
  · intro x hx _
    simpa using hx
end

end Go.Proofs.YtabmcfnefjipbaaGreatDoor
namespace Go.Proofs.YtabmcfnefjipbaaGreatDoor
theorem bulk_one {H : Type} (d : DataW H) : 1 ≤ Rows.uptoBulk d := by
  cases d with
  | lit l => cases l <;> simp [Rows.uptoBulk]
  | nil => simp [Rows.uptoBulk]
  | ptr d => simp [Rows.uptoBulk]
  | slice elems spare => simp [Rows.uptoBulk]
  | agg parts => simp [Rows.uptoBulk]
  | iface t d => simp [Rows.uptoBulk]
  | map entries => simp [Rows.uptoBulk]
  | held h => simp [Rows.uptoBulk]
theorem bulk_len {H : Type} : ∀ (l : List (DataW H)), l.length ≤ Rows.uptoBulkAll l
  | [] => by simp [Rows.uptoBulkAll]
  | x :: r => by have := bulk_one x; have := bulk_len r; simp only [Rows.uptoBulkAll, List.length_cons]; omega
theorem bulk_entry {H : Type} (x : Lit × DataW H) : Rows.uptoBulk x.2 + 1 ≤ Rows.uptoBulkEntry x := by
  obtain ⟨l, d⟩ := x
  cases l <;> simp [Rows.uptoBulkEntry] <;> omega
theorem bulk_entries {H : Type} : ∀ (l : List (Lit × DataW H)), l.length ≤ Rows.uptoBulkEntries l
  | [] => by simp [Rows.uptoBulkEntries]
  | x :: r => by have := bulk_entry x; have := bulk_entries r; simp only [Rows.uptoBulkEntries, List.length_cons]; omega
theorem bulk_mem {H : Type} {d : DataW H} {l : List (DataW H)} (h : d ∈ l) : Rows.uptoBulk d ≤ Rows.uptoBulkAll l := by
  induction l with
  | nil => cases h
  | cons x r ih =>
    simp only [Rows.uptoBulkAll]
    rcases List.mem_cons.1 h with rfl | h
    · omega
    · have := ih h; omega
theorem le_of_mul {m a b C : Nat} (h : m ≤ a * C) (hab : a ≤ b) : m ≤ b * C := Nat.le_trans h (Nat.mul_le_mul_right C hab)
/-- The types of a type's parts are in the table; what they weigh. -/
def closedT (P : Program) : Bool := (List.range P.types.size).all fun t => decide (P.bytesOf t ≤ 4096) && match P.underlying t with
  | some (.slice e) => decide (e < P.types.size)
  | some (.pointer e) => decide (e < P.types.size)
  | some (.array _ e) => decide (e < P.types.size)
  | some (.map k e) => decide (k < P.types.size) && decide (e < P.types.size)
  | some (.struct fs) => (fs.toList.map (·.type)).all fun e => decide (e < P.types.size)
  | _ => true
theorem closed_at {P : Program} (hP : closedT P = true) {t : TypeId} (h : t < P.types.size) : P.bytesOf t ≤ 4096 ∧ (∀ e, P.underlying t = some (.slice e) → e < P.types.size) ∧ (∀ e, P.underlying t = some (.pointer e) → e < P.types.size) ∧ (∀ n e, P.underlying t = some (.array n e) → e < P.types.size) ∧ (∀ k e, P.underlying t = some (.map k e) → k < P.types.size ∧ e < P.types.size) ∧ (∀ fs, P.underlying t = some (.struct fs) → ∀ e ∈ fs.toList.map (·.type), e < P.types.size) := by
  have h1 := List.all_eq_true.1 hP t (List.mem_range.2 h)
  rw [Bool.and_eq_true] at h1
  obtain ⟨h1, h2⟩ := h1
  refine ⟨of_decide_eq_true h1, fun e q => ?_, fun e q => ?_, fun n e q => ?_, fun k e q => ?_, fun fs q => ?_⟩
  · rw [q] at h2; exact of_decide_eq_true h2
  · rw [q] at h2; exact of_decide_eq_true h2
  · rw [q] at h2; exact of_decide_eq_true h2
  · rw [q] at h2
    rw [Bool.and_eq_true] at h2
    exact ⟨of_decide_eq_true h2.1, of_decide_eq_true h2.2⟩
  · rw [q] at h2
    exact fun e he => of_decide_eq_true (List.all_eq_true.1 h2 e he)
theorem one_C {C : Nat} (hC : C = 8192) : 1 ≤ C := by rw [hC]; decide
theorem two_C {P : Program} {C : Nat} (hC : C = 8192) (hP : closedT P = true) {e k : TypeId} (h : e < P.types.size) (h' : k < P.types.size) : P.bytesOf e + P.bytesOf k ≤ C := by
  have h1 := (closed_at hP h).1
  have h2 := (closed_at hP h').1
  rw [hC]
  exact Nat.add_le_add h1 h2
mutual
theorem wb {H : Type} {P : Program} {C : Nat} (hC : C = 8192) (hP : closedT P = true) : ∀ (d : DataW H) (t : TypeId), t < P.types.size → ∀ m ∈ d.weights P t, m ≤ Rows.uptoBulk d * C
  | .lit l, t, hlt, m, h => by
    cases l with
    | string b =>
      simp only [DataW.weights, List.mem_singleton] at h
      subst h
      simp only [Rows.uptoBulk]
      exact Nat.le_trans (Nat.le_succ _) (Nat.le_trans (Nat.le_of_eq (Nat.mul_one _).symm) (Nat.mul_le_mul_left _ (one_C hC)))
    | _ => simp [DataW.weights] at h
  | .nil, t, hlt, m, h => by simp [DataW.weights] at h
  | .ptr d, t, hlt, m, h => by
    simp only [DataW.weights] at h
    simp only [Rows.uptoBulk]
    split at h
    · rename_i e q; exact le_of_mul (wb hC hP d _ ((closed_at hP hlt).2.2.1 e q) m h) (by omega)
    · cases h
  | .slice es sp, t, hlt, m, h => by
    simp only [DataW.weights] at h
    simp only [Rows.uptoBulk]
    split at h
    · rename_i e q
      have he := (closed_at hP hlt).2.1 e q
      rcases List.mem_cons.1 h with rfl | h
      · have h1 := bulk_len es
        have h2 := bulk_len sp
        exact le_of_mul (Nat.mul_le_mul (show es.length + sp.length ≤ Rows.uptoBulkAll es + Rows.uptoBulkAll sp by omega) (Nat.le_trans (Nat.le_add_right _ _) (two_C hC hP he he))) (by omega)
      · rcases List.mem_append.1 h with h | h
        · exact le_of_mul (wbAll hC hP es e he m h) (by omega)
        · exact le_of_mul (wbAll hC hP sp e he m h) (by omega)
    · cases h
  | .agg ps, t, hlt, m, h => by
    simp only [DataW.weights] at h
    simp only [Rows.uptoBulk]
    split at h
    · rename_i fs q; exact le_of_mul (wbEach hC hP ps _ ((closed_at hP hlt).2.2.2.2.2 fs q) m h) (by omega)
    · rename_i n e q; exact le_of_mul (wbAll hC hP ps _ ((closed_at hP hlt).2.2.2.1 n e q) m h) (by omega)
    · cases h
  | .iface n d, t, hlt, m, h => by simp [DataW.weights] at h
  | .map es, t, hlt, m, h => by
    simp only [DataW.weights] at h
    simp only [Rows.uptoBulk]
    split at h
    · rename_i k e q
      obtain ⟨hk, he⟩ := (closed_at hP hlt).2.2.2.2.1 k e q
      rcases List.mem_cons.1 h with rfl | h
      · exact le_of_mul (Nat.mul_le_mul (bulk_entries es) (two_C hC hP hk he)) (by omega)
      · exact le_of_mul (wbEntries hC hP es e he m h) (by omega)
    · cases h
  | .held x, t, hlt, m, h => by simp [DataW.weights] at h
theorem wbAll {H : Type} {P : Program} {C : Nat} (hC : C = 8192) (hP : closedT P = true) : ∀ (l : List (DataW H)) (t : TypeId), t < P.types.size → ∀ m ∈ DataW.weightsAll P t l, m ≤ Rows.uptoBulkAll l * C
  | [], t, hlt, m, h => by simp [DataW.weightsAll] at h
  | d :: r, t, hlt, m, h => by
    simp only [DataW.weightsAll, List.mem_append] at h
    simp only [Rows.uptoBulkAll]
    rcases h with h | h
    · exact le_of_mul (wb hC hP d t (by first | exact hlt | exact hlt _ (by simp)) m h) (by omega)
    · exact le_of_mul (wbAll hC hP r t hlt m h) (by omega)
theorem wbEach {H : Type} {P : Program} {C : Nat} (hC : C = 8192) (hP : closedT P = true) : ∀ (l : List (DataW H)) (ts : List TypeId), (∀ t ∈ ts, t < P.types.size) → ∀ m ∈ DataW.weightsEach P ts l, m ≤ Rows.uptoBulkAll l * C
  | [], ts, hlt, m, h => by cases ts <;> simp [DataW.weightsEach] at h
  | d :: r, [], hlt, m, h => by simp [DataW.weightsEach] at h
  | d :: r, t :: ts, hlt, m, h => by
    simp only [DataW.weightsEach, List.mem_append] at h
    simp only [Rows.uptoBulkAll]
    rcases h with h | h
    · exact le_of_mul (wb hC hP d t (by first | exact hlt | exact hlt _ (by simp)) m h) (by omega)
    · exact le_of_mul (wbEach hC hP r ts (fun t ht => hlt t (by simp [ht])) m h) (by omega)
theorem wbEntries {H : Type} {P : Program} {C : Nat} (hC : C = 8192) (hP : closedT P = true) : ∀ (l : List (Lit × DataW H)) (t : TypeId), t < P.types.size → ∀ m ∈ DataW.weightsEntries P t l, m ≤ Rows.uptoBulkEntries l * C
  | [], t, hlt, m, h => by simp [DataW.weightsEntries] at h
  | x :: r, t, hlt, m, h => by
    simp only [DataW.weightsEntries, List.mem_append] at h
    simp only [Rows.uptoBulkEntries]
    rcases h with h | h
    · exact le_of_mul (wbEntry hC hP x t hlt m h) (by omega)
    · exact le_of_mul (wbEntries hC hP r t hlt m h) (by omega)
theorem wbEntry {H : Type} {P : Program} {C : Nat} (hC : C = 8192) (hP : closedT P = true) : ∀ (x : Lit × DataW H) (t : TypeId), t < P.types.size → ∀ m ∈ DataW.weightsEntry P t x, m ≤ Rows.uptoBulkEntry x * C
  | (l, d), t, hlt, m, h => by
    have hb := wb hC hP d t hlt
    cases l with
    | string b =>
      simp only [DataW.weightsEntry, List.mem_cons] at h
      simp only [Rows.uptoBulkEntry]
      rcases h with rfl | h
      · exact le_of_mul (a := b.length) (Nat.le_trans (Nat.le_of_eq (Nat.mul_one _).symm) (Nat.mul_le_mul_left _ (one_C hC))) (by omega)
      · exact le_of_mul (hb m h) (by omega)
    | _ =>
      simp only [DataW.weightsEntry] at h
      simp only [Rows.uptoBulkEntry]
      exact le_of_mul (hb m h) (by omega)
end
/-- What an argument weighs. -/
theorem bulk_weights {H : Type} {P : Program} {C : Nat} (hC : C = 8192) (hP : closedT P = true) {ds : List (DataW H)} {d : DataW H} {t : TypeId} (h : Rows.uptoBulkAll ds ≤ 1048576) (hlt : t < P.types.size) (hd : d ∈ ds) {m : Nat} (hm : m ∈ d.weights P t) : m ≤ 9000000000 :=
  Nat.le_trans (wb hC hP d t hlt m hm) (Nat.le_trans (Nat.mul_le_mul (Nat.le_trans (bulk_mem hd) h) (Nat.le_of_eq hC)) (by decide))
end Go.Proofs.YtabmcfnefjipbaaGreatDoor
namespace Go.Proofs.YtabmcfnefjipbaaGreatDoor
open Go.ChangeShapes Go.WideShapes Go.Deep

section
variable {H : Type} {enc : TypeId × Value → H} {P : Program} {w : World} {base : Nat} {spare : Nat → Bool} {held : Bool}

theorem cell_lt {p : Addr} {v : Value} (h : w.cell? p = some v) : p.block < w.heap.size := by
  by_cases hl : p.block < w.heap.size
  · exact hl
  · have : w.heap[p.block]? = none := by simp; omega
    simp [World.cell?, this] at h

end

section
variable {H : Type} {P : Program} {ts : List TypeId} {ds : List (DataW H)}
/-- What a field of a struct weighs is weighed. -/
theorem weights_field {t u : TypeId} {fs : Array Field} {parts : List (DataW H)} {j : Nat} {d : DataW H} (hu : P.underlying t = some (.struct fs)) (hf : (fs.toList.map (·.type))[j]? = some u) (hd : parts[j]? = some d) {n : Nat} (hn : n ∈ d.weights P u) : n ∈ (DataW.agg parts).weights P t := by
  simp only [DataW.weights, hu]
  exact DataW.weights_mem_each hf hd n hn
theorem weights_slice {t e : TypeId} {el sp : List (DataW H)} (hu : P.underlying t = some (.slice e)) : (el.length + sp.length) * P.bytesOf e ∈ (DataW.slice el sp).weights P t := by
  simp [DataW.weights, hu]
end
end Go.Proofs.YtabmcfnefjipbaaGreatDoor
namespace Go.Proofs.YtabmcfnefjipbaaGreatDoor
open Go.ChangeShapes Go.WideShapes Go.Deep Go.RowKit
/-- What a cell of an argument is. -/
inductive Sh where
  | int (k : IntKind)
  | bool
  | str
  | sl (by_ : Nat) (e : List Sh)
abbrev bigB : Nat := 9000000000
inductive HasSh : Sh → V → Prop
  | int {k : IntKind} {n : Int} (h : (Lit.int k n).wf = true) : HasSh (.int k) (.int k n)
  | bool {b : Bool} : HasSh .bool (.bool b)
  | str {s : ByteArray} (h : s.size ≤ bigB) : HasSh .str (.str s)
  | sl {by_ sz : Nat} {e : List Sh} {rs : List (List V)} (hl : rs.length * by_ ≤ bigB) (hm : rs.length ≤ maxLen) (hs : sz = e.length) (hr : ∀ r ∈ rs, r.length = sz) (h : ∀ r ∈ rs, ∀ (j : Nat) s x, e[j]? = some s → r[j]? = some x → HasSh s x) : HasSh (.sl by_ e) (.sl sz rs)
/-- Cells. -/
structure HasL (e : List Sh) (r : List V) : Prop where
  len : r.length = e.length
  has : ∀ (j : Nat) s x, e[j]? = some s → r[j]? = some x → HasSh s x
theorem HasL.nil : HasL [] [] := ⟨rfl, fun _ _ _ h => by simp at h⟩
theorem HasL.app {e f : List Sh} {r q : List V} (h : HasL e r) (k : HasL f q) : HasL (e ++ f) (r ++ q) := ⟨by simp [h.len, k.len], fun j s x h1 h2 => by
  by_cases hj : j < e.length
  · rw [List.getElem?_append_left hj] at h1
    rw [List.getElem?_append_left (by rw [h.len]; exact hj)] at h2
    exact h.has j s x h1 h2
  · rw [List.getElem?_append_right (by omega)] at h1
    rw [List.getElem?_append_right (by rw [h.len]; omega), h.len] at h2
    exact k.has _ s x h1 h2⟩
theorem HasL.one {s : Sh} {x : V} (h : HasSh s x) : HasL [s] [x] := ⟨rfl, fun j a b h1 h2 => by
  cases j with
  | zero => simp at h1 h2; subst h1 h2; exact h
  | succ j => simp at h1⟩
theorem HasL.cons_inv {s : Sh} {e : List Sh} {r : List V} (h : HasL (s :: e) r) : ∃ x q, r = x :: q ∧ HasSh s x ∧ HasL e q := by
  cases r with
  | nil => have := h.len; simp at this
  | cons x q => exact ⟨x, q, rfl, h.has 0 s x rfl rfl, by have := h.len; simpa using this, fun j a b h1 h2 => h.has (j + 1) a b (by simpa using h1) (by simpa using h2)⟩
theorem HasL.nil_inv {r : List V} (h : HasL [] r) : r = [] := List.eq_nil_of_length_eq_zero h.len
def shFs (g : Nat → Option (List Sh)) : List (Nat × TypeId) → Nat → Option (List Sh)
  | [], _ => some []
  | (off, t) :: r, o => bif Nat.beq off o then match g t with
      | none => none
      | some l => match shFs g r (o + l.length) with
        | none => none
        | some m => some (l ++ m)
    else none
/-- The shape of a type. -/
def shT (T : List (Nat × Ty)) : Nat → Nat → Option (List Sh)
  | 0, _ => none
  | f + 1, t => match lk t T with
    | none => none
    | some i => match i.k with
      | .in_ k => bif Nat.beq i.size 1 then some [.int k] else none
      | .bo => bif Nat.beq i.size 1 then some [.bool] else none
      | .sr => bif Nat.beq i.size 1 then some [.str] else none
      | .sl e => match lk e T with
        | none => none
        | some j => match shT T f e with
          | none => none
          | some l => bif Nat.beq l.length j.size && (Nat.blt 0 j.size && Nat.beq i.size 1) then some [.sl j.bytes l] else none
      | .st fs => match shFs (shT T f) fs 0 with
        | none => none
        | some l => bif Nat.beq l.length i.size then some l else none
      | _ => none
section
variable {H : Type} {enc : TypeId × Value → H} {P : Program} {T : List (Nat × Ty)} [hT : Tys P T] {w : World} {base : Nat} {spare : Nat → Bool} {held : Bool}
abbrev zW (w : World) : Fz := ⟨⟨fun b => b < w.heap.size, fun _ => [], fun _ => True⟩, w⟩
omit hT in
theorem weightsAll_mem {e : TypeId} : ∀ {ds : List (DataW H)} {d : DataW H}, d ∈ ds → ∀ m ∈ d.weights P e, m ∈ DataW.weightsAll P e ds
  | x :: r, d, h, m, hm => by
    simp only [DataW.weightsAll, List.mem_append]
    rcases List.mem_cons.1 h with rfl | h
    · exact .inl hm
    · exact .inr (weightsAll_mem h m hm)
/-- What a cell reader of type t tells. -/
def Opn (enc : TypeId × Value → H) (P : Program) (w : World) (base : Nat) (spare : Nat → Bool) (held : Bool) (t : TypeId) (sh : List Sh) : Prop :=
  ∀ (n : Nat) (cs : List Value) (y : DataW H × List MemPlace), DataW.trod enc P w base spare held n t cs = some y → (∀ m ∈ y.1.weights P t, m ≤ bigB) → ∃ xs : List V, HasL sh xs ∧ DenVL (zW w) xs cs
theorem opn_slice {t e : TypeId} {l : List Sh} {i j : Ty} (ht : lk t T = some i) (hi : i.k = .sl e) (hj : lk e T = some j) (hl : l.length = j.size) (hp : 0 < j.size) (ih : Opn enc P w base spare held e l) : Opn enc P w base spare held t [.sl j.bytes l] := by
  intro n cs y h hw
  have ku := (hT.ok t i ht).kind
  rw [hi] at ku
  have ku : P.underlying t = some (.slice e) := ku
  obtain ⟨f, z, q1, q2, q3, _⟩ := (hT.ok e j hj).info
  have hC : P.cellsOf e = j.size := by simp [Program.cellsOf, q1, q2]
  have hBy : P.bytesOf e = j.bytes := by simp [Program.bytesOf, q1, q3]
  rcases open_slice ku h with ⟨rfl, rfl⟩ | ⟨a, len, cap, k, n', D, Pl, rfl, hb, hlc, hmx, hk, hx, hcell⟩
  · exact ⟨[.sl j.size []], .one (.sl (by simp) (by simp) (by rw [hl]) (by simp) (by simp)), ⟨rfl, rfl, fun m d u e1 e2 => by
      cases m with
      | zero => simp at e1 e2; subst e1 e2; exact .sl (b := 0) (o := 0) [] rfl (Nat.le_refl _) (Nat.zero_le _) (by simp) (fun h => absurd rfl h) rfl (by simp) rfl (by simp)
      | succ m => simp at e1⟩⟩
  · have hlk : len ≤ k := by rw [hk]; split <;> omega
    have hwt : (((List.range len).map D).length + ((List.range (k - len)).map fun j => D (len + j)).length) * P.bytesOf e ≤ bigB := hw _ (by rw [hx]; exact weights_slice ku)
    have hwe : ∀ i, i < len → ∀ m ∈ (D i).weights P e, m ≤ bigB := fun i hi m hm => hw m (by
      rw [hx]
      simp only [DataW.weights, ku, List.mem_cons, List.mem_append]
      exact .inr (.inl (weightsAll_mem (List.mem_map.2 ⟨i, List.mem_range.2 hi, rfl⟩) m hm)))
    have hE : ∀ i, i < len → ∃ (xs : List V) (cs : List Value), HasL l xs ∧ DenVL (zW w) xs cs ∧ ∀ m, m < j.size → w.cell? (a.add (i * j.size + m)) = cs[m]? := by
      intro i hil
      obtain ⟨cs', hc, ht'⟩ := hcell i (by omega)
      obtain ⟨xs, h1, h2⟩ := ih _ _ _ ht' (hwe i hil)
      rw [hC] at hc
      obtain ⟨_, hcl, hat⟩ := World.cells?_some hc
      exact ⟨xs, cs', h1, h2, fun m hm => by rw [← add_of_add]; exact hat m hm⟩
    have hL : ∀ k, k ≤ len → ∃ (rs : List (List V)) (us : List Value), rs.length = k ∧ (∀ r ∈ rs, HasL l r) ∧ DenVL (zW w) rs.flatten us ∧ us.length = k * j.size ∧ ∀ m u, us[m]? = some u → w.cell? (a.add m) = some u := by
      intro k
      induction k with
      | zero => intro _; exact ⟨[], [], rfl, by simp, .nil, by simp, by simp⟩
      | succ k ihk =>
        intro hk
        obtain ⟨rs, us, h1, h2, h3, h4, h5⟩ := ihk (by omega)
        obtain ⟨xs, cs, g1, g2, g3⟩ := hE k (by omega)
        have gl : cs.length = j.size := by rw [g2.len, g1.len, hl]
        refine ⟨rs ++ [xs], us ++ cs, by simp [h1], fun r hr => ?_, by rw [List.flatten_append]; simpa using h3.app g2, by rw [List.length_append, h4, gl, Nat.add_mul, Nat.one_mul], fun m u hu => ?_⟩
        · rcases List.mem_append.1 hr with hr | hr
          · exact h2 r hr
          · rw [List.mem_singleton.1 hr]; exact g1
        · by_cases hm : m < k * j.size
          · rw [List.getElem?_append_left (by omega)] at hu
            exact h5 m u hu
          · rw [List.getElem?_append_right (by omega), h4] at hu
            have hlt : m - k * j.size < j.size := by have := (List.getElem?_eq_some_iff.1 hu).1; omega
            have := g3 _ hlt
            rw [show k * j.size + (m - k * j.size) = m by omega] at this
            rw [this, hu]
    obtain ⟨rs, us, h1, h2, h3, h4, h5⟩ := hL len (Nat.le_refl _)
    have hlen : len * j.bytes ≤ bigB := by
      simp only [List.length_map, List.length_range, hBy] at hwt
      exact Nat.le_trans (Nat.mul_le_mul_right _ (Nat.le_add_right _ _)) hwt
    have hr : ∀ r ∈ rs, r.length = j.size := fun r hr => by rw [(h2 r hr).len, hl]
    refine ⟨[.sl j.size rs], .one (.sl (by rw [h1]; exact hlen) (by omega) hl.symm hr (fun r hr => (h2 r hr).has)), ⟨rfl, rfl, fun m d u e1 e2 => ?_⟩⟩
    cases m with
    | succ m => simp at e1
    | zero =>
      simp at e1 e2
      subst e1 e2
      by_cases hrs : rs = []
      · subst hrs
        have : len = 0 := by simpa using h1.symm
        subst this
        exact .sl (b := 0) (o := 0) [] rfl (Nat.zero_le _) (Nat.zero_le _) hr (fun h => absurd rfl h) rfl (by simp) rfl (by simp)
      · have hus : 0 < us.length := by
          rw [h4]
          have : 0 < len := by rw [← h1]; exact List.length_pos_iff.2 hrs
          exact Nat.mul_pos this hp
        obtain ⟨b, off, spot⟩ := a
        have hc0 := h5 0 _ (List.getElem?_eq_getElem hus)
        have hspot : spot = none := by simpa [Addr.add] using World.cell?_spot hc0
        subst hspot
        have hlt := cell_lt hc0
        refine .sl (b := b) (o := off) us h1 hlc (by omega) hr (fun _ => ⟨rfl, by simpa [block_of_add] using hlt⟩) h3.len (fun m u hu => ?_) h3.one h3.den
        have := h5 m u hu
        rwa [add_plain] at this
theorem opn_struct {t : TypeId} {g : Nat → Option (List Sh)} {fs : List (Nat × TypeId)} {sh : List Sh} {i : Ty} (ht : lk t T = some i) (hi : i.k = .st fs) (hs : shFs g fs 0 = some sh) (hl : sh.length = i.size) (ih : ∀ u l, g u = some l → Opn enc P w base spare held u l) (hg : ∀ u l, g u = some l → P.cellsOf u = l.length) : Opn enc P w base spare held t sh := by
  intro n cs y h hw
  have ku := (hT.ok t i ht).kind
  rw [hi] at ku
  obtain ⟨fields, k1, k2⟩ := ku
  obtain ⟨f, z, q1, q2, _⟩ := (hT.ok t i ht).info
  have hC : P.cellsOf t = i.size := by simp [Program.cellsOf, q1, q2]
  obtain ⟨xs, n', _, rfl, hcl, hxl, hf⟩ := DataW.trod_struct k1 h
  rw [hC] at hcl
  have hwf : ∀ (m : Nat) (fd : Field) (x : DataW H × List MemPlace), fields[m]? = some fd → xs[m]? = some x → ∀ q ∈ x.1.weights P fd.type, q ≤ bigB := fun m fd x e1 e2 q hq => hw q (weights_field (j := m) k1 (by rw [List.getElem?_map, Array.getElem?_toList, e1]; rfl) (by rw [List.getElem?_map, e2]; rfl) hq)
  have key : ∀ (l : List (Nat × TypeId)) (m o : Nat) (sh : List Sh), (∀ (q : Nat) p, l[q]? = some p → fs[m + q]? = some p) → shFs g l o = some sh → ∃ vs : List V, HasL sh vs ∧ ((o + sh.length ≤ cs.length) → DenVL (zW w) vs ((cs.drop o).take sh.length)) := by
    intro l
    induction l with
    | nil => intro m o sh _ hs; simp [shFs] at hs; subst hs; exact ⟨[], .nil, fun _ => by simpa using DenVL.nil⟩
    | cons p r ihl =>
      intro m o sh hp hs
      obtain ⟨off, u⟩ := p
      simp only [shFs] at hs
      cases hb : Nat.beq off o <;> rw [hb] at hs
      · cases hs
      · simp only [cond_true] at hs
        have := Nat.eq_of_beq_eq_true hb
        subst this
        cases hgu : g u with
        | none => simp only [hgu] at hs; cases hs
        | some l1 =>
          simp only [hgu] at hs
          cases hr : shFs g r (off + l1.length) with
          | none => simp only [hr] at hs; cases hs
          | some l2 =>
            simp only [hr] at hs
            injection hs with hs
            subst hs
            obtain ⟨vs, v1, v2⟩ := ihl (m + 1) _ l2 (fun q p hq => by have := hp (q + 1) p (by simpa using hq); rwa [show m + (q + 1) = m + 1 + q by omega] at this) hr
            have hfs := hp 0 (off, u) rfl
            rw [Nat.add_zero, ← k2, List.getElem?_map] at hfs
            cases hfd : fields.toList[m]? with
            | none => rw [hfd] at hfs; cases hfs
            | some fd =>
              rw [hfd] at hfs
              simp only [Option.map_some, Option.some.injEq, Prod.mk.injEq] at hfs
              obtain ⟨e1, e2⟩ := hfs
              rw [Array.getElem?_toList] at hfd
              have hrd := hf m fd hfd
              rw [e1, e2, hg u l1 hgu] at hrd
              have hmx : m < xs.length := by rw [hxl]; exact (Array.getElem?_eq_some_iff.1 hfd).1
              have hxm := List.getElem?_eq_getElem hmx
              rw [hxm] at hrd
              have hww := hwf m fd _ hfd hxm
              rw [e2] at hww
              obtain ⟨ws, w1, w2⟩ := ih u l1 hgu _ _ _ hrd hww
              refine ⟨ws ++ vs, w1.app v1, fun ho => ?_⟩
              simp only [List.length_append] at ho
              have h2 := v2 (by omega)
              have hsp : (cs.drop off).take (l1 ++ l2).length = (cs.drop off).take l1.length ++ (cs.drop (off + l1.length)).take l2.length := by
                rw [List.length_append, List.take_add, List.drop_drop]
              rw [hsp]
              exact w2.app h2
  obtain ⟨vs, v1, v2⟩ := key fs 0 0 sh (fun q p h => by rwa [Nat.zero_add]) hs
  refine ⟨vs, v1, ?_⟩
  have := v2 (by omega)
  rwa [List.drop_zero, List.take_of_length_le (by omega)] at this
omit hT in
theorem den_one {x : V} {v : Value} (h : DenV (zW w) x v) : DenVL (zW w) [x] [v] := ⟨rfl, by simp [h.one], fun m d u e1 e2 => by
  cases m with
  | zero => simp at e1 e2; subst e1 e2; exact h
  | succ m => simp at e1⟩
theorem shT_cells : ∀ {f t : Nat} {sh : List Sh}, shT T f t = some sh → P.cellsOf t = sh.length
  | 0, t, sh, h => by cases h
  | f + 1, t, sh, h => by
    simp only [shT] at h
    cases ht : lk t T with
    | none => rw [ht] at h; cases h
    | some i =>
      rw [ht] at h
      simp only at h
      obtain ⟨q, z, q1, q2, _⟩ := (hT.ok t i ht).info
      have hC : P.cellsOf t = i.size := by simp [Program.cellsOf, q1, q2]
      rw [hC]
      split at h
      · cases hb : Nat.beq i.size 1 <;> rw [hb] at h
        · cases h
        · injection h with h; subst h; exact Nat.eq_of_beq_eq_true hb
      · cases hb : Nat.beq i.size 1 <;> rw [hb] at h
        · cases h
        · injection h with h; subst h; exact Nat.eq_of_beq_eq_true hb
      · cases hb : Nat.beq i.size 1 <;> rw [hb] at h
        · cases h
        · injection h with h; subst h; exact Nat.eq_of_beq_eq_true hb
      · rename_i e hk
        split at h
        · cases h
        · rename_i j hj
          split at h
          · cases h
          · rename_i l hl
            cases hb : (Nat.beq l.length j.size && (Nat.blt 0 j.size && Nat.beq i.size 1)) <;> rw [hb] at h
            · cases h
            · injection h with h; subst h
              simp only [Bool.and_eq_true] at hb
              exact Nat.eq_of_beq_eq_true hb.2.2
      · split at h
        · cases h
        · rename_i l hl
          cases hb : Nat.beq l.length i.size <;> rw [hb] at h
          · cases h
          · injection h with h; subst h; exact (Nat.eq_of_beq_eq_true hb).symm
      · cases h
/-- An argument of a readable type is a tree of its shape. -/
theorem opn : ∀ {f t : Nat} {sh : List Sh}, shT T f t = some sh → Opn enc P w base spare held t sh
  | 0, t, sh, h => by cases h
  | f + 1, t, sh, h => by
    simp only [shT] at h
    cases ht : lk t T with
    | none => rw [ht] at h; cases h
    | some i =>
      rw [ht] at h
      simp only at h
      split at h
      · rename_i k hk
        cases hb : Nat.beq i.size 1 <;> rw [hb] at h
        · cases h
        · injection h with h; subst h
          have ku := (hT.ok t i ht).kind
          rw [hk] at ku
          have ku : P.underlying t = some (.int k) := ku
          intro n cs y hy _
          obtain ⟨z, rfl, _, hz⟩ := DataW.trod_int ku hy
          exact ⟨[.int k z], .one (.int hz), den_one (.int _ _)⟩
      · rename_i hk
        cases hb : Nat.beq i.size 1 <;> rw [hb] at h
        · cases h
        · injection h with h; subst h
          have ku := (hT.ok t i ht).kind
          rw [hk] at ku
          have ku : P.underlying t = some .bool := ku
          intro n cs y hy _
          obtain ⟨z, rfl, _⟩ := DataW.trod_bool ku hy
          exact ⟨[.bool z], .one .bool, den_one (.bool _)⟩
      · rename_i hk
        cases hb : Nat.beq i.size 1 <;> rw [hb] at h
        · cases h
        · injection h with h; subst h
          have ku := (hT.ok t i ht).kind
          rw [hk] at ku
          have ku : P.underlying t = some .string := ku
          intro n cs y hy hw
          obtain ⟨z, rfl, rfl, hz⟩ := DataW.trod_string ku hy
          have := hw z.data.toList.length (show _ ∈ [z.data.toList.length] from List.mem_singleton.2 rfl)
          have e : z.data.toList.length = z.size := Array.length_toList
          rw [e] at this
          exact ⟨[.str z], .one (.str this), den_one (.str _ hz)⟩
      · rename_i e hk
        split at h
        · cases h
        · rename_i j hj
          split at h
          · cases h
          · rename_i l hl
            cases hb : (Nat.beq l.length j.size && (Nat.blt 0 j.size && Nat.beq i.size 1)) <;> rw [hb] at h
            · cases h
            · injection h with h; subst h
              simp only [Bool.and_eq_true] at hb
              exact opn_slice ht hk hj (Nat.eq_of_beq_eq_true hb.1) (by simpa [Nat.blt_eq] using hb.2.1) (opn hl)
      · rename_i fs hk
        split at h
        · cases h
        · rename_i l hl
          cases hb : Nat.beq l.length i.size <;> rw [hb] at h
          · cases h
          · injection h with h; subst h
            exact opn_struct ht hk hl (Nat.eq_of_beq_eq_true hb) (fun u l hu => opn hu) (fun u l hu => shT_cells hu)
      · cases h
/-- An argument of one cell. -/
theorem arg_open {f t : Nat} {s : Sh} {v : Value} {d : DataW H} {p : List MemPlace} (hs : shT T f t = some [s]) (h : DataW.Trod enc P w base spare held t v d p) (hz : ∀ n ∈ d.weights P t, n ≤ bigB) (hv : v.cells = #[v]) : ∃ x, HasSh s x ∧ ∀ ρ, DenS ρ (zW w) (.d (.u x)) v := by
  obtain ⟨n, hn⟩ := h
  rw [hv] at hn
  obtain ⟨xs, h1, h2⟩ := opn hs n _ _ hn hz
  obtain ⟨x, q, rfl, h3, h4⟩ := h1.cons_inv
  have := h4.nil_inv
  subst this
  exact ⟨x, h3, fun ρ => .d (.u (h2.den 0 x v rfl rfl))⟩
end
end Go.Proofs.YtabmcfnefjipbaaGreatDoor
namespace Go.Proofs.YtabmcfnefjipbaaGreatDoor
open Go.ChangeShapes Go.WideShapes Go.ChangeAt Go.RowKit
theorem law_liftedL {C : Checked} {os : Os} {f : FuncId} {fn : Func} {s : ChangeSpec} {tb : TypeId} {apart fresh : Bool} {conds : List PathCond} {laid : List (String × DataW Unit)} (started : os.Started) (H : Type) (enc : TypeId × Value → H) (F : Stop.Interp)
    (own : ownKnob C.prog.godebug = none) (noInit : C.prog.inits.idxOf? f = none) (hfn : C.prog.funcs[f]? = some fn)
    (witness : ∃ (w : World) (tape : Tape) (i : Input), w.os = os ∧ (w.forCall tape i).Shaped C.prog ∧ i.vars = [] ∧ Input.okWide C.prog (w.forCall tape i) .any w.heap.size f i ∧
      (Rows.OpenSpec.upto s).preRow enc C.prog fn conds apart laid (w.forCall tape i).memory i.args ∧ ({} : Assume).holds C.prog (lone (Frame.enter C.prog f i.args .normal) [] (w.forCall tape i)))
    (hl : laidOutB C.prog = true) (hT : paramsRead C.prog fn = true) (hres : fn.resultTypes = #[tb]) (htb : C.prog.underlying tb = some .bool) (hvars : s.vars = [])
    (hsp : ∀ ds : List (DataW H), ds.length = fn.params.size → s.fn H ds = { results := [.lit (.bool true)], args := ds })
    (walk : ∀ (W : World) (base : Nat) (args : Array Value) (ds : List (DataW H)) (p : List MemPlace),
      (∀ (j : Nat) t v, fn.params[j]? = some t → args[j]? = some v → Value.okWide C.prog W .any base t v) →
      DataW.TrodAll enc C.prog W 0 (fun _ => true) true fn.params.toList args.toList ds p → (∀ x ∈ p, x.block < W.heap.size) →
      Rows.uptoBulkAll ds ≤ 1048576 → laidMetH C.prog laid W →
      Calls C.prog f args W fun e W' => e = .returned (.bool true) ∧ Below W.heap.size W W') :
    ReturnsInHanded {} C os f .any ((Rows.OpenSpec.upto s).preRow enc C.prog fn conds apart laid) (((Rows.OpenSpec.upto s).at F).post enc C.prog fn apart fresh false false) := by
  refine returnsInHanded_of_row (s := Rows.OpenSpec.upto s) own started noInit hfn witness ?_
  intro W base args ds gs before hval hW0 _ hk _ hL _ _
  have hW : DataW.Whole enc C.prog fn.params.toList s.vars apart W args.toList ds gs before := hW0
  have hgs : gs = [] := by
    obtain ⟨p, q, hA, hV, he, _, _⟩ := hW
    rw [hvars] at hV
    exact (trodVars_none hV).1
  subst hgs
  have hlen : ds.length = fn.params.size := by
    obtain ⟨p, q, hA, _⟩ := hW
    have hlt : ∀ {ts : List TypeId} {vs : List Value} {ds : List (DataW H)} {ps : List MemPlace}, DataW.TrodAll enc C.prog W 0 (fun _ => true) true ts vs ds ps → ds.length = ts.length := by
      intro ts
      induction ts with
      | nil => intro vs ds ps h; cases vs <;> cases ds <;> first | rfl | exact h.elim
      | cons t ts ih =>
        intro vs ds ps h
        cases vs with
        | nil => exact h.elim
        | cons v vs =>
          cases ds with
          | nil => exact h.elim
          | cons d ds =>
            obtain ⟨p, q, _, h2, _⟩ := h
            simp [ih h2]
    simpa using hlt hA
  have hb := of_decide_eq_true (hk _ rfl)
  rw [List.append_nil] at hb
  have hlt := hW.lt
  have hp : ∃ p, DataW.TrodAll enc C.prog W 0 (fun _ => true) true fn.params.toList args.toList ds p ∧ ∀ x ∈ p, x.block < W.heap.size := by
    obtain ⟨p, q, hA, hV, he, _, _⟩ := hW
    exact ⟨p, hA, fun x hx => hlt x (by rw [he]; exact List.mem_append_left _ hx)⟩
  obtain ⟨p, hA, hpl⟩ := hp
  refine (walk W base args ds p hval hA hpl hb hL).mono fun e W' ⟨he, hb⟩ => ?_
  exact ⟨_, he, post_of_below hl hT hres htb hvars (hsp ds hlen) hW hb⟩
theorem laid_out : laidOutB Tryz.prog = true := by kernel_rfl
theorem own_knob : ownKnob Tryz.prog.godebug = none := by kernel_rfl
theorem closed_T : closedT Tryz.prog = true := by kernel_rfl
mutual
def cellsD : DataW Unit → List Value
  | .lit (.int k n) => [.int k n]
  | .agg ps => cellsDs ps
  | _ => []
def cellsDs : List (DataW Unit) → List Value
  | [] => []
  | d :: r => cellsD d ++ cellsDs r
end
def setCs (cs : List Value) : Obj → Obj
  | .cells _ t frozen => .cells cs.toArray t frozen
  | o => o
noncomputable def laidWorld (os : Os) : World :=
  { World.holding Tryz.prog os ⟨#[], #[], []⟩ with heap := (((((World.holding Tryz.prog os ⟨#[], #[], []⟩).heap.modify 6 (setCs (cellsD Rows.laid_unicode_utf8_first))).modify 7 (setCs (cellsD Rows.laid_unicode_utf8_acceptRanges))).modify 1 (setCs (cellsD Rows.laid_internal_strconv_uint64pow10))).modify 4 (setCs (cellsD Rows.laid_math_bits_deBruijn32tab))).modify 5 (setCs (cellsD Rows.laid_math_bits_deBruijn64tab)) }
abbrev laidL : List (String × DataW Unit) := [("math/bits.deBruijn32tab", Rows.laid_math_bits_deBruijn32tab), ("math/bits.deBruijn64tab", Rows.laid_math_bits_deBruijn64tab), ("internal/strconv.uint64pow10", Rows.laid_internal_strconv_uint64pow10), ("unicode/utf8.acceptRanges", Rows.laid_unicode_utf8_acceptRanges), ("unicode/utf8.first", Rows.laid_unicode_utf8_first)]
theorem laid_met (os : Os) (args : Array Value) : laidMet Tryz.prog laidL ((laidWorld os).forCall (fun _ _ => 0) ⟨#[], args, []⟩).memory :=
  laidMet_of_run' 8 (by kernel_rfl) (by kernel_rfl)
/-- The table of powers of ten lies there. -/
theorem tab_of {W : World} (h : laidMetH Tryz.prog laidL W) : Lib.TabIs Tryz.prog W "internal/strconv.uint64pow10" .u64 Lib.pow10Tab := by
  have h1 : laidMet Tryz.prog laidL W := h
  have h2 := h1.tail.tail
  exact Lib.tabIs_of_head (rest := [("unicode/utf8.acceptRanges", Rows.laid_unicode_utf8_acceptRanges), ("unicode/utf8.first", Rows.laid_unicode_utf8_first)]) (g := 1) (t := 208) (e := 189) (n := 20) (by kernel_rfl) (by kernel_rfl) (by kernel_rfl) (by kernel_rfl) (by kernel_rfl) (by kernel_rfl) h2
section
variable {P : Program} {f : FuncId} {ss : List SV}
/-- A law's contract as its row asks it, with the tables. -/
theorem calls_of_AT {vs : List Value} {W : World} (h : ∀ zt, Tab zt → CallsA Tryz.prog f ss [(907, tbOb zt)] (Iso (db true) [(907, tbOb zt)])) (ht : Lib.TabIs Tryz.prog W "internal/strconv.uint64pow10" .u64 Lib.pow10Tab) (hv : ArgsAt rho0 (fg0 W) W ss vs) : Calls Tryz.prog f vs.toArray W fun e W' => e = .returned (.bool true) ∧ Below W.heap.size W W' := by
  have hg : Tryz.prog.globalNamed "internal/strconv.uint64pow10" = some 1 := by kernel_rfl
  have hlt : 1 < W.heap.size := by
    have h0 := ht
    unfold Lib.TabIs World.var? at h0
    rw [hg] at h0
    simp only [Option.bind_some] at h0
    rcases Nat.lt_or_ge 1 W.heap.size with h' | h'
    · exact h'
    · rw [Array.getElem?_eq_none h'] at h0; cases h0
  refine ((h ⟨fg0 W, W⟩ ⟨⟨_, hg, hlt, ht⟩⟩).out ⟨(· < W.heap.size), W, fg0 W⟩ rho0 [] vs W (Hp.init W) hv.1 ⟨fun _ h => h, Same.refl _ _, fun _ h => h, fun _ h => .inl h, .refl _, fun k s hk => ?_, ⟨[], [], rfl, ⟨rfl, .refl, .nil⟩, rfl⟩⟩).mono ?_
  · obtain ⟨h1, h2⟩ := lk_slT hk
    have hlt : k - 0 < vs.length := by rw [hv.1]; exact (List.getElem?_eq_some_iff.1 h2).1
    exact ⟨vs[k - 0], lk_slots h1 (List.getElem?_eq_getElem hlt), hv.2.1 _ s _ h2 (List.getElem?_eq_getElem hlt)⟩
  · rintro e w' ⟨v, h', s, ob', ρ', G', rfl, hw', g', rfl, rfl⟩
    obtain ⟨u, u1, u2⟩ := g'.tm 0 _ rfl
    simp only [lk, Nat.beq_refl, cond_true, Option.some.injEq] at u1
    subst u1
    cases u2 with | d u2 => cases u2 with | u u2 => cases u2 with | bool =>
    exact ⟨rfl, (g'.fw.trans (hw'.same.mono g'.fF)).below⟩
end
end Go.Proofs.YtabmcfnefjipbaaGreatDoor
namespace Go.Proofs.YtabmcfnefjipbaaGreatDoor
open Go.ChangeShapes Go.WideShapes Go.Deep Go.RowKit
abbrev shLocs : Sh := .sl 32 [.str, .str]
abbrev shEvs : Sh := .sl 104 [.int .i64, .str, .str, .int .i64, .int .i64, .int .i64, .str, shLocs]
theorem shEvs_eq : shT tt 6 22 = some [shEvs] := by rfl
theorem rows_ofP {α β : Type} {f : α → β} {P : α → Prop} : ∀ {rs : List β}, (∀ r ∈ rs, ∃ a, r = f a ∧ P a) → ∃ l : List α, rs = l.map f ∧ ∀ a ∈ l, P a
  | [], _ => ⟨[], rfl, fun _ h => by cases h⟩
  | r :: rs, h => by
    obtain ⟨a, rfl, ha⟩ := h r (by simp)
    obtain ⟨l, rfl, hl⟩ := rows_ofP (rs := rs) fun q hq => h q (by simp [hq])
    exact ⟨a :: l, rfl, fun b hb => by
      rcases List.mem_cons.1 hb with rfl | hb
      · exact ha
      · exact hl b hb⟩
theorem locs_of {x : V} (h : HasSh shLocs x) : ∃ l : List (ByteArray × ByteArray), x = .sl 2 (l.map locR) := by
  cases h with | sl hl hm hs hr h =>
  rename_i rs
  subst hs
  have : ∀ r ∈ rs, ∃ a : ByteArray × ByteArray, r = locR a ∧ True := fun r hr' => by
    obtain ⟨x0, q, rfl, h0, hq⟩ := HasL.cons_inv ⟨hr r hr', h r hr'⟩
    obtain ⟨x1, q, rfl, h1, hq⟩ := hq.cons_inv
    have := hq.nil_inv
    subst this
    cases h0 with | str h0 =>
    cases h1 with | str h1 =>
    exact ⟨⟨_, _⟩, rfl, trivial⟩
  obtain ⟨l, rfl, _⟩ := rows_ofP this
  exact ⟨l, rfl⟩
theorem evs_of {x : V} (h : HasSh shEvs x) : ∃ l : List Ev, x = evs l ∧ l.length ≤ 9000000000 ∧ ∀ e ∈ l, e.md.size ≤ 1000000000000 := by
  cases h with | sl hl hm hs hr h =>
  rename_i rs
  subst hs
  have : ∀ r ∈ rs, ∃ a : Ev, r = a.row ∧ a.md.size ≤ 1000000000000 := fun r hr' => by
    obtain ⟨x0, q, rfl, h0, hq⟩ := HasL.cons_inv ⟨hr r hr', h r hr'⟩
    obtain ⟨x1, q, rfl, h1, hq⟩ := hq.cons_inv
    obtain ⟨x2, q, rfl, h2, hq⟩ := hq.cons_inv
    obtain ⟨x3, q, rfl, h3, hq⟩ := hq.cons_inv
    obtain ⟨x4, q, rfl, h4, hq⟩ := hq.cons_inv
    obtain ⟨x5, q, rfl, h5, hq⟩ := hq.cons_inv
    obtain ⟨x6, q, rfl, h6, hq⟩ := hq.cons_inv
    obtain ⟨x7, q, rfl, h7, hq⟩ := hq.cons_inv
    have := hq.nil_inv
    subst this
    cases h0 with | int =>
    cases h1 with | str h1 =>
    cases h2 with | str h2 =>
    cases h3 with | int =>
    cases h4 with | int =>
    cases h5 with | int =>
    cases h6 with | str h6 =>
    obtain ⟨b, rfl⟩ := locs_of h7
    refine ⟨⟨_, _, _, _, _, _, _, b⟩, rfl, ?_⟩
    have : bigB = 9000000000 := rfl
    dsimp only
    omega
  obtain ⟨l, rfl, hl2⟩ := rows_ofP this
  refine ⟨l, rfl, ?_, hl2⟩
  rw [List.length_map] at hl
  have : bigB = 9000000000 := rfl
  omega
end Go.Proofs.YtabmcfnefjipbaaGreatDoor
