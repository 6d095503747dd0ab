/-
  Part 8 of the proofs of stacks_holds: laws and contracts that they need.
-/
import Derived.Test.YtabmcfnefjipbaaGreatDoorR7
import Derived.Maps.RangeRun
import Derived.StillTailTactics
import Derived.Deep.RegionHeld3
import Derived.Shelf.SlSortCmp.WholeK
import Derived.Shelf.SlGeneric
import Derived.Shelf.Strings.OnBuilder
import Derived.Shelf.LaysM
import Derived.Shelf.Strconv.Itoa3
import Derived.Shelf.SlSortCmp.NoneTotal
import Derived.Ground.SlsfProg
set_option linter.unusedVariables false
set_option linter.unusedSimpArgs false
namespace Go.Proofs.YtabmcfnefjipbaaGreatDoor
open Go.RowKit
def costsM (l : List Ev) (fuel : Int) : List Co :=
  let x := costsAt l fuel l.length
  if 0 < x.rest then x.out ++ [⟨ByteArray.mk #[], ByteArray.mk #[], 0, 0, 0, 0, x.rest, x.rest⟩] else x.out
abbrev coOb (x : Cs) : List (Nat × Ob) := [(5, .bx 25 [.u (.int .i64 0), .u (.int .i64 0)]), (7, .bx 141 [.mp 903]), (8, .bx 88 [.ow 901 x.out.length]), (9, .bx 3 [.u (.int .i64 x.rest)]), (903, .mp true false (atE 0 x.out)), (901, .ar 96 8 (x.out.map coR))]
theorem coOb_mf (x : Cs) : MfObs (coOb x) := by
  have he : ∀ (l : List Co) (n : Nat), ∀ e ∈ atE n l, ∀ v ∈ e.1 ++ e.2, mfV v = true := by
    intro l
    induction l with
    | nil => intro n e h; simp [atE] at h
    | cons c r ih =>
      intro n e h
      rw [atE] at h
      rcases List.mem_cons.1 h with rfl | h
      · simp [mfV]
      · exact ih _ e h
  intro p hp
  simp only [List.mem_cons, List.not_mem_nil, or_false] at hp
  rcases hp with rfl | rfl | rfl | rfl | rfl | rfl
  · simp [MfOb, mfD, mfV]
  · simp [MfOb, mfD]
  · simp [MfOb, mfD]
  · simp [MfOb, mfD, mfV]
  · exact he _ _
  · simp [MfOb, mfV]
theorem stepSV_nm (e : Ev) (a : Int) (s : List Ac) : NmS (stepSV e a s) := by
  intro x hx
  simp only [List.mem_cons, List.not_mem_nil, or_false] at hx
  have hr : ∀ r ∈ s.map acR, ∀ x ∈ r, Nm x := by
    intro r hr x hx
    obtain ⟨b, _, rfl⟩ := List.mem_map.1 hr
    simp only [List.mem_cons, List.not_mem_nil, or_false] at hx
    rcases hx with rfl | rfl | rfl <;> constructor
  have hl : ∀ r ∈ e.locs.map locR, ∀ x ∈ r, Nm x := by
    intro r hr x hx
    obtain ⟨b, _, rfl⟩ := List.mem_map.1 hr
    simp only [List.mem_cons, List.not_mem_nil, or_false] at hx
    rcases hx with rfl | rfl <;> constructor
  rcases hx with rfl | rfl | rfl | rfl | rfl | rfl | rfl | rfl | rfl | rfl
  · exact ⟨_, rfl, .int⟩
  · exact ⟨_, rfl, .str⟩
  · exact ⟨_, rfl, .str⟩
  · exact ⟨_, rfl, .int⟩
  · exact ⟨_, rfl, .int⟩
  · exact ⟨_, rfl, .int⟩
  · exact ⟨_, rfl, .str⟩
  · exact ⟨_, rfl, .sl hl⟩
  · exact ⟨_, rfl, .int⟩
  · exact ⟨_, rfl, .sl hr⟩
theorem costs_len {l : List Ev} {fuel : Int} : ∀ i, (costsAt l fuel i).out.length ≤ i
  | 0 => Nat.le_refl _
  | i + 1 => by
    have ih := costs_len (l := l) (fuel := fuel) i
    rw [costsAt]
    split
    · rename_i e he
      have := congrArg List.length (stepC_fus (costsAt l fuel i) e (amt l fuel i) (stackAt l (i + 1)))
      simp only [List.length_map] at this
      rw [this, ensF]
      split
      · omega
      · simp; omega
    · omega
set_option maxHeartbeats 4000000 in
theorem costs_ok {l : List Ev} {fuel : Int} (hc : checkM l fuel = (0, 0)) (hx : fuel ≤ 9223372036854775807) : CallsA Tryz.prog 44 [.d (.u (evs l)), di fuel] [] (Iso (.t [.d (.ow 901 (costsM l fuel).length), .a [.u (.int .i64 0), .u (.int .i64 0)]]) [(901, .ar 96 8 ((costsM l fuel).map coR))]) := by
  have t := check_Tr (l := l) (fuel := fuel) (by rw [hc]) hx
  have h1 := check_T l fuel
  rw [hc] at h1
  have h2 := before_T l fuel
  have h3 := steps0_T l fuel
  refine callsA_of_rfO (T := tt) Tryz.func44 rfl rfl rfl rfl rfl ?_
  repeat' ((conv => whnf); first | refine Gs.id ?_ | with_reducible refine Brn.F rfl ?_ | refine Raw.makeMap (T := tt) rfl rfl rfl rfl rfl rfl (.inl rfl) rfl rfl ?_ | (refine CL.mk (Or.inl ?_); (conv => whnf); first | refine Cl.is (h1) rfl (by first | exact fun _ => rfl | fail) ?_ | refine Cl.is (h2) rfl (by first | exact fun _ => rfl | fail) ?_ | refine Cl.is (h3) rfl (by first | (intro e; cases e; done) | fail) ?_) | fail)
  all_goals (conv => whnf)
  refine ⟨⟨Nat, fun i => i ≤ l.length, fun i => i = l.length, fun i ss => ∃ e, l[i]? = some e ∧ ss = [stepSV e (amt l fuel i) (stackAt l (i + 1))], fun i _ => i + 1, fun i => coOb (costsAt l fuel i), 0, [(5, .d (.p 5 0)), (7, .d (.p 7 0)), (8, .d (.p 8 0)), (9, .d (.p 9 0)), (31, .d (.u (stepsV l fuel)))], _, [(5, .k 5), (7, .k 7), (8, .k 8), (9, .k 9), (903, .k 25), (901, .n 8)], _, _, 902, [], Nat.zero_le _, fun _ h => absurd h (by simp), ⟨by (try dsimp only); (repeat (refine LeT.cons rfl (by first | exact LeS.d (by first | exact LeD.u rfl | exact LeD.p rfl | fail) | fail) ?_)); exact LeT.nil, by (try dsimp only); repeat (first | exact LeO.nil | refine LeO.bx rfl rfl (by repeat (first | exact LeL.nil | refine LeL.cons (by first | exact LeD.u rfl | exact LeD.no rfl rfl | exact LeD.mp rfl | fail) ?_)) ?_ | refine LeO.mp rfl rfl (by first | rfl | fail) ?_ | refine LeO.no rfl rfl ?_)⟩, rfl, rfl, ?_, rfl, fun i _ => (coOb_mf _).toZ, ?_, ?_, ?_, ?_⟩⟩
  · simp [nmlS, nmlD]
  · rintro i ss hi ⟨e, he, rfl⟩
    have := (List.getElem?_eq_some_iff.1 he).1
    exact ⟨show i + 1 ≤ l.length by omega, rfl, by simp [stepSV_nm]⟩
  · rintro i ss hi ⟨e, he, rfl⟩ us zb
    have hilt := (List.getElem?_eq_some_iff.1 he).1
    have ok := t.vd.ok he
    have hlen := costs_len (l := l) (fuel := fuel) i
    have hL := t.len
    have hof := of_T e
    have hci := costs_CI t i (by omega)
    have ha0 := t.amt he
    have haE := amt_eq (fuel := fuel) he
    have hcur := t.cur i (by omega)
    have hcur2 := t.cur (i + 1) (by omega)
    have hslen0 := stack_len (l := l) (i + 1)
    have hmem0 : ∀ b ∈ stackAt l (i + 1), b.fu ∈ (ensF (costsAt l fuel i).out e.fu).map Co.fu := fun b hb => by
      have h1 := (costs_mem (l := l) (fuel := fuel) (i + 1) (by omega) b.fu).2 (stack_mem (i + 1) (by omega) b hb)
      rw [costsAt_succ he, stepC_fus] at h1
      exact h1
    dsimp only
    rw [costsAt_succ he]
    generalize hx0 : costsAt l fuel i = x at *
    generalize amt l fuel i = a at *
    generalize curF l fuel i = B at *
    generalize curF l fuel (i + 1) = B2 at *
    generalize stackAt l (i + 1) = s at *
    obtain ⟨k, c, k1, k2, k3⟩ := fidx_some (l := ensF x.out e.fu) (f := e.fu) (mem_ensF.2 (.inr rfl))
    have hokS : ∀ e ∈ atE 0 x.out, keyS tt (.st kFs) e.1 = true := atE_ok
    have hokF : ∀ e ∈ atE 0 x.out, keyFs tt kFs 0 e.1 = true := atE_ok
    obtain ⟨has, k0, m1, m2, ht, hf⟩ : ∃ (has : Bool) (k0 : Int), mgetT (atE 0 x.out) [.str e.md, .str e.fn] [.int .i64 0] = [.int .i64 k0] ∧ mhasT (atE 0 x.out) [.str e.md, .str e.fn] = has ∧ (has = true → ensF x.out e.fu = x.out ∧ k0 = k) ∧ (has = false → ensF x.out e.fu = x.out ++ [zeroC e.fu] ∧ k = x.out.length ∧ mputT (atE 0 x.out) [.str e.md, .str e.fn] [.int .i64 (x.out.length : Int)] = atE 0 (x.out ++ [zeroC e.fu])) := by
      have m : mgetT (atE 0 x.out) [.str e.md, .str e.fn] [.int .i64 0] = _ ∧ mhasT (atE 0 x.out) [.str e.md, .str e.fn] = _ := atE_get (l := x.out) (f := e.fu) (n := 0) [.int .i64 0]
      by_cases hm : e.fu ∈ x.out.map Co.fu
      · have hen : ensF x.out e.fu = x.out := by rw [ensF, if_pos hm]
        rw [hen] at k1
        rw [k1] at m
        exact ⟨true, k, by rw [m.1]; simp, by rw [m.2]; rfl, fun _ => ⟨hen, rfl⟩, fun h => by cases h⟩
      · have hen : ensF x.out e.fu = x.out ++ [zeroC e.fu] := by rw [ensF, if_neg hm]
        have hn := fidx_none.2 hm
        rw [hen, fidx_app hn (by rfl)] at k1
        injection k1 with k1
        rw [hn] at m
        refine ⟨false, 0, m.1, m.2, fun h => (by cases h), fun _ => ⟨hen, k1.symm, ?_⟩⟩
        have := atE_put (n := 0) (c := zeroC e.fu) hn (by rfl)
        simpa [Ev.fu] using this
    have ht1 : has = true → ensF x.out e.fu = x.out := fun h => (ht h).1
    have ht2 : has = true → k0 = (k : Int) := fun h => (ht h).2
    have hf1 : has = false → ensF x.out e.fu = x.out ++ [zeroC e.fu] := fun h => (hf h).1
    have hf2 : has = false → (k : Int) = (x.out.length : Int) := fun h => by rw [(hf h).2.1]
    have hf3 : has = false → mputT (atE 0 x.out) [.str e.md, .str e.fn] [.int .i64 (x.out.length : Int)] = atE 0 (x.out ++ [zeroC e.fu]) := fun h => (hf h).2.2
    have hu1 : e.fu.1 = e.md := rfl
    have hu2 : e.fu.2 = e.fn := rfl
    clear ht hf
    refine' cutR (fun _ : Unit => True) (fun _ => ⟨[(10, .d (.p 10 0)), (7, .d (.p 7 0)), (8, .d (.p 8 0)), (9, .d (.p 9 0)), (11, di k)], (902, .ab [.p 5 0, .p 7 0, .p 8 0, .p 9 0] us zb (· = [])) :: (10, .bx 81 (e.ds ++ [.u (.int .i64 a), .u (.sl 3 (s.map acR))])) :: coOb ⟨ensF x.out e.fu, x.rest⟩⟩) _ (fun hR => ?_) ?_
    rotate_left
    · repeat' ((conv => whnf); first | refine Mls.of [.int .i64 k0] has (by kernel_rfl) (by kernel_rfl) hokS m1 m2 ?_ | (have hg := ht1 hb; exact Drw.cut (i := 14) (by assumption) () [(902, .k 902), (5, .k 5), (7, .k 7), (8, .k 8), (9, .k 9), (903, .k 903), (901, .k 901), (10, .k 10)] rfl ⟨by (try dsimp only); (repeat (refine LeT.cons rfl (by first | exact LeS.d (by first | exact LeD.p rfl | exact LeD.u (by simp [ht1 hb, ht2 hb]; done) | fail) | fail) ?_)); (first | exact LeT.nil | fail), by (try dsimp only); (repeat (first | exact LeO.nil | refine LeO.bx rfl rfl (by repeat (first | exact LeL.nil | refine LeL.cons (by first | exact LeD.u rfl | exact LeD.ow rfl (by simp [ht1 hb, ht2 hb]; done) | exact LeD.mp rfl | fail) ?_)) ?_ | refine LeO.ar rfl rfl (by first | rfl | (simp [ht1 hb, ht2 hb]; done) | fail) ?_ | refine LeO.ab rfl rfl (by repeat (first | exact LeL.nil | refine LeL.cons (by first | exact LeD.p rfl | fail) ?_)) (by first | rfl | fail) ?_ | refine LeO.mp rfl rfl (by first | (simp [ht1 hb, ht2 hb]; done) | fail) ?_ | fail)); done⟩ (by trivial)) | (have hg := hf1 hb; exact Drw.cut (i := 14) (by assumption) () [(902, .k 902), (5, .k 5), (7, .k 7), (8, .k 8), (9, .k 9), (903, .k 903), (901, .k 59), (10, .k 10)] rfl ⟨by (try dsimp only); (repeat (refine LeT.cons rfl (by first | exact LeS.d (by first | exact LeD.p rfl | exact LeD.u (by simp [hf1 hb, hf2 hb, hf3 hb, zeroC, hu1, hu2]; done) | fail) | fail) ?_)); (first | exact LeT.nil | fail), by (try dsimp only); (repeat (first | exact LeO.nil | refine LeO.bx rfl rfl (by repeat (first | exact LeL.nil | refine LeL.cons (by first | exact LeD.u rfl | exact LeD.ow rfl (by simp [hf1 hb, hf2 hb, hf3 hb, zeroC, hu1, hu2]; done) | exact LeD.mp rfl | fail) ?_)) ?_ | refine LeO.ar rfl rfl (by first | rfl | (simp [hf1 hb, hf2 hb, hf3 hb, zeroC, hu1, hu2]; done) | fail) ?_ | refine LeO.ab rfl rfl (by repeat (first | exact LeL.nil | refine LeL.cons (by first | exact LeD.p rfl | fail) ?_)) (by first | rfl | fail) ?_ | refine LeO.mp rfl rfl (by first | (simp [hf1 hb, hf2 hb, hf3 hb, zeroC, hu1, hu2]; done) | fail) ?_ | fail)); done⟩ (by trivial)) | refine Gs.id ?_ | (refine Brn.mk (fun hb => ?_) (fun hb => ?_) <;> (try simp only [smT] at hb) <;> (try (exact absurd trivial hb)) <;> (try (exfalso; omega))) | (refine Bnd.mk (fun hm => ?_); (try simp only [smT] at hm)) | refine Apd.mk (by first | rfl | simp) (by first | rfl | fail) (by (try simp only [smT]); first | omega | fail) (by unfold maxLen; first | (simp; omega) | fail) ?_ | refine Raw.mapUpdateS (T := tt) (.inl rfl) rfl rfl rfl rfl rfl rfl rfl rfl rfl rfl rfl rfl rfl (by kernel_rfl) (by assumption) ?_ | refine Drw.of (T := tt) (i := 9) [] [] [(0, true), (1, true), (2, true), (3, false), (4, true), (5, true), (6, true), (7, true), (8, true), (9, true)] (by kernel_rfl) ?_ | refine Drw.of (T := tt) (i := 12) [5] [] [(0, true), (1, true), (2, true), (4, true), (3, false), (5, false)] (by kernel_rfl) ?_ | (refine CL.mk (Or.inl ?_); (conv => whnf); refine Cl.is (hof) rfl (by first | exact fun _ => rfl | fail) ?_) | fail)
    · intro _ _
      dsimp only
      have hkl : k < (ensF x.out e.fu).length := (List.getElem?_eq_some_iff.1 k2).1
      have hlen1 : (ensF x.out e.fu).length ≤ i + 1 := by
        unfold ensF
        split
        · omega
        · simp; omega
      have hup := updF_eq (bump e.kind) k1 k2
      have hfu1 : (updF (bump e.kind) (ensF x.out e.fu) e.fu).map Co.fu = (ensF x.out e.fu).map Co.fu := updF_fus _ (bump_fu _) _ _
      have hat1 := atE_fus (n := 0) hfu1
      have hcb0 := hci.out.ens hcur.1 hcur.1 (by omega) e.fu
      have hcb1 := hcb0.bump e.kind e.fu
      have hbd := hcb0 c (List.mem_of_getElem? k2)
      have hbd1 := hbd.c0
      have hbd2 := hbd.r0
      have hbd3 := hbd.e0
      have hbd4 := hbd.l0
      have hr0 := hci.r0
      have hr1 := hci.r1
      clear hbd hcb0
      rw [stepC]
      clear hokS hokF m1 m2 ht1 ht2 hf1 hf2 hf3 hof
      generalize ensF x.out e.fu = out1 at *
      have hget : (out1.map coR)[k]? = some (coR c) := by simp [k2]
      have hmap2 : (updF (bump e.kind) out1 e.fu).map coR = (out1.map coR).set k (coR (bump e.kind c)) := by rw [hup, List.map_set]
      have hlen2 : (updF (bump e.kind) out1 e.fu).length = out1.length := by rw [hup, List.length_set]
      clear hup
      generalize updF (bump e.kind) out1 e.fu = out2 at *
      refine' cutR (fun _ : Unit => True) (fun _ => ⟨[(10, .d (.p 10 0)), (7, .d (.p 7 0)), (8, .d (.p 8 0)), (9, .d (.p 9 0))], (902, .ab [.p 5 0, .p 7 0, .p 8 0, .p 9 0] us zb (· = [])) :: (10, .bx 81 (e.ds ++ [.u (.int .i64 a), .u (.sl 3 (s.map acR))])) :: coOb ⟨out2, x.rest⟩⟩) _ (fun hR => ?_) ?_
      rotate_left
      · rcases (show e.kind = 1 ∨ e.kind = 2 ∨ e.kind = 3 ∨ e.kind = 4 by have := ok.k1; have := ok.k4; omega) with hk | hk | hk | hk
        · repeat' ((conv => whnf); first | refine Ixo.mk ⟨1, hk, by decide, ?_⟩ | refine Rw.get hget ?_ | (exact Gs.cut (i := 16) (by assumption) () [(902, .k 902), (5, .k 5), (7, .k 7), (8, .k 8), (9, .k 9), (903, .k 903), (901, .k 901), (10, .k 10)] rfl ⟨by (try dsimp only); (repeat (refine LeT.cons rfl (by first | exact LeS.d (by first | exact LeD.p rfl | fail) | fail) ?_)); (first | exact LeT.nil | fail), by (try dsimp only); (repeat (first | exact LeO.nil | refine LeO.bx rfl rfl (by repeat (first | exact LeL.nil | refine LeL.cons (by first | exact LeD.u rfl | exact LeD.ow rfl (by simp [hmap2, hat1, hlen2, bump, hk]; done) | exact LeD.mp rfl | fail) ?_)) ?_ | refine LeO.ar rfl rfl (by first | rfl | (simp [hmap2, hat1, hlen2, bump, hk]; done) | fail) ?_ | refine LeO.ab rfl rfl (by repeat (first | exact LeL.nil | refine LeL.cons (by first | exact LeD.p rfl | fail) ?_)) (by first | rfl | fail) ?_ | refine LeO.mp rfl rfl (by first | (simp [hmap2, hat1, hlen2, bump, hk]; done) | fail) ?_ | fail)); done⟩ (by trivial)) | refine Gs.id ?_ | refine Rng.mk (by (try simp only [smT]); omega) ?_ | refine Ixo.mk ⟨_, rfl, (by (try simp only [smT]); omega), ?_⟩ | refine Drw.of (T := tt) (i := 14) [18] [] [(0, true), (1, true), (2, true), (3, true), (4, true), (5, true), (6, true), (7, true), (8, true), (9, true), (10, true), (11, true), (12, true), (13, true), (14, true), (15, true), (16, true), (17, false), (18, false)] (by kernel_rfl) ?_ | fail)
        · repeat' ((conv => whnf); first | refine Ixo.mk ⟨2, hk, by decide, ?_⟩ | refine Rw.get hget ?_ | (exact Gs.cut (i := 16) (by assumption) () [(902, .k 902), (5, .k 5), (7, .k 7), (8, .k 8), (9, .k 9), (903, .k 903), (901, .k 901), (10, .k 10)] rfl ⟨by (try dsimp only); (repeat (refine LeT.cons rfl (by first | exact LeS.d (by first | exact LeD.p rfl | fail) | fail) ?_)); (first | exact LeT.nil | fail), by (try dsimp only); (repeat (first | exact LeO.nil | refine LeO.bx rfl rfl (by repeat (first | exact LeL.nil | refine LeL.cons (by first | exact LeD.u rfl | exact LeD.ow rfl (by simp [hmap2, hat1, hlen2, bump, hk]; done) | exact LeD.mp rfl | fail) ?_)) ?_ | refine LeO.ar rfl rfl (by first | rfl | (simp [hmap2, hat1, hlen2, bump, hk]; done) | fail) ?_ | refine LeO.ab rfl rfl (by repeat (first | exact LeL.nil | refine LeL.cons (by first | exact LeD.p rfl | fail) ?_)) (by first | rfl | fail) ?_ | refine LeO.mp rfl rfl (by first | (simp [hmap2, hat1, hlen2, bump, hk]; done) | fail) ?_ | fail)); done⟩ (by trivial)) | refine Gs.id ?_ | refine Rng.mk (by (try simp only [smT]); omega) ?_ | refine Ixo.mk ⟨_, rfl, (by (try simp only [smT]); omega), ?_⟩ | refine Drw.of (T := tt) (i := 14) [18] [] [(0, true), (1, true), (2, true), (3, true), (4, true), (5, true), (6, true), (7, true), (8, true), (9, true), (10, true), (11, true), (12, true), (13, true), (14, true), (15, true), (16, true), (17, false), (18, false)] (by kernel_rfl) ?_ | fail)
        · repeat' ((conv => whnf); first | refine Ixo.mk ⟨3, hk, by decide, ?_⟩ | refine Rw.get hget ?_ | (exact Gs.cut (i := 16) (by assumption) () [(902, .k 902), (5, .k 5), (7, .k 7), (8, .k 8), (9, .k 9), (903, .k 903), (901, .k 901), (10, .k 10)] rfl ⟨by (try dsimp only); (repeat (refine LeT.cons rfl (by first | exact LeS.d (by first | exact LeD.p rfl | fail) | fail) ?_)); (first | exact LeT.nil | fail), by (try dsimp only); (repeat (first | exact LeO.nil | refine LeO.bx rfl rfl (by repeat (first | exact LeL.nil | refine LeL.cons (by first | exact LeD.u rfl | exact LeD.ow rfl (by simp [hmap2, hat1, hlen2, bump, hk]; done) | exact LeD.mp rfl | fail) ?_)) ?_ | refine LeO.ar rfl rfl (by first | rfl | (simp [hmap2, hat1, hlen2, bump, hk]; done) | fail) ?_ | refine LeO.ab rfl rfl (by repeat (first | exact LeL.nil | refine LeL.cons (by first | exact LeD.p rfl | fail) ?_)) (by first | rfl | fail) ?_ | refine LeO.mp rfl rfl (by first | (simp [hmap2, hat1, hlen2, bump, hk]; done) | fail) ?_ | fail)); done⟩ (by trivial)) | refine Gs.id ?_ | refine Rng.mk (by (try simp only [smT]); omega) ?_ | refine Ixo.mk ⟨_, rfl, (by (try simp only [smT]); omega), ?_⟩ | refine Drw.of (T := tt) (i := 14) [18] [] [(0, true), (1, true), (2, true), (3, true), (4, true), (5, true), (6, true), (7, true), (8, true), (9, true), (10, true), (11, true), (12, true), (13, true), (14, true), (15, true), (16, true), (17, false), (18, false)] (by kernel_rfl) ?_ | fail)
        · repeat' ((conv => whnf); first | refine Ixo.mk ⟨4, hk, by decide, ?_⟩ | refine Rw.get hget ?_ | (exact Gs.cut (i := 16) (by assumption) () [(902, .k 902), (5, .k 5), (7, .k 7), (8, .k 8), (9, .k 9), (903, .k 903), (901, .k 901), (10, .k 10)] rfl ⟨by (try dsimp only); (repeat (refine LeT.cons rfl (by first | exact LeS.d (by first | exact LeD.p rfl | fail) | fail) ?_)); (first | exact LeT.nil | fail), by (try dsimp only); (repeat (first | exact LeO.nil | refine LeO.bx rfl rfl (by repeat (first | exact LeL.nil | refine LeL.cons (by first | exact LeD.u rfl | exact LeD.ow rfl (by simp [hmap2, hat1, hlen2, bump, hk]; done) | exact LeD.mp rfl | fail) ?_)) ?_ | refine LeO.ar rfl rfl (by first | rfl | (simp [hmap2, hat1, hlen2, bump, hk]; done) | fail) ?_ | refine LeO.ab rfl rfl (by repeat (first | exact LeL.nil | refine LeL.cons (by first | exact LeD.p rfl | fail) ?_)) (by first | rfl | fail) ?_ | refine LeO.mp rfl rfl (by first | (simp [hmap2, hat1, hlen2, bump, hk]; done) | fail) ?_ | fail)); done⟩ (by trivial)) | refine Gs.id ?_ | refine Rng.mk (by (try simp only [smT]); omega) ?_ | refine Ixo.mk ⟨_, rfl, (by (try simp only [smT]); omega), ?_⟩ | refine Drw.of (T := tt) (i := 14) [18] [] [(0, true), (1, true), (2, true), (3, true), (4, true), (5, true), (6, true), (7, true), (8, true), (9, true), (10, true), (11, true), (12, true), (13, true), (14, true), (15, true), (16, true), (17, false), (18, false)] (by kernel_rfl) ?_ | fail)
      · intro _ _
        dsimp only
        rcases List.eq_nil_or_concat s with rfl | ⟨L, tp, rfl⟩
        · simp only [List.getLast?_nil]
          repeat' ((conv => whnf); first | refine Gs.id ?_ | with_reducible refine Brn.T rfl ?_ | (refine Bnd.mk (fun hm => ?_); (try simp only [smT] at hm)) | refine Rng.mk (by (try simp only [smT]); omega) ?_ | fail)
          all_goals (conv => whnf)
          all_goals exact ⟨[(902, .k 902), (5, .k 5), (7, .k 7), (8, .k 8), (9, .k 9), (903, .k 903), (901, .k 901)], (by repeat (first | exact LeO.nil | refine LeO.bx rfl rfl (by repeat (first | exact LeL.nil | refine LeL.cons (by first | exact LeD.u rfl | exact LeD.ow rfl rfl | exact LeD.mp rfl | fail) ?_)) ?_ | refine LeO.ar rfl rfl (by first | rfl | fail) ?_ | refine LeO.ab rfl rfl (by repeat (first | exact LeL.nil | refine LeL.cons (by first | exact LeD.p rfl | fail) ?_)) (by first | rfl | fail) ?_ | refine LeO.mp rfl rfl (by first | rfl | fail) ?_ | fail))⟩
        · rw [List.concat_eq_append] at *
          have hmem : ∀ b ∈ L ++ [tp], b.fu ∈ out2.map Co.fu := fun b hb => by rw [hfu1]; exact hmem0 b hb
          have hlast : (L ++ [tp]).getLast? = some tp := by simp
          have htop := hmem tp (by simp)
          rw [hlast]
          dsimp only
          have hslt := hslen0
          generalize hs : L ++ [tp] = s at *
          have hslen : ((s.length : Nat) : Int) = (L.length : Int) + 1 := by rw [← hs]; simp
          have hgetS : (s.map acR)[L.length]? = some (acR tp) := by rw [← hs]; simp
          obtain ⟨j, c2, j1, j2, j3⟩ := fidx_some htop
          have hok2 : ∀ e ∈ atE 0 out2, keyS tt (.st kFs) e.1 = true := atE_ok
          have mt : mgetT (atE 0 out2) [.str tp.md, .str tp.fn] [.int .i64 0] = _ ∧ mhasT (atE 0 out2) [.str tp.md, .str tp.fn] = _ := atE_get (l := out2) (f := tp.fu) (n := 0) [.int .i64 0]
          rw [j1] at mt
          obtain ⟨mt1, mt2⟩ := mt
          simp only [Nat.zero_add, Option.isSome_some] at mt1 mt2
          have hjl : j < out2.length := (List.getElem?_eq_some_iff.1 j2).1
          have hget2 : (out2.map coR)[j]? = some (coR c2) := by simp [j2]
          have hown := updF_eq (addOwn a) j1 j2
          have hcb2 := hcb1.addOwn ha0 tp.fu
          have hbo := hcb1 c2 (List.mem_of_getElem? j2)
          have hbo1 := hbo.o0
          have hmap3 : (updF (addOwn a) out2 tp.fu).map coR = (out2.map coR).set j (coR (addOwn a c2)) := by rw [hown, List.map_set]
          have hlen3 : (updF (addOwn a) out2 tp.fu).length = out2.length := by rw [hown, List.length_set]
          have hfu3 : (updF (addOwn a) out2 tp.fu).map Co.fu = out2.map Co.fu := updF_fus _ (addOwn_fu a) _ _
          have hat3 := atE_fus (n := 0) hfu3
          clear hown
          have hTI : TI B a [] (updF (addOwn a) out2 tp.fu) := fun c hc => ⟨(hcb2 c hc).t0.1, by have := (hcb2 c hc).t0.2; omega, fun _ => (hcb2 c hc).t0.2⟩
          generalize updF (addOwn a) out2 tp.fu = out3 at *
          repeat' ((conv => whnf); first | refine (Ix.mk ⟨L.length, acR tp, by (first | rfl | (simp; omega)), hgetS, ?_⟩) | refine Mls.of [.int .i64 (j : Int)] true (by kernel_rfl) (by kernel_rfl) hok2 mt1 mt2 ?_ | refine Rw.get hget2 ?_ | refine Gs.id ?_ | refine Brn.F (by (try simp only [smT]); first | rfl | omega | fail) ?_ | (refine Bnd.mk (fun hm => ?_); (try simp only [smT] at hm)) | refine Rng.mk (by (try simp only [smT]); omega) ?_ | refine Ixo.mk ⟨_, rfl, (by (try simp only [smT]); omega), ?_⟩ | refine Raw.makeMap (T := tt) rfl rfl rfl rfl rfl rfl (.inl rfl) rfl rfl ?_ | refine Drw.of (T := tt) (i := 19) [18] [] [(0, true), (1, true), (2, true), (3, true), (4, true), (5, true), (6, true), (7, true), (8, true), (9, true), (10, true), (11, true), (12, true), (13, true), (14, true), (15, true), (16, true), (17, true), (18, false)] (by kernel_rfl) ?_ | fail)
          all_goals (conv => whnf)
          refine ⟨⟨Nat × List Fu × List Co, fun q => q.1 ≤ s.length ∧ totM a [] s out3 = totM a q.2.1 (s.drop q.1) q.2.2 ∧ q.2.2.map Co.fu = out3.map Co.fu ∧ TI B a q.2.1 q.2.2, fun q => s.length - q.1, fun q => ⟨[(7, .d (.p 7 0)), (8, .d (.p 8 0)), (9, .d (.p 9 0)), (10, .d (.p 10 0)), (15, .d (.mp 904)), (115, .d (.u (.sl 3 (s.map acR)))), (116, di s.length), (117, di q.1)], (902, .ab [.p 5 0, .p 7 0, .p 8 0, .p 9 0] us zb (· = [])) :: (10, .bx 81 (e.ds ++ [.u (.int .i64 a), .u (.sl 3 (s.map acR))])) :: (904, .mp true false (seenE q.2.1)) :: coOb ⟨q.2.2, x.rest⟩⟩, (0, [], out3), ⟨Nat.zero_le _, rfl, rfl, hTI⟩, ⟨[(902, .k 902), (5, .k 5), (7, .k 7), (8, .k 8), (9, .k 9), (10, .k 10), (903, .k 903), (904, .k 113), (901, .k 901)], ⟨by (try dsimp only); (repeat (refine LeT.cons rfl (by first | exact LeS.d (by first | exact LeD.u rfl | exact LeD.p rfl | exact LeD.u (by simp [hmap3, hat3, hlen3, addOwn, seenE]; done) | exact LeD.mp rfl | fail) | fail) ?_)); exact LeT.nil, by (try dsimp only); repeat (first | exact LeO.nil | refine LeO.bx rfl rfl (by repeat (first | exact LeL.nil | refine LeL.cons (by first | exact LeD.u rfl | exact LeD.ow rfl (by simp [hmap3, hat3, hlen3, addOwn, seenE]) | exact LeD.mp rfl | fail) ?_)) ?_ | refine LeO.ar rfl rfl (by first | rfl | simp [hmap3, hat3, hlen3, addOwn, seenE]) ?_ | refine LeO.ab rfl rfl (by repeat (first | exact LeL.nil | refine LeL.cons (by first | exact LeD.p rfl | fail) ?_)) (by first | rfl | fail) ?_ | refine LeO.mp rfl rfl (by first | rfl | simp [hmap3, hat3, hlen3, addOwn, seenE]) ?_ | fail)⟩⟩, fun q hq => ?_⟩⟩
          obtain ⟨q, seen, out⟩ := q
          obtain ⟨hq1, hq2, hq3, hq4⟩ := hq
          dsimp only at hq1 hq2 hq3 hq4 ⊢
          clear mt1 mt2 hget2 hgetS hok2
          by_cases h9 : q < s.length
          · obtain ⟨y, hy⟩ : ∃ y, s[q]? = some y := ⟨_, List.getElem?_eq_getElem h9⟩
            have hyg : s[q] = y := by have := List.getElem?_eq_getElem h9; rw [hy] at this; injection this with this; exact this.symm
            rw [List.drop_eq_getElem_cons h9, hyg, totM] at hq2
            have hgetQ : (s.map acR)[q]? = some (acR y) := by rw [List.getElem?_map, hy]; rfl
            have ms : mgetT (seenE seen) [.str y.md, .str y.fn] [.bool false] = [.bool (decide (y.fu ∈ seen))] := seenE_get (f := y.fu)
            have hokE : ∀ e ∈ seenE seen, keyS tt (.st kFs) e.1 = true := seenE_ok seen
            have hokE2 : ∀ e ∈ seenE seen, keyFs tt kFs 0 e.1 = true := seenE_ok seen
            by_cases hsn : y.fu ∈ seen
            · rw [if_pos hsn] at hq2
              rw [decide_eq_true hsn] at ms
              repeat' ((conv => whnf); first | refine (Ix.mk ⟨q, acR y, rfl, hgetQ, ?_⟩) | refine Mls.of [.bool true] _ (by kernel_rfl) (by kernel_rfl) hokE ms rfl ?_ | refine Gs.id ?_ | with_reducible refine Brn.F rfl ?_ | refine Brn.T (by (try simp only [smT]); first | rfl | omega | fail) ?_ | refine Rng.mk (by (try simp only [smT]); omega) ?_ | fail)
              all_goals (conv => whnf)
              all_goals exact ⟨(q + 1, seen, out), ⟨by dsimp only; omega, hq2, hq3, hq4⟩, by dsimp only; omega, [(902, .k 902), (5, .k 5), (7, .k 7), (8, .k 8), (9, .k 9), (10, .k 10), (903, .k 903), (904, .k 904), (901, .k 901)], ⟨by (try dsimp only); (repeat (refine LeT.cons rfl (by first | exact LeS.d (by first | exact LeD.u rfl | exact LeD.p rfl | exact LeD.mp rfl | fail) | fail) ?_)); exact LeT.nil, by (try dsimp only); repeat (first | exact LeO.nil | refine LeO.bx rfl rfl (by repeat (first | exact LeL.nil | refine LeL.cons (by first | exact LeD.u rfl | exact LeD.ow rfl rfl | exact LeD.mp rfl | fail) ?_)) ?_ | refine LeO.ar rfl rfl (by first | rfl | fail) ?_ | refine LeO.ab rfl rfl (by repeat (first | exact LeL.nil | refine LeL.cons (by first | exact LeD.p rfl | fail) ?_)) (by first | rfl | fail) ?_ | refine LeO.mp rfl rfl (by first | rfl | fail) ?_ | fail)⟩⟩
            · rw [if_neg hsn] at hq2
              rw [decide_eq_false hsn] at ms
              have hym := hmem y (List.mem_of_getElem? hy)
              rw [← hfu3, ← hq3] at hym
              obtain ⟨k3, c3, r1, r2, r3⟩ := fidx_some hym
              have hok3 : ∀ e ∈ atE 0 out, keyS tt (.st kFs) e.1 = true := atE_ok
              have mt : mgetT (atE 0 out) [.str y.md, .str y.fn] [.int .i64 0] = _ ∧ mhasT (atE 0 out) [.str y.md, .str y.fn] = _ := atE_get (l := out) (f := y.fu) (n := 0) [.int .i64 0]
              rw [r1] at mt
              obtain ⟨mt1, mt2⟩ := mt
              simp only [Nat.zero_add, Option.isSome_some] at mt1 mt2
              have hkl3 : k3 < out.length := (List.getElem?_eq_some_iff.1 r2).1
              have hget3 : (out.map coR)[k3]? = some (coR c3) := by simp [r2]
              have htot := updF_eq (addTot a) r1 r2
              obtain ⟨z1, _, z2⟩ := hq4 c3 (List.mem_of_getElem? r2)
              have z3 := z2 (by rw [r3]; exact hsn)
              have hmap4 : (updF (addTot a) out y.fu).map coR = (out.map coR).set k3 (coR (addTot a c3)) := by rw [htot, List.map_set]
              have hlen4 : (updF (addTot a) out y.fu).length = out.length := by rw [htot, List.length_set]
              have hfu4 : (updF (addTot a) out y.fu).map Co.fu = out.map Co.fu := updF_fus _ (addTot_fu a) _ _
              have hat4 := atE_fus (n := 0) hfu4
              have hsp := seenE_put hsn
              have hsp2 : mputT (seenE seen) [.str y.md, .str y.fn] [.bool true] = seenE (seen ++ [y.fu]) := hsp
              have hTI4 := hq4.step ha0 hsn
              clear htot hsp
              generalize updF (addTot a) out y.fu = out4 at *
              repeat' ((conv => whnf); first | refine (Ix.mk ⟨q, acR y, rfl, hgetQ, ?_⟩) | refine Mls.of [.bool false] _ (by kernel_rfl) (by kernel_rfl) hokE ms rfl ?_ | refine Mls.of [.int .i64 (k3 : Int)] true (by kernel_rfl) (by kernel_rfl) hok3 mt1 mt2 ?_ | refine Rw.get hget3 ?_ | refine Gs.id ?_ | with_reducible refine Brn.T rfl ?_ | refine Brn.T (by (try simp only [smT]); first | rfl | omega | fail) ?_ | refine Rng.mk (by (try simp only [smT]); omega) ?_ | refine Ixo.mk ⟨_, rfl, (by (try simp only [smT]); omega), ?_⟩ | refine Raw.mapUpdateS (T := tt) (.inl rfl) rfl rfl rfl rfl rfl rfl rfl rfl rfl rfl rfl rfl rfl (by kernel_rfl) (by assumption) ?_ | refine Drw.of (T := tt) (i := 26) [13] [] [(0, true), (1, true), (2, true), (3, true), (4, true), (5, true), (6, true), (7, true), (8, true), (9, true), (10, true), (11, true), (12, true), (13, false)] (by kernel_rfl) ?_)
              all_goals (conv => whnf)
              all_goals exact ⟨(q + 1, seen ++ [y.fu], out4), ⟨by dsimp only; omega, hq2, by dsimp only; rw [hfu4, hq3], hTI4⟩, by dsimp only; omega, [(902, .k 902), (5, .k 5), (7, .k 7), (8, .k 8), (9, .k 9), (10, .k 10), (903, .k 903), (904, .k 904), (901, .k 901)], ⟨by (try dsimp only); (repeat (refine LeT.cons rfl (by first | exact LeS.d (by first | exact LeD.u rfl | exact LeD.p rfl | exact LeD.mp rfl | fail) | fail) ?_)); exact LeT.nil, by (try dsimp only); repeat (first | exact LeO.nil | refine LeO.bx rfl rfl (by repeat (first | exact LeL.nil | refine LeL.cons (by first | exact LeD.u rfl | exact LeD.ow rfl (by simp [hmap4, hat4, hlen4, addTot, hsp2]) | exact LeD.mp rfl | fail) ?_)) ?_ | refine LeO.ar rfl rfl (by first | rfl | simp [hmap4, hat4, hlen4, addTot, hsp2]) ?_ | refine LeO.ab rfl rfl (by repeat (first | exact LeL.nil | refine LeL.cons (by first | exact LeD.p rfl | fail) ?_)) (by first | rfl | fail) ?_ | refine LeO.mp rfl rfl (by first | simp [hmap4, hat4, hlen4, addTot, hsp2]) ?_ | fail)⟩⟩
          · obtain rfl : q = s.length := by omega
            rw [List.drop_length, totM] at hq2
            rw [hq2]
            repeat' ((conv => whnf); first | refine Gs.id ?_ | refine Brn.F (by (try simp only [smT]); first | rfl | omega | fail) ?_ | fail)
            all_goals (conv => whnf)
            all_goals exact ⟨[(902, .k 902), (5, .k 5), (7, .k 7), (8, .k 8), (9, .k 9), (903, .k 903), (901, .k 901)], (by repeat (first | exact LeO.nil | refine LeO.bx rfl rfl (by repeat (first | exact LeL.nil | refine LeL.cons (by first | exact LeD.u rfl | exact LeD.ow rfl rfl | exact LeD.mp rfl | fail) ?_)) ?_ | refine LeO.ar rfl rfl (by first | rfl | fail) ?_ | refine LeO.ab rfl rfl (by repeat (first | exact LeL.nil | refine LeL.cons (by first | exact LeD.p rfl | fail) ?_)) (by first | rfl | fail) ?_ | refine LeO.mp rfl rfl (by first | rfl | fail) ?_ | fail))⟩
  · intro lp zb φ hY
    exact (steps_T t lp zb φ fun i e he => hY i _ (by have := (List.getElem?_eq_some_iff.1 he).1; omega) ⟨e, he, rfl⟩).mono fun s ob h => ⟨l.length, Nat.le_refl _, rfl, h⟩
  · rintro i hi rfl D
    have hlen := costs_len (l := l) (fuel := fuel) l.length
    have hl := t.len
    unfold costsM
    dsimp only
    generalize costsAt l fuel l.length = x at *
    by_cases h0 : 0 < x.rest
    · rw [if_pos h0]
      repeat' ((conv => whnf); first | refine Gs.id ?_ | refine Brn.T (by (try simp only [smT]); first | rfl | assumption | fail) ?_ | refine Apd.mk (by first | rfl | simp) (by first | rfl | fail) (by (try simp only [smT]); first | omega | fail) (by unfold maxLen; first | (simp; omega) | fail) ?_ | fail)
      all_goals (conv => whnf)
      all_goals refine RetO.mk ⟨[(901, .k 150)], _, _, (by exact LeS.ts (by repeat (first | exact LeCs.nil | refine LeCs.cons (by first | exact LeC.d (by first | exact LeD.ow rfl (by simp) | fail) | exact LeC.a (by repeat (first | exact LeL.nil | refine LeL.cons (by first | exact LeD.u rfl | fail) ?_))) ?_))), (by repeat (first | exact LeO.nil | refine LeO.ar rfl rfl (by first | simp) ?_ | fail)), rfl, rfl⟩
    · rw [if_neg h0]
      repeat' ((conv => whnf); first | refine Gs.id ?_ | refine Brn.F (by (try simp only [smT]); first | rfl | omega | fail) ?_ | fail)
      all_goals (conv => whnf)
      all_goals refine RetO.mk ⟨[(901, .k 901)], _, _, (by exact LeS.ts (by repeat (first | exact LeCs.nil | refine LeCs.cons (by first | exact LeC.d (by first | exact LeD.ow rfl rfl | fail) | exact LeC.a (by repeat (first | exact LeL.nil | refine LeL.cons (by first | exact LeD.u rfl | fail) ?_))) ?_))), (by repeat (first | exact LeO.nil | refine LeO.ar rfl rfl (by first | rfl | fail) ?_ | fail)), rfl, rfl⟩
end Go.Proofs.YtabmcfnefjipbaaGreatDoor
namespace Go.Proofs.YtabmcfnefjipbaaGreatDoor
open Go.RowKit
section
variable {α κ : Type} [DecidableEq κ] {key : α → κ}
/-- Where the key stands. -/
def kidx (key : α → κ) : List α → κ → Option Nat
  | [], _ => none
  | c :: r, f => if key c = f then some 0 else (kidx key r f).map (· + 1)
/-- What stands at the key is changed. -/
def updK (key : α → κ) (g : α → α) : List α → κ → List α
  | [], _ => []
  | c :: r, f => if key c = f then g c :: r else c :: updK key g r f
/-- The key is there. -/
def ensK (key : α → κ) (mk : κ → α) (l : List α) (f : κ) : List α := if f ∈ l.map key then l else l ++ [mk f]
theorem kidx_get : ∀ {l : List α} {f : κ} {k : Nat}, kidx key l f = some k → ∃ c, l[k]? = some c ∧ key c = f
  | [], f, k, h => by simp [kidx] at h
  | c :: r, f, k, h => by
    rw [kidx] at h
    split at h
    · rename_i hc
      injection h with h; subst h
      exact ⟨c, rfl, hc⟩
    · cases hr : kidx key r f with
      | none => simp [hr] at h
      | some j =>
        simp only [hr, Option.map_some, Option.some.injEq] at h
        subst h
        obtain ⟨c', h1, h2⟩ := kidx_get hr
        exact ⟨c', by simpa using h1, h2⟩
theorem kidx_none : ∀ {l : List α} {f : κ}, kidx key l f = none ↔ f ∉ l.map key
  | [], f => by simp [kidx]
  | c :: r, f => by
    have ih := kidx_none (l := r) (f := f)
    rw [kidx]
    split
    · rename_i hc; subst hc; simp
    · rename_i hc
      rw [Option.map_eq_none_iff, ih]
      simp only [List.map_cons, List.mem_cons, not_or]
      exact ⟨fun h => ⟨fun e => hc e.symm, h⟩, fun h => h.2⟩
theorem kidx_some {l : List α} {f : κ} (h : f ∈ l.map key) : ∃ k c, kidx key l f = some k ∧ l[k]? = some c ∧ key c = f := by
  cases hk : kidx key l f with
  | none => exact absurd h (kidx_none.1 hk)
  | some k => obtain ⟨c, h1, h2⟩ := kidx_get hk; exact ⟨k, c, rfl, h1, h2⟩
theorem updK_eq (g : α → α) : ∀ {l : List α} {f : κ} {k : Nat} {c : α}, kidx key l f = some k → l[k]? = some c → updK key g l f = l.set k (g c)
  | [], f, k, c, h, _ => by simp [kidx] at h
  | x :: r, f, k, c, h, hc => by
    rw [kidx] at h
    rw [updK]
    split at h
    · rename_i hx
      injection h with h; subst h
      simp at hc; subst hc
      rw [if_pos hx]; rfl
    · rename_i hx
      rw [if_neg hx]
      cases hr : kidx key r f with
      | none => simp [hr] at h
      | some j =>
        simp only [hr, Option.map_some, Option.some.injEq] at h
        subst h
        rw [updK_eq g hr (by simpa using hc)]; rfl
theorem updK_keys (g : α → α) (hg : ∀ c, key (g c) = key c) : ∀ (l : List α) (f : κ), (updK key g l f).map key = l.map key
  | [], f => rfl
  | c :: r, f => by
    rw [updK]
    split
    · simp [hg]
    · simp [updK_keys g hg r f]
theorem kidx_app {l : List α} {f : κ} {c : α} (h : kidx key l f = none) (hc : key c = f) : kidx key (l ++ [c]) f = some l.length := by
  induction l with
  | nil => simp [kidx, hc]
  | cons x r ih =>
    rw [kidx] at h
    split at h
    · cases h
    · rename_i hx
      have hr : kidx key r f = none := by simpa using h
      rw [List.cons_append, kidx, if_neg hx, ih hr]
      simp
theorem mem_ensK {mk : κ → α} (hm : ∀ f, key (mk f) = f) {l : List α} {f g : κ} : f ∈ (ensK key mk l g).map key ↔ f ∈ l.map key ∨ f = g := by
  unfold ensK
  split
  · rename_i h
    exact ⟨.inl, fun h' => h'.elim id fun e => e ▸ h⟩
  · simp [hm]
theorem mem_updK {g : α → α} : ∀ {l : List α} {f : κ} {x : α}, x ∈ updK key g l f → x ∈ l ∨ ∃ c ∈ l, key c = f ∧ x = g c
  | [], f, x, h => by simp [updK] at h
  | c :: r, f, x, h => by
    rw [updK] at h
    split at h
    · rename_i hc
      rcases List.mem_cons.1 h with rfl | h
      · exact .inr ⟨c, by simp, hc, rfl⟩
      · exact .inl (by simp [h])
    · rcases List.mem_cons.1 h with rfl | h
      · exact .inl (by simp)
      · rcases mem_updK h with h | ⟨c', h1, h2⟩
        · exact .inl (by simp [h])
        · exact .inr ⟨c', by simp [h1], h2⟩
/-- The map from keys to places. -/
def atK (key : α → κ) (enc : κ → List V) (val : Nat → List V) : Nat → List α → List (List V × List V)
  | _, [] => []
  | k, c :: r => (enc (key c), val k) :: atK key enc val (k + 1) r
variable {enc : κ → List V} {val : Nat → List V}
theorem atK_get (he : ∀ a b, eqCs (enc a) (enc b) = decide (b = a)) : ∀ {l : List α} {f : κ} {n : Nat} (z : List V), mgetT (atK key enc val n l) (enc f) z = (match kidx key l f with | some k => val (n + k) | none => z) ∧ mhasT (atK key enc val n l) (enc f) = (kidx key l f).isSome
  | [], f, n, z => ⟨rfl, rfl⟩
  | c :: r, f, n, z => by
    obtain ⟨h1, h2⟩ := atK_get he (l := r) (f := f) (n := n + 1) z
    simp only [atK, mgetT, mhasT, he, kidx]
    by_cases hc : key c = f
    · rw [decide_eq_true hc, if_pos hc]
      simp
    · rw [decide_eq_false hc, if_neg hc]
      simp only [cond_false, h1, h2]
      cases kidx key r f with
      | none => simp
      | some k => simp only [Option.map_some, Option.isSome_some, and_true]; congr 1; omega
theorem atK_put (he : ∀ a b, eqCs (enc a) (enc b) = decide (b = a)) : ∀ {l : List α} {f : κ} {n : Nat} {c : α}, kidx key l f = none → key c = f → mputT (atK key enc val n l) (enc f) (val (n + l.length)) = atK key enc val n (l ++ [c])
  | [], f, n, c, _, hc => by subst hc; rfl
  | x :: r, f, n, c, h, hc => by
    rw [kidx] at h
    split at h
    · cases h
    · rename_i hx
      have hr : kidx key r f = none := by simpa using h
      have ih := atK_put he (n := n + 1) hr hc
      simp only [atK, mputT, he, decide_eq_false hx, cond_false, List.cons_append]
      rw [← ih, List.length_cons, show n + 1 + r.length = n + (r.length + 1) by omega]
omit [DecidableEq κ] in
theorem atK_keys : ∀ {l l' : List α} {n : Nat}, l.map key = l'.map key → atK key enc val n l = atK key enc val n l'
  | [], [], _, _ => rfl
  | [], _ :: _, _, h => by simp at h
  | _ :: _, [], _, h => by simp at h
  | c :: r, c' :: r', n, h => by
    simp only [List.map_cons, List.cons.injEq] at h
    rw [atK, atK, h.1, atK_keys h.2]
omit [DecidableEq κ] in
theorem atK_mem : ∀ {l : List α} {n : Nat}, ∀ e ∈ atK key enc val n l, ∃ (k : Nat) (c : α), l[k]? = some c ∧ e = (enc (key c), val (n + k))
  | [], _, e, h => by simp [atK] at h
  | c :: r, n, e, h => by
    rw [atK] at h
    rcases List.mem_cons.1 h with rfl | h
    · exact ⟨0, c, rfl, rfl⟩
    · obtain ⟨k, c', h1, h2⟩ := atK_mem e h
      exact ⟨k + 1, c', by simpa using h1, by rw [h2, show n + 1 + k = n + (k + 1) by omega]⟩
omit [DecidableEq κ] in
theorem atK_get? : ∀ {l : List α} {n k : Nat}, (atK key enc val n l)[k]? = l[k]?.map fun c => (enc (key c), val (n + k))
  | [], n, k => by simp [atK]
  | c :: r, n, 0 => by simp [atK]
  | c :: r, n, k + 1 => by
    rw [atK, List.getElem?_cons_succ, List.getElem?_cons_succ, atK_get?, show n + 1 + k = n + (k + 1) by omega]
end
end Go.Proofs.YtabmcfnefjipbaaGreatDoor
namespace Go.Proofs.YtabmcfnefjipbaaGreatDoor
open Go.RowKit
structure Lc where
  md : ByteArray
  ln : Int
  ct : Int
  ow : Int
abbrev lcR (c : Lc) : List V := [.str c.md, .int .i64 c.ln, .int .i64 c.ct, .int .i64 c.ow]
def lcE (c : Lc) : List E := [.v (.str c.md), .v (.int .i64 c.ln), .v (.int .i64 c.ct), .v (.int .i64 c.ow)]
abbrev Pl := ByteArray × Int
def Lc.pl (c : Lc) : Pl := (c.md, c.ln)
def zeroL (p : Pl) : Lc := ⟨p.1, p.2, 0, 0⟩
def encP (p : Pl) : List V := [.str p.1, .int .i64 p.2]
def valP (n : Nat) : List V := [.m 905 n 0]
abbrev atL (l : List Lc) : List (List V × List V) := atK Lc.pl encP valP 0 l
theorem encP_eq (a b : Pl) : eqCs (encP a) (encP b) = decide (b = a) := by
  obtain ⟨a1, a2⟩ := a
  obtain ⟨b1, b2⟩ := b
  simp only [encP, eqCs, eqC]
  by_cases h1 : a1 = b1 <;> by_cases h2 : a2 = b2
  · subst h1 h2; simp
  · subst h1; simp [h2, Ne.symm h2, eq_comm]
  · subst h2; simp [h1, eq_comm]
  · simp [h1, h2, eq_comm]
abbrev ensL (out : List Lc) (p : Pl) : List Lc := ensK Lc.pl zeroL out p
abbrev updL (g : Lc → Lc) (out : List Lc) (p : Pl) : List Lc := updK Lc.pl g out p
def incL (c : Lc) : Lc := { c with ct := c.ct + 1 }
def addL (a : Int) (c : Lc) : Lc := { c with ow := c.ow + a }
def Ac.pl (a : Ac) : Pl := (a.md, a.line)
def Ev.pl (e : Ev) : Pl := (e.md, e.line)
/-- One step: the event, its amount, the stack behind it. -/
def stepN (out : List Lc) (e : Ev) (a : Int) (s : List Ac) : List Lc :=
  let out1 := if e.kind = 1 then updL incL (ensL out e.pl) e.pl else out
  match s.getLast? with
  | none => out1
  | some t => if 0 < a then updL (addL a) (ensL out1 t.pl) t.pl else out1
def linesAt (l : List Ev) (fuel : Int) : Nat → List Lc
  | 0 => []
  | i + 1 => match l[i]? with
    | some e => stepN (linesAt l fuel i) e (amt l fuel i) (stackAt l (i + 1))
    | none => linesAt l fuel i
theorem linesAt_succ {l : List Ev} {fuel : Int} {i : Nat} {e : Ev} (h : l[i]? = some e) : linesAt l fuel (i + 1) = stepN (linesAt l fuel i) e (amt l fuel i) (stackAt l (i + 1)) := by rw [linesAt, h]
/-- Bounds. -/
def LB (n B : Int) (out : List Lc) : Prop := ∀ c ∈ out, 0 ≤ c.ct ∧ c.ct ≤ n ∧ 0 ≤ c.ow ∧ c.ow ≤ B
theorem LB.ens {n B : Int} {out : List Lc} (h : LB n B out) (hn : 0 ≤ n) (hB : 0 ≤ B) (p : Pl) : LB n B (ensL out p) := by
  intro c hc
  unfold ensL ensK at hc
  split at hc
  · exact h c hc
  · rcases List.mem_append.1 hc with hc | hc
    · exact h c hc
    · simp at hc; subst hc; exact ⟨Int.le_refl _, hn, Int.le_refl _, hB⟩
theorem LB.inc {n B : Int} {out : List Lc} (h : LB n B out) (p : Pl) : LB (n + 1) B (updL incL out p) := by
  intro c hc
  rcases mem_updK hc with hc | ⟨c', h1, _, rfl⟩
  · have := h c hc; omega
  · have := h c' h1; simp only [incL]; omega
theorem LB.add {n B a : Int} {out : List Lc} (h : LB n B out) (ha : 0 ≤ a) (p : Pl) : LB n (B + a) (updL (addL a) out p) := by
  intro c hc
  rcases mem_updK hc with hc | ⟨c', h1, _, rfl⟩
  · have := h c hc; omega
  · have := h c' h1; simp only [addL]; omega
theorem LB.mono {n m B C : Int} {out : List Lc} (h : LB n B out) (h1 : n ≤ m) (h2 : B ≤ C) : LB m C out := fun c hc => by have := h c hc; omega
theorem LB.step {n B a : Int} {out : List Lc} (h : LB n B out) (hn : 0 ≤ n) (hB : 0 ≤ B) (ha : 0 ≤ a) (e : Ev) (s : List Ac) : LB (n + 1) (B + a) (stepN out e a s) := by
  have h1 : LB (n + 1) B (if e.kind = 1 then updL incL (ensL out e.pl) e.pl else out) := by
    split
    · exact (h.ens hn hB _).inc _
    · exact h.mono (by omega) (Int.le_refl _)
  unfold stepN
  dsimp only
  generalize (if e.kind = 1 then updL incL (ensL out e.pl) e.pl else out) = o1 at *
  split
  · exact h1.mono (Int.le_refl _) (by omega)
  · split
    · exact (h1.ens (by omega) hB _).add ha _
    · exact h1.mono (Int.le_refl _) (by omega)
theorem lines_LB {l : List Ev} {fuel : Int} (t : Tr l fuel) : ∀ i, i ≤ l.length → LB i (curF l fuel i) (linesAt l fuel i)
  | 0, _ => fun c hc => by simp [linesAt] at hc
  | i + 1, hi => by
    have he : l[i]? = some l[i] := List.getElem?_eq_getElem (by omega)
    have ih := lines_LB t i (by omega)
    have hc := t.cur i (by omega)
    rw [linesAt_succ he]
    have := ih.step (by omega) hc.1 (t.amt he) l[i] (stackAt l (i + 1))
    rw [amt_eq he] at this ⊢
    rw [show curF l fuel i + (curF l fuel (i + 1) - curF l fuel i) = curF l fuel (i + 1) by omega] at this
    simpa using this
theorem ensL_len (out : List Lc) (p : Pl) : (ensL out p).length ≤ out.length + 1 := by
  unfold ensL ensK
  split
  · omega
  · simp
theorem updL_len (g : Lc → Lc) (hg : ∀ c, (g c).pl = c.pl) (out : List Lc) (p : Pl) : (updL g out p).length = out.length := by
  have := congrArg List.length (updK_keys (key := Lc.pl) g hg out p)
  simpa using this
theorem lines_len {l : List Ev} {fuel : Int} : ∀ i, (linesAt l fuel i).length ≤ 2 * i
  | 0 => by simp [linesAt]
  | i + 1 => by
    have ih := lines_len (l := l) (fuel := fuel) i
    rw [linesAt]
    split
    · rename_i e he
      have h1 : (if e.kind = 1 then updL incL (ensL (linesAt l fuel i) e.pl) e.pl else linesAt l fuel i).length ≤ (linesAt l fuel i).length + 1 := by
        split
        · rw [updL_len incL (fun _ => rfl)]; exact ensL_len _ _
        · omega
      unfold stepN
      dsimp only
      generalize (if e.kind = 1 then updL incL (ensL (linesAt l fuel i) e.pl) e.pl else linesAt l fuel i) = o1 at *
      split
      · omega
      · split
        · rw [updL_len (addL _) (fun _ => rfl)]
          have := ensL_len o1
          rename_i t _ _
          have := this t.pl
          omega
        · omega
    · omega
abbrev kPs : List (Nat × TypeId) := [(0, 9), (1, 3)]
theorem atL_ok {out : List Lc} : ∀ e ∈ atL out, keyFs tt kPs 0 e.1 = true := by
  intro e h
  obtain ⟨k, c, _, rfl⟩ := atK_mem e h
  rfl
end Go.Proofs.YtabmcfnefjipbaaGreatDoor
namespace Go.Proofs.YtabmcfnefjipbaaGreatDoor
open Go.RowKit
/-- An own map under way. -/
abbrev itOb (zb : Fz) (bm bi : Nat) (arr : Array MapEntry) (clock : Nat) (seen : Array Nat) : Ob := .ab [] [] zb (· = [(bm, ⟨0, [], .x (.map arr clock)⟩), (bi, ⟨0, [], .x (.mapIter (some bm) clock seen clock)⟩)])
/-- What is still to come. -/
structure Left (z : Fz) (kg vg : Bool) (arr : Array MapEntry) (clock : Nat) (seen : Array Nat) (left : List (List V × List V)) : Prop where
  st : Stm arr clock
  ok : EntsOk z kg vg left ((leftOf arr seen).toList.map fun e => (e.key, e.val))
/-- The entry that the last step handed out. -/
structure Cur (z : Fz) (kg vg : Bool) (arr : Array MapEntry) (clock : Nat) (seen : Array Nat) (e : List V × List V) : Prop where
  out : ∃ (x : MapEntry) (s : Array Nat), seen = s.push x.born ∧ x ∈ arr.toList ∧ DenW z kg e.1 x.key ∧ DenW z vg e.2 x.val
/-- A walk stops here. -/
structure Wait (p : Prop) : Prop where
  out : p
def scW (g : Bool) (cs : List V) : SC := match g with
  | true => .a (cs.map .u)
  | false => match cs with
    | [c] => .d (.u c)
    | _ => .d .any
theorem DenW.sc {ρ : Rho} {z : Fz} {g : Bool} {cs : List V} {v : Value} (h : DenW z g cs v) : DenC ρ z (scW g cs) v := by
  cases g with
  | true => obtain ⟨us, rfl, h⟩ := h; exact .a h.up
  | false => obtain ⟨c, rfl, h⟩ := h; exact .d (.u h)
theorem leftOf_toList (arr : Array MapEntry) (seen : Array Nat) : (leftOf arr seen).toList = arr.toList.filter fun e => !seen.contains e.born := by
  unfold leftOf
  rw [Array.toList_filter]
theorem leftOf_push {arr : Array MapEntry} {clock : Nat} {seen : Array Nat} (hs : Stm arr clock) {m1 m2 : List MapEntry} {e : MapEntry} (h : (leftOf arr seen).toList = m1 ++ e :: m2) : (leftOf arr (seen.push e.born)).toList = m1 ++ m2 := by
  have h1 : (leftOf arr (seen.push e.born)).toList = (leftOf arr seen).toList.filter fun x => !(x.born == e.born) := by
    rw [leftOf_toList, leftOf_toList, List.filter_filter]
    refine List.filter_congr fun x _ => ?_
    rw [contains_push]
    cases seen.contains x.born <;> cases (x.born == e.born) <;> rfl
  have hnd : ((m1 ++ e :: m2).map (·.born)).Nodup := by
    rw [← h, leftOf_toList]
    exact hs.nd.sublist (List.filter_sublist.map _)
  rw [h1, h]
  simp only [List.map_append, List.map_cons] at hnd
  rw [List.nodup_append] at hnd
  obtain ⟨_, hnd2, hnd3⟩ := hnd
  rw [List.nodup_cons] at hnd2
  rw [List.filter_append, List.filter_cons]
  simp only [beq_self_eq_true, Bool.not_true, Bool.false_eq_true, if_false]
  congr 1
  · refine List.filter_eq_self.2 fun x hx => ?_
    have := hnd3 x.born (List.mem_map.2 ⟨x, hx, rfl⟩) e.born (by simp)
    simp [this]
  · refine List.filter_eq_self.2 fun x hx => ?_
    have : x.born ≠ e.born := fun h0 => hnd2.1 (List.mem_map.2 ⟨x, hx, h0⟩)
    simp [this]
theorem EntsOk.split {z : Fz} {kg vg : Bool} : ∀ {left : List (List V × List V)} {m1 m2 : List MapEntry} {e : MapEntry}, EntsOk z kg vg left ((m1 ++ e :: m2).map fun e => (e.key, e.val)) → ∃ l1 x l2, left = l1 ++ x :: l2 ∧ DenW z kg x.1 e.key ∧ DenW z vg x.2 e.val ∧ EntsOk z kg vg (l1 ++ l2) ((m1 ++ m2).map fun e => (e.key, e.val))
  | [], m1, m2, e, h => by have := h.len; simp at this
  | x :: left, [], m2, e, h => by
    refine ⟨[], x, left, rfl, (h.den 0 x (e.key, e.val) rfl rfl).1, (h.den 0 x (e.key, e.val) rfl rfl).2, by have := h.len; simpa using this, fun j y p h1 h2 => h.den (j + 1) y p (by simpa using h1) (by simpa using h2)⟩
  | y :: left, m :: m1, m2, e, h => by
    have h' : EntsOk z kg vg left ((m1 ++ e :: m2).map fun e => (e.key, e.val)) := ⟨by have := h.len; simpa using this, fun j y p h1 h2 => h.den (j + 1) y p (by simpa using h1) (by simpa using h2)⟩
    obtain ⟨l1, x, l2, rfl, d1, d2, d3⟩ := h'.split
    refine ⟨y :: l1, x, l2, rfl, d1, d2, by have := d3.len; simpa using this, fun j y' p h1 h2 => ?_⟩
    cases j with
    | zero => exact h.den 0 y' p (by simpa using h1) (by simpa using h2)
    | succ j => exact d3.den j y' p (by simpa using h1) (by simpa using h2)
section
variable {P : Program} {T : List (Nat × Ty)} [hT : Tys P T] {nt : Nt} {Q : Exit → Act → World → Prop} {ty : TypeId} {pos : String} {af : Array Edge} {gd : Option (Nat × Bool)} {K : Kt}
/-- 'range m'. -/
theorem Raw.range {t d k : Nat} {kt et : TypeId} {i : Ty} {x : Operand} {kg vg : Bool} {es : List (List V × List V)} {tmT : List (Nat × SV)} {ob : List (Nat × Ob)} (ht : lk t T = some i) (hk : i.k = .mp kt et) (hx : evT tmT x = some (.d (.mp k))) (hko : lk k ob = some (.mp kg vg es)) (hd : Nat.blt d nt = true)
    (kk : ∀ zb bm bi arr clock, Left zb kg vg arr clock #[] es → K ((d, .d (.u (.v (.pointer (some ⟨bi, 0, none⟩))))) :: tmT) (obu k (itOb zb bm bi arr clock #[]) ob)) : Raw P nt ⟨some d, .range t x, ty, pos, af, gd⟩ tmT ob K := ⟨fun Q c tm h ρ G g => by
  obtain ⟨F, w0, hp⟩ := h
  obtain ⟨vx, x1, x2⟩ := g.ev hx
  cases x2 with | d x2 =>
  obtain ⟨X, f, o1, o2, o3, _⟩ := g.ob.set hko
  obtain ⟨b, ves, rfl, rfl, m1, m2⟩ := o1.map o2 x2
  have hund : P.underlying t = some (.map kt et) := by have := (hT.ok t i ht).kind; rw [hk] at this; exact this
  refine .of_run hd fun a w ha hw => ?_
  obtain ⟨_, arr, clock, q1, q2, q3⟩ := hw.blk b _ m1
  have hw1 : Hp ⟨F, w0, f [(b, ⟨0, [], .x (.map arr clock)⟩)]⟩ w := hw.upd (o2.updB rfl) (Same.refl _ _) ⟨rfl, q1, fun i => by simp [World.frozen?, q1]⟩
  have hw2 : Hp ⟨F, w0, (w.heap.size, ⟨0, [], .x (.mapIter (some b) clock #[] clock)⟩) :: f [(b, ⟨0, [], .x (.map arr clock)⟩)]⟩ (w.alloc (.mapIter (some b) clock #[] clock)) :=
    hw1.add ((Below.refl _ _).alloc (Nat.le_refl _) _) (Nat.le_refl _) ⟨rfl, heap_alloc_new .., fun i => by simp only [World.frozen?]; rw [heap_alloc_new]⟩
  have hw3 : Hp ⟨F, w0, f [(b, ⟨0, [], .x (.map arr clock)⟩), (w.heap.size, ⟨0, [], .x (.mapIter (some b) clock #[] clock)⟩)]⟩ (w.alloc (.mapIter (some b) clock #[] clock)) := hw2.perm (by
    refine ((o2.perm _).cons _).trans (.trans ?_ (o2.perm _).symm)
    exact List.Perm.swap _ _ _)
  have hob := o3 (itOb ⟨G, w0⟩ b w.heap.size arr clock #[]) [(b, ⟨0, [], .x (.map arr clock)⟩), (w.heap.size, ⟨0, [], .x (.mapIter (some b) clock #[] clock)⟩)] ⟨rfl, Mz.refl, rfl, rfl, fun _ _ _ h => by simp at h⟩
  have hg : Gd c ⟨tmT, obu k (itOb ⟨G, w0⟩ b w.heap.size arr clock #[]) ob⟩ tm ⟨F, w0, f [(b, ⟨0, [], .x (.map arr clock)⟩), (w.heap.size, ⟨0, [], .x (.mapIter (some b) clock #[] clock)⟩)]⟩ ρ G := ⟨g.fF, g.fw, g.gF, g.gx, g.fm, g.tm, hob⟩
  refine ⟨_, _, _, ?_, hw3, .of (hg.put (d := d) (s := .d (.u (.v (.pointer (some ⟨w.heap.size, 0, none⟩))))) (.d (.u (.v rfl)))) (kk _ _ _ _ _ ⟨q3, ?_⟩)⟩
  · simp only [execOp, Sem.run_bind, ha.ev x1, run_range_map w t kt et b arr clock hund q1, Result.andThen]
    rfl
  · have : (leftOf arr #[]).toList = arr.toList := by rw [leftOf_toList]; simp
    rw [this, q2]
    exact m2⟩
/-- The step. -/
theorem Raw.next {d k bm bi clock : Nat} {zb : Fz} {arr : Array MapEntry} {seen : Array Nat} {x : Operand} {kg vg : Bool} {left : List (List V × List V)} {tmT : List (Nat × SV)} {ob : List (Nat × Ob)} (hL : Left zb kg vg arr clock seen left) (hx : evT tmT x = some (.d (.u (.v (.pointer (some ⟨bi, 0, none⟩)))))) (hko : lk k ob = some (itOb zb bm bi arr clock seen)) (hd : Nat.blt d nt = true)
    (k0 : left = [] → Wait (K ((d, .t [.d (.u (.bool false))]) :: tmT) ob))
    (k1 : ∀ l1 e l2 s, left = l1 ++ e :: l2 → Cur zb kg vg arr clock s e → Left zb kg vg arr clock s (l1 ++ l2) → Wait (K ((d, .t [.d (.u (.bool true)), scW kg e.1, scW vg e.2]) :: tmT) (obu k (itOb zb bm bi arr clock s) ob))) : Raw P nt ⟨some d, .next x false, ty, pos, af, gd⟩ tmT ob K := ⟨fun Q c tm h ρ G g => by
  obtain ⟨F, w0, hp⟩ := h
  obtain ⟨vx, x1, x2⟩ := g.ev hx
  cases x2 with | d x2 => cases x2 with | u x2 =>
  cases x2
  obtain ⟨X, f, ⟨rfl, hmz, hdl⟩, o2, o3, _⟩ := g.ob.set hko
  refine .of_run hd fun a w ha hw => ?_
  have hm1 := o2.mem (p := (bm, ⟨0, [], .x (.map arr clock)⟩)) (by simp)
  have hm2 := o2.mem (p := (bi, ⟨0, [], .x (.mapIter (some bm) clock seen clock)⟩)) (by simp)
  obtain ⟨_, q1, _⟩ := hw.blk _ _ hm1
  obtain ⟨_, r1, _⟩ := hw.blk _ _ hm2
  rcases run_next_at (P := P) w ty bi bm clock clock seen arr clock r1 q1 (fun x hx => hL.st.lt _ (List.mem_map.2 ⟨x, hx, rfl⟩)) (Nat.le_refl _) with ⟨h0, hrun⟩ | ⟨e, he, w1, hw1, hrun⟩
  · refine ⟨_, w, _, ?_, hw, .of (Gd.put (d := d) (st := ⟨tmT, ob⟩) g (.t (ss := [.d (.u (.bool false))]) (vs := [.bool false]) rfl fun j s v e1 e2 => ?_)) (k0 ?_).out⟩
    · simp only [execOp, Sem.run_bind, ha.ev x1, hrun, Result.andThen]
      rfl
    · cases j with
      | zero => simp at e1 e2; subst e1 e2; exact .d (.u (.bool _))
      | succ j => simp at e1
    · have := hL.ok.len
      rw [List.length_map, Array.length_toList, h0] at this
      exact List.length_eq_zero_iff.1 this.symm
  · obtain ⟨m1, m2, hm⟩ := List.append_of_mem he
    have hok := hL.ok
    rw [hm] at hok
    obtain ⟨l1, y, l2, rfl, d1, d2, d3⟩ := hok.split
    have hL' : Left zb kg vg arr clock (seen.push e.born) (l1 ++ l2) := ⟨hL.st, by rw [leftOf_push hL.st hm]; exact d3⟩
    have hww : Same (fun _ => True) w w1 := by
      rcases hw1 with rfl | rfl
      · exact .refl _ _
      · exact ⟨rfl, rfl, rfl, Nat.le_refl _, fun _ _ => rfl⟩
    have hr1 : w1.heap[bi]? = some (.mapIter (some bm) clock seen clock) := (hww.block _ trivial).trans r1
    have hset := MapKept.heap_set (o' := .mapIter (some bm) clock (seen.push e.born) clock) hr1
    have hsame : Same (· ≠ bi) w (ChangeMaps.setBlock w1 bi (.mapIter (some bm) clock (seen.push e.born) clock)) := (hww.mono fun _ _ => trivial).trans ⟨rfl, rfl, rfl, by simp [ChangeMaps.setBlock], fun j hj => hset.2 j fun e => hj e⟩
    have hperm := o2.perm [(bm, ⟨0, [], .x (.map arr clock)⟩), (bi, ⟨0, [], .x (.mapIter (some bm) clock seen clock)⟩)]
    rw [o2.eq] at hperm
    have hw' : Hp ⟨F, w0, (bm, ⟨0, [], .x (.map arr clock)⟩) :: (bi, ⟨0, [], .x (.mapIter (some bm) clock (seen.push e.born) clock)⟩) :: f []⟩ (ChangeMaps.setBlock w1 bi (.mapIter (some bm) clock (seen.push e.born) clock)) :=
      (hw.perm hperm).upd (.there .here) hsame ⟨rfl, hset.1, fun i => by have e : (ChangeMaps.setBlock w1 bi (Obj.mapIter (some bm) clock (seen.push e.born) clock)).heap[bi]? = _ := hset.1; simp only [World.frozen?]; rw [e]⟩
    have hw'' := hw'.perm (hp' := f [(bm, ⟨0, [], .x (.map arr clock)⟩), (bi, ⟨0, [], .x (.mapIter (some bm) clock (seen.push e.born) clock)⟩)]) (o2.perm [(bm, ⟨0, [], .x (.map arr clock)⟩), (bi, ⟨0, [], .x (.mapIter (some bm) clock (seen.push e.born) clock)⟩)]).symm
    have hob := o3 (itOb zb bm bi arr clock (seen.push e.born)) [(bm, ⟨0, [], .x (.map arr clock)⟩), (bi, ⟨0, [], .x (.mapIter (some bm) clock (seen.push e.born) clock)⟩)] ⟨rfl, hmz, hdl⟩
    have hg : Gd c ⟨tmT, obu k (itOb zb bm bi arr clock (seen.push e.born)) ob⟩ tm ⟨F, w0, f [(bm, ⟨0, [], .x (.map arr clock)⟩), (bi, ⟨0, [], .x (.mapIter (some bm) clock (seen.push e.born) clock)⟩)]⟩ ρ G := ⟨g.fF, g.fw, g.gF, g.gx, g.fm, g.tm, hob⟩
    refine ⟨_, _, _, ?_, hw'', .of (hg.put (d := d) (.t (ss := [.d (.u (.bool true)), scW kg y.1, scW vg y.2]) (vs := [.bool true, e.key, e.val]) rfl fun j s v e1 e2 => ?_)) (k1 l1 y l2 _ rfl ⟨e, seen, rfl, (mem_left he).1, d1, d2⟩ hL').out⟩
    · simp only [execOp, Sem.run_bind, ha.ev x1, hrun, Result.andThen]
      rfl
    · rcases j with _ | _ | _ | j
      · simp at e1 e2; subst e1 e2; exact .d (.u (.bool _))
      · simp at e1 e2; subst e1 e2; exact (d1.mono hmz).sc
      · simp at e1 e2; subst e1 e2; exact (d2.mono hmz).sc
      · simp at e1⟩
/-- The entry, behind the step. -/
theorem Raw.entry {d k bm bi clock : Nat} {zb : Fz} {arr : Array MapEntry} {seen : Array Nat} {x : Operand} {kg vg : Bool} {left : List (List V × List V)} {e : List V × List V} {tmT : List (Nat × SV)} {ob : List (Nat × Ob)} (hL : Left zb kg vg arr clock seen left) (hC : Cur zb kg vg arr clock seen e) (hx : evT tmT x = some (.d (.u (.v (.pointer (some ⟨bi, 0, none⟩)))))) (hko : lk k ob = some (itOb zb bm bi arr clock seen)) (hd : Nat.blt d nt = true)
    (kk : K ((d, .t [scW kg e.1, scW vg e.2]) :: tmT) ob) : Raw P nt ⟨some d, .entry x, ty, pos, af, gd⟩ tmT ob K := ⟨fun Q c tm h ρ G g => by
  obtain ⟨F, w0, hp⟩ := h
  obtain ⟨vx, x1, x2⟩ := g.ev hx
  cases x2 with | d x2 => cases x2 with | u x2 =>
  cases x2
  obtain ⟨X, f, ⟨rfl, hmz, hdl⟩, o2, o3, _⟩ := g.ob.set hko
  obtain ⟨y, s, rfl, hy, d1, d2⟩ := hC.out
  refine .of_run hd fun a w ha hw => ?_
  have hm1 := o2.mem (p := (bm, ⟨0, [], .x (.map arr clock)⟩)) (by simp)
  have hm2 := o2.mem (p := (bi, ⟨0, [], .x (.mapIter (some bm) clock (s.push y.born) clock)⟩)) (by simp)
  obtain ⟨_, q1, _⟩ := hw.blk _ _ hm1
  obtain ⟨_, r1, _⟩ := hw.blk _ _ hm2
  have hrun := run_entry_at (P := P) w bi bm clock s arr clock y r1 q1 hy hL.st.nd
  refine ⟨_, w, _, ?_, hw, .of (Gd.put (d := d) (st := ⟨tmT, ob⟩) g (.t (ss := [scW kg e.1, scW vg e.2]) (vs := [y.key, y.val]) rfl fun j s v e1 e2 => ?_)) kk⟩
  · simp only [execOp, Sem.run_bind, ha.ev x1, hrun, Result.andThen]
    rfl
  · rcases j with _ | _ | j
    · simp at e1 e2; subst e1 e2; exact (d1.mono hmz).sc
    · simp at e1 e2; subst e1 e2; exact (d2.mono hmz).sc
    · simp at e1⟩
end
end Go.Proofs.YtabmcfnefjipbaaGreatDoor
namespace Go.Proofs.YtabmcfnefjipbaaGreatDoor
open Go.RowKit
theorem mem_inN : ∀ {ks : List Nat} {k : Nat}, inN ks k = true → k ∈ ks
  | [], k, h => by cases h
  | j :: r, k, h => by
    simp only [inN] at h
    cases hb : Nat.beq k j
    · rw [hb] at h; exact List.mem_cons_of_mem _ (mem_inN h)
    · rw [Nat.eq_of_beq_eq_true hb]; exact List.mem_cons_self
/-- No object has one of these names. -/
def noKey (ks : List Nat) : List (Nat × Ob) → Bool
  | [] => true
  | (k, _) :: r => bif inN ks k then false else noKey ks r
theorem noKey_mem {ks : List Nat} : ∀ {ob : List (Nat × Ob)}, noKey ks ob = true → ∀ k o, (k, o) ∈ ob → inN ks k = false
  | [], _, k, o, hm => by cases hm
  | (j, x) :: r, h, k, o, hm => by
    simp only [noKey] at h
    cases hj : inN ks j <;> rw [hj] at h
    · rcases List.mem_cons.1 hm with hm | hm
      · cases hm; exact hj
      · exact noKey_mem h k o hm
    · cases h
/-- A contract behind which the objects ks lie where they lay. -/
structure CallsP (P : Program) (f : FuncId) (ss : List SV) (ob : List (Nat × Ob)) (ks : List Nat) (Q : SV → List (Nat × Ob) → Prop) : Prop where
  fn : FnOk P f
  out : ∀ (c : Cx) (ρ : Rho) (hp : List (Nat × Hb)) (vs : List Value) (w : World), Hp ⟨c.F, c.w, hp⟩ w → vs.length = ss.length → Gd c ⟨slT 0 ss, ob⟩ (slots 0 vs) ⟨c.F, c.w, hp⟩ ρ c.G →
    Calls P f vs.toArray w fun e w' => ∃ v h' s ob' ρ' G', e = .returned v ∧ Hp h' w' ∧ Gd c ⟨[(0, s)], ob'⟩ [(0, v)] h' ρ' G' ∧ Q s ob' ∧ ∀ k, inN ks k = true → ρ' k = ρ k ∧ ρ'.os k = ρ.os k
structure BkP (d : Option Tmp) (ns ks : List Nat) (tmK : List (Nat × SV)) (obF : List (Nat × Ob)) (K : Kt) (s : SV) (ob' : List (Nat × Ob)) : Prop where
  a : s.okP (fun k => bif inN ns k then true else inN ks k) = true
  b : okO (fun k => bif inN ns k then true else inN ks k) ob' = true
  k : K (match d with | some d => (d, s) :: tmK | none => tmK) (ob' ++ obF)
/-- Nothing in it hangs on arrays that cells own. -/
def norD : D → Bool
  | .r _ _ _ _ _ => false
  | .re _ _ _ _ _ => false
  | _ => true
def NorS : SV → Prop
  | .d x => norD x = true
  | .a xs => ∀ x ∈ xs, norD x = true
  | .t _ => False
def NorO : Ob → Prop
  | .bx _ cs => ∀ x ∈ cs, norD x = true
  | .ar _ _ _ => True
  | .fm _ rs => ∀ row ∈ rs, ∀ e ∈ row, ∃ x, e = .v x
  | .mp _ _ _ => True
  | .fa _ _ _ => False
  | .ab _ _ _ _ => False
section
variable {ρ ρ' : Rho} {z : Fz}
theorem Den.nor (e : ∀ k, ρ' k = ρ k) {d : D} {v : Value} (hd : norD d = true) (h : Den ρ z d v) : Den ρ' z d v := by
  cases h with
  | u h => exact .u h
  | ow h hA hc => exact .ow (by rw [e]; exact h) hA hc
  | p h => exact .p (by rw [e]; exact h)
  | e h => exact .e (by rw [e]; exact h)
  | q hb hu hd' => exact .q hb hu hd'
  | fn us hl hu =>
    refine .fn us hl fun j i u h1 h2 => ?_
    obtain ⟨b, c, sz, h3, h4⟩ := hu j i u h1 h2
    exact ⟨b, c, sz, by rw [e]; exact h3, h4⟩
  | mp h hA => exact .mp (by rw [e]; exact h) hA
  | r => cases hd
  | re => cases hd
  | ows h hc => exact .ows (by rw [e]; exact h) hc
  | any h1 => exact .any h1
theorem DenL.nor (e : ∀ k, ρ' k = ρ k) {cs : List D} {us : List Value} (hd : ∀ x ∈ cs, norD x = true) (h : DenL ρ z cs us) : DenL ρ' z cs us :=
  ⟨h.len, h.one, fun j d u h1 h2 => (h.den j d u h1 h2).nor e (hd d (List.mem_of_getElem? h1))⟩
theorem DenS.nor (e : ∀ k, ρ' k = ρ k) {s : SV} {v : Value} (hd : NorS s) (h : DenS ρ z s v) : DenS ρ' z s v := by
  cases h with
  | d h => exact .d (h.nor e hd)
  | a h => exact .a (h.nor e hd)
  | t => exact hd.elim
theorem CellsOk.nor {k i o : Nat} {es : List E} {us : List Value} {X : List (Nat × Hb)} (h : CellsOk ρ z k i o es us X) : (∀ e ∈ es, ∃ x, e = .v x) → CellsOk ρ' z k i o es us X := by
  induction h with
  | nil => exact fun _ => .nil
  | @cons o e u X es us Y h1 _ ih => exact fun hv => .cons (by obtain ⟨x, hx⟩ := hv e List.mem_cons_self; subst hx; exact h1) (ih fun e he => hv e (List.mem_cons_of_mem _ he))
theorem FamOk.nor {k : Nat} {ty : TypeId} {i : Nat} {bs : List Nat} {rs : List (List E)} {X : List (Nat × Hb)} (h : FamOk ρ z k ty i bs rs X) : (∀ row ∈ rs, ∀ e ∈ row, ∃ x, e = .v x) → FamOk ρ' z k ty i bs rs X := by
  induction h with
  | nil => exact fun _ => .nil
  | cons h1 _ ih => exact fun hv => .cons (h1.nor (hv _ List.mem_cons_self)) (ih fun r hr => hv r (List.mem_cons_of_mem _ hr))
theorem ObsOk.nor (e : ∀ k, ρ' k = ρ k) : ∀ {ob : List (Nat × Ob)} {hp : List (Nat × Hb)}, (∀ p ∈ ob, NorO p.2) → ObsOk ρ z ob hp → ObsOk ρ' z ob hp
  | [], _, _, h => h
  | (k, .bx t cs) :: r, _, ho, ⟨X, hp', h1, ⟨b, us, h2, h3, h4⟩, h5⟩ => ⟨X, hp', h1, ⟨b, us, h2, by rw [e]; exact h3, h4.nor e (ho (k, .bx t cs) (by simp))⟩, h5.nor e fun p hp => ho p (by simp [hp])⟩
  | (k, .ar t sz rs) :: r, _, ho, ⟨X, hp', h1, ⟨A, c, us, h2, h3, h4⟩, h5⟩ => ⟨X, hp', h1, ⟨A, c, us, h2, by rw [e]; exact h3, h4⟩, h5.nor e fun p hp => ho p (by simp [hp])⟩
  | (k, .fm t rs) :: r, _, ho, ⟨X, hp', h1, ⟨h2, h3⟩, h5⟩ => ⟨X, hp', h1, ⟨h2.nor (ho (k, .fm t rs) (by simp)), h3⟩, h5.nor e fun p hp => ho p (by simp [hp])⟩
  | (k, .mp kg vg es) :: r, _, ho, ⟨X, hp', h1, ⟨b, vs, h2, h3, h4⟩, h5⟩ => ⟨X, hp', h1, ⟨b, vs, h2, by rw [e]; exact h3, h4⟩, h5.nor e fun p hp => ho p (by simp [hp])⟩
  | (k, .fa t sz rs) :: r, _, ho, _ => (ho (k, .fa t sz rs) (by simp)).elim
  | (k, .ab cs us zb φ) :: r, _, ho, _ => (ho (k, .ab cs us zb φ) (by simp)).elim
end
theorem ObsOk.bx {ρ : Rho} {z : Fz} {ob : List (Nat × Ob)} {hp : List (Nat × Hb)} {k t : Nat} {cs : List D} (h : ObsOk ρ z ob hp) (hk : lk k ob = some (.bx t cs)) : ∃ b, ρ k = some ⟨some ⟨b, 0, none⟩, 1, cs.length⟩ := by
  obtain ⟨X, f, ⟨b, us, _, h2, _⟩, _⟩ := h.at_ hk
  exact ⟨b, h2⟩
/-- Boxes that are pinned stay where they are. -/
theorem CallsP.of {P : Program} {f : FuncId} {ss : List SV} {obP ob0 : List (Nat × Ob)} {s0 : SV} (K : Nat) (ks : List Nat) (hs : NorS s0) (ho : ∀ p ∈ ob0, NorO p.2) (hb : ∀ k ∈ ks, ∃ t cs t' cs', lk k obP = some (.bx t cs) ∧ lk k ob0 = some (.bx t' cs') ∧ cs.length = cs'.length)
    (h : ∀ us zb, CallsA P f ss ((K, .ab (ks.map fun k => .p k 0) us zb (· = [])) :: obP) (Iso s0 ((K, .ab (ks.map fun k => .p k 0) us zb (· = [])) :: ob0))) : CallsP P f ss obP ks (Iso s0 ob0) := by
  refine ⟨(h [] ⟨⟨fun _ => False, fun _ => [], fun _ => False⟩, ⟨#[], fun _ _ => 0, 0, default, #[]⟩⟩).fn, fun c ρ hp vs w hw hl g => ?_⟩
  have hpin : ∀ l : List Nat, (∀ k ∈ l, k ∈ ks) → ∃ us : List Value, DenL ρ ⟨c.G, c.w⟩ (l.map fun k => D.p k 0) us := by
    intro l
    induction l with
    | nil => exact fun _ => ⟨[], .nil⟩
    | cons k r ih =>
      intro hm
      obtain ⟨us, hus⟩ := ih fun j hj => hm j (by simp [hj])
      obtain ⟨t, cs, t', cs', q1, _, _⟩ := hb k (hm k (by simp))
      obtain ⟨b, hb1⟩ := g.ob.bx q1
      exact ⟨_ :: us, hus.cons (.p hb1)⟩
  obtain ⟨us, hus⟩ := hpin ks fun _ h => h
  refine ((h us ⟨c.G, c.w⟩).out c ρ hp vs w hw hl ⟨g.fF, g.fw, g.gF, g.gx, g.fm, g.tm, ⟨[], hp, rfl, ⟨rfl, .refl, hus⟩, g.ob⟩⟩).mono ?_
  rintro e w' ⟨v, h', s, ob', ρ', G', rfl, hw', g', rfl, rfl⟩
  obtain ⟨X, hp', e1, ⟨e2, e3, e4⟩, e5⟩ := g'.ob
  have e2' : X = [] := e2
  subst e2'
  have hloc : ∀ k, inN ks k = true → ρ' k = ρ k := fun k hk => by
    have hm : k ∈ ks := mem_inN hk
    obtain ⟨t, cs, t', cs', q1, q2, q3⟩ := hb k hm
    obtain ⟨b, b1⟩ := g.ob.bx q1
    obtain ⟨b', b2⟩ := e5.bx q2
    obtain ⟨j, hj⟩ := List.mem_iff_getElem?.1 hm
    have hj' : (ks.map fun k => D.p k 0)[j]? = some (.p k 0) := by rw [List.getElem?_map, hj]; rfl
    obtain ⟨u, u1, u2⟩ := e4.get hj'
    have u3 := hus.den j _ u hj' u1
    cases u2 with | p z1 =>
    cases u3 with | p z2 =>
    rw [b2] at z1
    rw [b1] at z2
    injection z1 with z1; injection z1 with z1 _ _; injection z1 with z1; injection z1 with z1 _ _
    injection z2 with z2; injection z2 with z2 _ _; injection z2 with z2; injection z2 with z2 _ _
    rw [b1, b2, z1, z2, q3]
  have hee : ∀ k, (⟨ρ'.loc, fun k => if inN ks k = true then ρ.os k else ρ'.os k⟩ : Rho) k = ρ' k := fun _ => rfl
  refine ⟨v, h', s, ob0, ⟨ρ'.loc, fun k => if inN ks k = true then ρ.os k else ρ'.os k⟩, G', rfl, hw', ⟨g'.fF, g'.fw, g'.gF, g'.gx, g'.fm, fun k s' hk => ?_, ?_⟩, ⟨rfl, rfl⟩, fun k hk => ⟨hloc k hk, if_pos hk⟩⟩
  · obtain ⟨u, u1, u2⟩ := g'.tm k s' hk
    refine ⟨u, u1, u2.nor hee ?_⟩
    simp only [lk] at hk
    cases hk0 : Nat.beq k 0 <;> rw [hk0] at hk
    · cases hk
    · simp only [cond_true, Option.some.injEq] at hk
      rw [← hk]; exact hs
  · rw [e1]
    exact e5.nor hee ho
section
variable {P : Program} {nt : Nt} {Q : Exit → Act → World → Prop} {c : Cx} {st : St} {tm : List (Nat × Value)} {h : Hs} {ρ : Rho} {G : FG} {ty : TypeId} {pos : String} {af : Array Edge} {gd : Option (Nat × Bool)} {K : Kt}
/-- What such a call gives. -/
theorem callP_vals {f : FuncId} {ss : List SV} {obP obF : List (Nat × Ob)} {tmS tmK : List (Nat × SV)} {ns ks : List Nat} {QS : SV → List (Nat × Ob) → Prop} (g : Gd c ⟨tmS, obP ++ obF⟩ tm h ρ G) {vs : List Value} (a2 : vs.length = ss.length) (a3 : ∀ (j : Nat) s v, ss[j]? = some s → vs[j]? = some v → DenS ρ ⟨G, h.w0⟩ s v) (hk : ∀ k s, lk k tmK = some s → lk k tmS = some s)
    (h1 : okTm (fun k => !inN ns k) tmK = true) (h2 : okO (fun k => !inN ns k) obF = true) (h3 : okO (fun k => bif inN ns k then true else inN ks k) obP = true) (h4 : noKey ks obF = true) (hc : CallsP P f ss obP ks QS) :
    ∀ w, Hp h w → Calls P f vs.toArray w fun e w' => ∃ v h' s ob' ρ' G', e = .returned v ∧ Hp h' w' ∧ QS s ob' ∧ (s.okP (fun k => bif inN ns k then true else inN ks k) = true → okO (fun k => bif inN ns k then true else inN ks k) ob' = true → DenS ρ' ⟨G', h'.w0⟩ s v ∧ Gd c ⟨tmK, ob' ++ obF⟩ tm h' ρ' G') := by
  intro w hw
  obtain ⟨F, w0, hp⟩ := h
  obtain ⟨hpP, hpF, e0, oP, oF⟩ := ObsOk.split g.ob
  dsimp only at e0 oP oF
  subst e0
  have hnd := hw.nd
  rw [List.map_append, List.nodup_append] at hnd
  have hbF : ∀ b, Bl hpF b → ¬ F b := fun b ⟨x, hx⟩ => hw.out b x (List.mem_append_right _ hx)
  have hPF : ∀ b x, (b, x) ∈ hpP → ¬ Bl hpF b := fun b x hx ⟨y, hy⟩ => hnd.2.2 b (List.mem_map_of_mem (f := Prod.fst) hx) b (List.mem_map_of_mem (f := Prod.fst) hy) rfl
  have hm0 : Mz ⟨G, w0⟩ ⟨⟨G.on, G.fam, famIn obP⟩, w⟩ := ⟨fun _ h => h, fun b hb => hw.same.block b (g.gF b hb), fun _ _ _ h => h⟩
  refine (hc.out ⟨fun b => F b ∨ Bl hpF b, w, ⟨G.on, G.fam, famIn obP⟩⟩ ρ hpP vs w ⟨Same.refl _ _, fun b hb => ?_, fun b x hx => hw.blk b x (List.mem_append_left _ hx), hnd.1, fun b x hx hb => ?_⟩ a2 ⟨fun _ h => h, Same.refl _ _, fun b hb => .inl (g.gF b hb), fun b hb => .inl hb, .refl _, fun k s hk => ?_, ?_⟩).mono ?_
  · rcases hb with hb | ⟨x, hx⟩
    · exact hw.Flt hb
    · exact (hw.blk b x (List.mem_append_right _ hx)).lt
  · rcases hb with hb | hb
    · exact hw.out b x (List.mem_append_left _ hx) hb
    · exact hPF b x hx hb
  · obtain ⟨q1, q2⟩ := lk_slT hk
    have hlt : k - 0 < vs.length := by rw [a2]; exact (List.getElem?_eq_some_iff.1 q2).1
    exact ⟨vs[k - 0], lk_slots q1 (List.getElem?_eq_getElem hlt), (a3 _ s _ q2 (List.getElem?_eq_getElem hlt)).mono hm0 .refl⟩
  · refine oP.monoF hm0 .refl fun k o hm => ?_
    refine Fms.of fun t rs e => ?_
    subst e
    exact ⟨rfl, fun _ => ⟨_, _, hm⟩⟩
  · rintro e w' ⟨v, h', s, ob', ρ', G', rfl, hw', g', hq, hks⟩
    obtain ⟨v', e1, e2⟩ := g'.tm 0 s rfl
    simp only [lk, Nat.beq_refl, cond_true, Option.some.injEq] at e1
    subst e1
    have hkeep : ∀ b, F b ∨ Bl hpF b → w'.heap[b]? = w.heap[b]? := fun b hb => (hw'.same.block b (g'.fF b hb)).trans (g'.fw.block b hb)
    let ρ2 : Rho := ⟨fun k => if inN ns k = true then ρ' k else ρ k, fun k => if inN ns k = true then ρ'.os k else ρ.os k⟩
    have hrr : ∀ k, (bif inN ns k then true else inN ks k) = true → ρ2 k = ρ' k ∧ ρ2.os k = ρ'.os k := fun k hk => by
      show (if inN ns k = true then ρ' k else ρ k) = _ ∧ (if inN ns k = true then ρ'.os k else ρ.os k) = _
      cases hn : inN ns k
      · rw [hn] at hk
        simp only [cond_false] at hk
        obtain ⟨q1, q2⟩ := hks k hk
        exact ⟨by rw [q1]; simp, by rw [q2]; simp⟩
      · simp
    let G2 : FG := ⟨fun b => G b ∨ G' b, G'.fam, G.own⟩
    have hgn : ∀ b, G' b → ¬ Bl hpF b := fun b hb hbl => by
      rcases g'.gx b hb with q | q
      · exact hbF b hbl (g.gF b q)
      · exact q (.inr hbl)
    refine ⟨v, ⟨fun b => h'.F b ∧ ¬ Bl hpF b, h'.w0, h'.hp ++ hpF⟩, s, ob', ρ2, G2, rfl, ⟨hw'.same.mono fun _ hb => hb.1, fun b hb => hw'.inF b hb.1, fun b x hx => ?_, ?_, fun b x hx hb => ?_⟩, hq, fun hs ho => ⟨?_, ?_⟩⟩
    · rcases List.mem_append.1 hx with hx | hx
      · exact hw'.blk b x hx
      · exact (hw.blk b x (List.mem_append_right _ hx)).of_block (hkeep b (.inr ⟨x, hx⟩))
    · rw [List.map_append, List.nodup_append]
      refine ⟨hw'.nd, hnd.2.1, fun a ha b hb hab => ?_⟩
      subst hab
      obtain ⟨⟨_, x⟩, hx, rfl⟩ := List.mem_map.1 ha
      obtain ⟨⟨_, y⟩, hy, hxy⟩ := List.mem_map.1 hb
      dsimp only at hxy
      subst hxy
      exact hw'.out _ x hx (g'.fF _ (.inr ⟨y, hy⟩))
    · rcases List.mem_append.1 hx with hx | hx
      · exact hw'.out b x hx hb.1
      · exact hb.2 ⟨x, hx⟩
    · refine DenS.okP (p := fun k => bif inN ns k then true else inN ks k) (fun k hk => (hrr k hk).1) (fun k hk i o => by rw [(hrr k hk).2]) hs (DenS.mono (z := ⟨G', h'.w0⟩) (z' := ⟨G2, h'.w0⟩) ⟨fun _ hb => Or.inr hb, fun _ _ => rfl, fun _ _ _ h => h⟩ .refl e2)
    · have hm : Mz ⟨G, w0⟩ ⟨G2, h'.w0⟩ := ⟨fun _ hb => .inl hb, fun b hb => (g'.fw.block b (.inl (g.gF b hb))).trans (hw.same.block b (g.gF b hb)), fun k i b hb => g'.fm.gr k i b hb⟩
      have hno : ∀ k, (!inN ns k) = true → ¬ inN ns k = true := fun k hk => by simpa using hk
      have ee : ∀ k, (!inN ns k) = true → ρ2 k = ρ k := fun k hk => by show (if inN ns k = true then ρ' k else ρ k) = _; rw [if_neg (hno k hk)]
      have eo : ∀ k, (!inN ns k) = true → ∀ i o, ρ2.os k i o = ρ.os k i o := fun k hk i o => by show (if inN ns k = true then ρ'.os k else ρ.os k) i o = _; rw [if_neg (hno k hk)]
      have hfp : ∀ k, ¬ famIn obP k → G'.fam k = G.fam k := fun k hk => g'.fm.eq k hk
      refine ⟨fun b hb => ⟨g'.fF b (.inl (g.fF b hb)), fun hbl => hbF b hbl (g.fF b hb)⟩, (g.fw.trans (hw.same.mono g.fF)).trans (g'.fw.mono fun b hb => .inl (g.fF b hb)), fun b hb => ?_, fun b hb => ?_, ⟨g.fm.own, fun k hk => ?_, fun k i b hb => g'.fm.gr k i b (g.fm.gr k i b hb)⟩, fun k s0 hk0 => ?_, ObsOk.append ?_ ?_⟩
      · rcases hb with hb | hb
        · exact ⟨g'.fF b (.inl (g.gF b hb)), fun hbl => hbF b hbl (g.gF b hb)⟩
        · exact ⟨g'.gF b hb, hgn b hb⟩
      · rcases hb with hb | hb
        · exact g.gx b hb
        · rcases g'.gx b hb with q | q
          · exact g.gx b q
          · exact .inr fun h0 => q (.inl (g.fF b h0))
      · refine (hfp k fun hf => hk ?_).trans (g.fm.eq k hk)
        rw [← g.fm.own]
        exact oP.fam k hf
      · obtain ⟨u, u1, u2⟩ := g.tm k s0 (hk k s0 hk0)
        exact ⟨u, u1, (u2.mono hm .refl).okP ee eo (okTm_get h1 k s0 hk0)⟩
      · refine ObsOk.okP (p := fun k => bif inN ns k then true else inN ks k) (fun k hk => (hrr k hk).1) (fun k hk i o => by rw [(hrr k hk).2]) ho (ObsOk.monoF (z := ⟨G', h'.w0⟩) (z' := ⟨G2, h'.w0⟩) ⟨fun _ hb => Or.inr hb, fun _ _ => rfl, fun _ _ _ h => h⟩ .refl (fun k o hm' => ?_) g'.ob)
        cases o <;> simp only [Fms]
        refine ⟨rfl, fun hown => ?_⟩
        have hown' : famIn obP k := by have := hown; rwa [g'.fm.own] at this
        exact oP.fam k hown'
      · refine ObsOk.okP ee eo h2 (oF.monoF hm .refl fun k o hm' => ?_)
        refine Fms.of fun t rs e => ?_
        subst e
        refine ⟨hfp k fun ⟨t, rs, hf⟩ => ?_, id⟩
        have q1 := okO_mem h3 k _ hf
        have q2 := okO_mem h2 k _ hm'
        have q3 := noKey_mem h4 k _ hm'
        cases hn : inN ns k
        · rw [hn] at q1
          simp only [cond_false] at q1
          rw [q1] at q3
          cases q3
        · rw [hn] at q2
          cases q2
/-- A call of a function value that lends the objects ps; ns: the names that it may give anew. -/
theorem Raw.callFP {x : Operand} {f : FuncId} {ks : List SV} (kk : List Nat) {xs : Array Operand} {ts : Array TypeId} {d : Option Tmp} {tmT tmK : List (Nat × SV)} {ob obP obF : List (Nat × Ob)} (ps ns : List Nat) {ss : List SV} {QS : SV → List (Nat × Ob) → Prop} (hf : fnT (evT tmT x) = some (f, ks)) (hT : keepTm (fun k => !inN ns k) [] tmT = tmK) (hO : (splitOb ps ob).1 = obP) (hO' : cleanOb (fun k => !inN ns k) (splitOb ps ob).2 = obF) (hx : evLT tmT xs.toList = some ss)
    (h2 : okO (fun k => !inN ns k) obF = true) (h3 : okO (fun k => bif inN ns k then true else inN kk k) obP = true) (h4 : noKey kk obF = true) (hd : (match d with | some d => Nat.blt d nt | none => true) = true) (hc : CallsP P f (ss ++ ks) obP kk QS) (k : ∀ s ob', QS s ob' → BkP d ns kk tmK obF K s ob') : Raw P nt ⟨d, .call ⟨.value x, xs, ts⟩, ty, pos, af, gd⟩ tmT ob K := ⟨fun Q c tm h ρ G g => by
  obtain ⟨F, w0, hp⟩ := h
  obtain ⟨ha, hb, o1, o2, o3⟩ := splitOb_ok (ps := ps) g.ob
  rw [hO] at o1
  replace o2 := cleanOb_ok (p := fun k => !inN ns k) o2
  rw [hO'] at o2
  have g2 : Gd c ⟨tmT, obP ++ obF⟩ tm ⟨F, w0, ha ++ hb⟩ ρ G := ⟨g.fF, g.fw, g.gF, g.gx, g.fm, g.tm, o1.append o2⟩
  have hh : ∀ w, Hp ⟨F, w0, hp⟩ w → Hp ⟨F, w0, ha ++ hb⟩ w := fun w hw => hw.perm o3
  subst hT
  obtain ⟨us, u1, u2, u3⟩ := fnT_ev g2 hf
  obtain ⟨vs, a1, a2, a3⟩ := evLT_ev g2 hx
  have hlen : (vs ++ us).length = (ss ++ ks).length := by simp [a2, u2]
  have hden : ∀ (j : Nat) s v, (ss ++ ks)[j]? = some s → (vs ++ us)[j]? = some v → DenS ρ ⟨G, w0⟩ s v := by
    intro j s v h1 h2
    by_cases hj : j < ss.length
    · rw [List.getElem?_append_left hj] at h1
      rw [List.getElem?_append_left (by rw [a2]; exact hj)] at h2
      exact a3 j s v h1 h2
    · rw [List.getElem?_append_right (by omega)] at h1
      rw [List.getElem?_append_right (by rw [a2]; omega), a2] at h2
      exact u3 _ s v h1 h2
  have hcall := callP_vals (tmK := keepTm (fun k => !inN ns k) [] tmT) g2 hlen hden (fun k s h => (keepTm_get h).2) keepTm_ok h2 h3 h4 hc
  obtain ⟨fn, cd, f1, f2, f3⟩ := hc.fn
  have hxs : xs = xs.toList.toArray := by simp
  rw [hxs]
  refine OpS.callV (P := P) (nt := nt) (Q := Q) (fun v h2 => Kd c K (putD d v tm) h2) u1 f1 f2 f3 a1 hd (fun w hw => (hcall w (hh w hw)).mono ?_) fun _ _ hk => hk
  rintro e w' ⟨v, h3, s, ob', ρ', G', rfl, hw3, hq, hg⟩
  obtain ⟨b1, b2, b3⟩ := k s ob' hq
  obtain ⟨q1, q2⟩ := hg b1 b2
  cases d with
  | some d => exact ⟨v, h3, rfl, hw3, .of (q2.put q1) b3⟩
  | none => exact ⟨v, h3, rfl, hw3, .of q2 b3⟩⟩
end
end Go.Proofs.YtabmcfnefjipbaaGreatDoor
namespace Go.Proofs.YtabmcfnefjipbaaGreatDoor
open Go.RowKit
abbrev gtOb (out : List Lc) : List (Nat × Ob) := [(7, .bx 148 [.mp 903]), (903, .mp true false (atL out)), (905, .fm 98 (out.map lcE))]
theorem getA_T (us : List Value) (zb : Fz) (out : List Lc) (m : ByteArray) (n : Int) (k : Nat) (hk : kidx Lc.pl (ensL out (m, n)) (m, n) = some k) (e1 : List (List V × List V)) (he1 : e1 = atL out) (e2 : List (List E)) (he2 : e2 = out.map lcE) :
    CallsA Tryz.prog 78 [.d (.u (.str m)), di n, .d (.p 7 0)] [(902, .ab [.p 7 0] us zb (· = [])), (7, .bx 148 [.mp 903]), (903, .mp true false e1), (905, .fm 98 e2)] (Iso (.d (.u (.m 905 k 0))) ((902, .ab [.p 7 0] us zb (· = [])) :: gtOb (ensL out (m, n)))) := by
  subst he1 he2
  have hokS : ∀ e ∈ atL out, keyS tt (.st kPs) e.1 = true := atL_ok
  have hokF : ∀ e ∈ atL out, keyFs tt kPs 0 e.1 = true := atL_ok
  have mg : mgetT (atL out) [.str m, .int .i64 n] [.pn] = _ ∧ mhasT (atL out) [.str m, .int .i64 n] = _ := atK_get (key := Lc.pl) (val := valP) encP_eq (l := out) (f := (m, n)) (n := 0) [.pn]
  by_cases hin : (m, n) ∈ out.map Lc.pl
  · have hen : ensL out (m, n) = out := by unfold ensL ensK; rw [if_pos hin]
    rw [hen] at hk ⊢
    rw [hk] at mg
    have m1 : mgetT (atL out) [.str m, .int .i64 n] [.pn] = [.m 905 k 0] := by rw [mg.1]; simp [valP]
    refine callsA_of_vcO (T := tt) Tryz.func78 rfl rfl rfl rfl rfl ?_
    repeat' ((conv => whnf); first | refine Mls.of [.m 905 k 0] true (by kernel_rfl) (by kernel_rfl) hokS m1 mg.2 ?_ | refine Gs.id ?_ | with_reducible refine And.intro ?_ ?_ | with_reducible refine Brn.T rfl ?_ | with_reducible refine Brn.F rfl ?_ | refine Brn.T (by (try simp only [smT]); first | rfl | assumption | omega | (simp only [*]; done) | (simp [*]; done) | fail) ?_ | refine Brn.F (by (try simp only [smT]); first | rfl | assumption | omega | (simp only [*]; done) | (simp [*]; done) | fail) ?_ | (refine Brn.mk (fun hb => ?_) (fun hb => ?_) <;> (try simp only [smT] at hb) <;> (try (exact absurd trivial hb)) <;> (try (exfalso; omega))) | (refine Bnd.mk (fun hm => ?_); (try simp only [smT] at hm)) | refine Rng.mk (by (try simp only [smT]); omega) ?_ | refine Ix.map rfl (by (try simp only [smT]); omega) ?_ | refine Ix.map (m := 0) rfl (by (try simp only [smT]); omega) ?_ | refine Ix.lit (m := 0) rfl rfl ?_ | refine Ixo.mk ⟨_, rfl, (by (try simp only [smT]); omega), ?_⟩ | refine Rw.lit rfl ?_ | refine Rw.self (by (try simp only [smT]); omega) ?_ | refine Rw.map (by (try simp only [smT]); omega) ?_ | refine Len.mk (by first | rfl | (simp; done) | (simp only [smT]; assumption) | (simp only [smT]; omega)) ?_ | refine Eqv.mk (by kernel_rfl) ?_ | refine Apd.mk (by first | rfl | simp) (by first | rfl | simp) (by (try simp only [smT]); first | omega | (simp; omega)) (by unfold maxLen; first | (simp; done) | (simp; omega) | omega) ?_ | refine Raw.capNil (T := tt) rfl rfl rfl rfl ?_ | refine Raw.sliceNil (T := tt) rfl rfl (by first | rfl | omega | (simp; done)) rfl rfl rfl rfl ?_ | refine Raw.makeMap (T := tt) rfl rfl rfl rfl rfl rfl (.inl rfl) rfl rfl ?_ | refine Raw.mapUpdate (T := tt) (.inl rfl) rfl rfl rfl rfl rfl rfl rfl rfl rfl rfl rfl (by assumption) ?_ | refine Pm.mk (by first | assumption | omega | (simp; done) | (simp; omega)) (by first | assumption | omega | (simp; done) | (simp; omega)) ?_ | (refine Raw.appendR (T := tt) ?_; (conv => whnf); first | refine Mls.of [.m 905 k 0] true (by kernel_rfl) (by kernel_rfl) hokS m1 mg.2 ?_ | refine Rw.lit rfl ?_ | refine Rw.self (by (try simp only [smT]); omega) ?_ | refine Rw.map (by (try simp only [smT]); omega) ?_) | refine Raw.appendIn (T := tt) rfl rfl rfl rfl rfl rfl rfl rfl rfl rfl (by (try simp only [smT]); omega) (by (try simp only [smT]); omega) ?_ | refine Raw.clear (T := tt) rfl rfl rfl rfl rfl rfl rfl (by (try simp only [smT]); omega) ?_ | refine Slc.mk ⟨_, _, rfl, rfl, (by (try simp only [smT]); omega), (by (try simp only [smT]); omega), ?_⟩ | refine Slc.mk ⟨0, _, rfl, rfl, (by (try simp only [smT]); omega), (by (try simp only [smT]); omega), ?_⟩ | refine Slc.mk ⟨1, _, rfl, rfl, (by (try simp only [smT]); omega), (by (try simp only [smT]); omega), ?_⟩ | refine Slc3.mk ⟨_, _, _, rfl, rfl, rfl, (by (try simp only [smT]); omega), (by (try simp only [smT]); omega), (by (try simp only [smT]); omega)⟩ ?_ | refine Raw.mapUpdateS (T := tt) (.inl rfl) rfl rfl rfl rfl rfl rfl rfl rfl rfl rfl rfl rfl rfl (by kernel_rfl) (by assumption) ?_)
    all_goals (conv => whnf)
    all_goals refine RetO.mk ⟨[(902, .k 902), (7, .k 7), (903, .k 903), (905, .k 905)], _, _, (by first | exact LeS.d (by first | exact LeD.u rfl | exact LeD.p rfl | exact LeD.ow rfl rfl | exact LeD.ow rfl (by simp) | exact LeD.no rfl rfl | exact LeD.nl (by first | rfl | simp) | exact LeD.u (by simp; done) | exact LeD.u (by congr 1; omega) | exact LeD.q rfl | exact LeD.r rfl | exact LeD.r (by simp; done) | exact LeD.re | exact LeD.mp rfl | exact LeD.ows rfl rfl rfl | exact LeD.u (by congr 1; congr 1; simp) | exact LeD.fn (by repeat (first | exact LeN.nil | refine LeN.cons rfl ?_))) | exact LeS.a (by repeat (first | exact LeL.nil | refine LeL.cons (by first | exact LeD.u rfl | exact LeD.p rfl | exact LeD.ow rfl rfl | exact LeD.ow rfl (by simp) | exact LeD.no rfl rfl | exact LeD.nl (by first | rfl | simp) | exact LeD.u (by simp; done) | exact LeD.u (by congr 1; omega) | exact LeD.q rfl | exact LeD.r rfl | exact LeD.r (by simp; done) | exact LeD.re | exact LeD.mp rfl | exact LeD.ows rfl rfl rfl | exact LeD.u (by congr 1; congr 1; simp) | exact LeD.fn (by repeat (first | exact LeN.nil | refine LeN.cons rfl ?_))) ?_)) | exact LeS.ts (by repeat (first | exact LeCs.nil | refine LeCs.cons (by first | exact LeC.d (by first | exact LeD.u rfl | exact LeD.p rfl | exact LeD.ow rfl rfl | exact LeD.ow rfl (by simp) | exact LeD.no rfl rfl | exact LeD.nl (by first | rfl | simp) | exact LeD.u (by simp; done) | exact LeD.u (by congr 1; omega) | exact LeD.q rfl | exact LeD.r rfl | exact LeD.r (by simp; done) | exact LeD.re | exact LeD.mp rfl | exact LeD.ows rfl rfl rfl | exact LeD.u (by congr 1; congr 1; simp) | exact LeD.fn (by repeat (first | exact LeN.nil | refine LeN.cons rfl ?_))) | exact LeC.a (by repeat (first | exact LeL.nil | refine LeL.cons (by first | exact LeD.u rfl | exact LeD.p rfl | exact LeD.ow rfl rfl | exact LeD.ow rfl (by simp) | exact LeD.no rfl rfl | exact LeD.nl (by first | rfl | simp) | exact LeD.u (by simp; done) | exact LeD.u (by congr 1; omega) | exact LeD.q rfl | exact LeD.r rfl | exact LeD.r (by simp; done) | exact LeD.re | exact LeD.mp rfl | exact LeD.ows rfl rfl rfl | exact LeD.u (by congr 1; congr 1; simp) | exact LeD.fn (by repeat (first | exact LeN.nil | refine LeN.cons rfl ?_))) ?_))) ?_))), (by repeat (first | exact LeO.nil | refine LeO.bx rfl rfl (by repeat (first | exact LeL.nil | refine LeL.cons (by first | exact LeD.u rfl | exact LeD.p rfl | exact LeD.ow rfl rfl | exact LeD.ow rfl (by simp) | exact LeD.no rfl rfl | exact LeD.nl (by first | rfl | simp) | exact LeD.u (by simp; done) | exact LeD.u (by congr 1; omega) | exact LeD.q rfl | exact LeD.r rfl | exact LeD.r (by simp; done) | exact LeD.re | exact LeD.mp rfl | exact LeD.ows rfl rfl rfl | exact LeD.u (by congr 1; congr 1; simp) | exact LeD.fn (by repeat (first | exact LeN.nil | refine LeN.cons rfl ?_))) ?_)) ?_ | refine LeO.ar rfl rfl (by first | rfl | simp) ?_ | refine LeO.ab rfl rfl (by repeat (first | exact LeL.nil | refine LeL.cons (by first | exact LeD.u rfl | exact LeD.p rfl | exact LeD.ow rfl rfl | exact LeD.ow rfl (by simp) | exact LeD.no rfl rfl | exact LeD.nl (by first | rfl | simp) | exact LeD.u (by simp; done) | exact LeD.u (by congr 1; omega) | exact LeD.q rfl | exact LeD.r rfl | exact LeD.r (by simp; done) | exact LeD.re | exact LeD.mp rfl | exact LeD.ows rfl rfl rfl | exact LeD.u (by congr 1; congr 1; simp) | exact LeD.fn (by repeat (first | exact LeN.nil | refine LeN.cons rfl ?_))) ?_)) (by first | rfl | simp) ?_ | refine LeO.fm rfl (by first | rfl | simp) ?_ | refine LeO.mp rfl rfl (by first | rfl | simp) ?_ | refine LeO.no rfl rfl ?_)), rfl, rfl⟩
  · have hen : ensL out (m, n) = out ++ [zeroL (m, n)] := by unfold ensL ensK; rw [if_neg hin]
    have hno := kidx_none.2 hin
    rw [hen, kidx_app hno rfl] at hk
    injection hk with hk
    rw [hno] at mg
    have m1 : mgetT (atL out) [.str m, .int .i64 n] [.pn] = [.pn] := by rw [mg.1]
    have hput := atK_put (val := valP) encP_eq (n := 0) (c := zeroL (m, n)) hno rfl
    rw [Nat.zero_add] at hput
    have hput : mputT (atL out) [.str m, .int .i64 n] [.m 905 (out.map lcE).length 0] = atL (out ++ [zeroL (m, n)]) := by rw [List.length_map]; exact hput
    have hokS2 : ∀ e ∈ mputT (atL out) [.str m, .int .i64 n] [.m 905 (out.map lcE).length 0], keyS tt (.st kPs) e.1 = true := by rw [hput]; exact atL_ok
    have mg2 : mgetT (atL (out ++ [zeroL (m, n)])) [.str m, .int .i64 n] [.pn] = _ ∧ mhasT (atL (out ++ [zeroL (m, n)])) [.str m, .int .i64 n] = _ := atK_get (key := Lc.pl) (val := valP) encP_eq (l := out ++ [zeroL (m, n)]) (f := (m, n)) (n := 0) [.pn]
    rw [kidx_app hno rfl] at mg2
    have m2 : mgetT (mputT (atL out) [.str m, .int .i64 n] [.m 905 (out.map lcE).length 0]) [.str m, .int .i64 n] [.pn] = [.m 905 out.length 0] := by rw [hput, mg2.1]; simp [valP]
    have m3 := mg2.2
    rw [← hput] at m3
    rw [hen]
    refine callsA_of_vcO (T := tt) Tryz.func78 rfl rfl rfl rfl rfl ?_
    repeat' ((conv => whnf); first | refine Mls.of [.pn] false (by kernel_rfl) (by kernel_rfl) hokS m1 mg.2 ?_ | refine Mls.of [.m 905 out.length 0] true (by kernel_rfl) (by kernel_rfl) hokS2 m2 m3 ?_ | refine Spc.mk ⟨[], ?_⟩ | refine Gs.id ?_ | with_reducible refine And.intro ?_ ?_ | with_reducible refine Brn.T rfl ?_ | with_reducible refine Brn.F rfl ?_ | refine Brn.T (by (try simp only [smT]); first | rfl | assumption | omega | (simp only [*]; done) | (simp [*]; done) | fail) ?_ | refine Brn.F (by (try simp only [smT]); first | rfl | assumption | omega | (simp only [*]; done) | (simp [*]; done) | fail) ?_ | (refine Brn.mk (fun hb => ?_) (fun hb => ?_) <;> (try simp only [smT] at hb) <;> (try (exact absurd trivial hb)) <;> (try (exfalso; omega))) | (refine Bnd.mk (fun hm => ?_); (try simp only [smT] at hm)) | refine Rng.mk (by (try simp only [smT]); omega) ?_ | refine Ix.map rfl (by (try simp only [smT]); omega) ?_ | refine Ix.map (m := 0) rfl (by (try simp only [smT]); omega) ?_ | refine Ix.lit (m := 0) rfl rfl ?_ | refine Ixo.mk ⟨_, rfl, (by (try simp only [smT]); omega), ?_⟩ | refine Rw.lit rfl ?_ | refine Rw.self (by (try simp only [smT]); omega) ?_ | refine Rw.map (by (try simp only [smT]); omega) ?_ | refine Len.mk (by first | rfl | (simp; done) | (simp only [smT]; assumption) | (simp only [smT]; omega)) ?_ | refine Eqv.mk (by kernel_rfl) ?_ | refine Apd.mk (by first | rfl | simp) (by first | rfl | simp) (by (try simp only [smT]); first | omega | (simp; omega)) (by unfold maxLen; first | (simp; done) | (simp; omega) | omega) ?_ | refine Raw.capNil (T := tt) rfl rfl rfl rfl ?_ | refine Raw.sliceNil (T := tt) rfl rfl (by first | rfl | omega | (simp; done)) rfl rfl rfl rfl ?_ | refine Raw.makeMap (T := tt) rfl rfl rfl rfl rfl rfl (.inl rfl) rfl rfl ?_ | refine Raw.mapUpdate (T := tt) (.inl rfl) rfl rfl rfl rfl rfl rfl rfl rfl rfl rfl rfl (by assumption) ?_ | refine Pm.mk (by first | assumption | omega | (simp; done) | (simp; omega)) (by first | assumption | omega | (simp; done) | (simp; omega)) ?_ | (refine Raw.appendR (T := tt) ?_; (conv => whnf); first | refine Mls.of [.pn] false (by kernel_rfl) (by kernel_rfl) hokS m1 mg.2 ?_ | refine Mls.of [.m 905 out.length 0] true (by kernel_rfl) (by kernel_rfl) hokS2 m2 m3 ?_ | refine Spc.mk ⟨[], ?_⟩ | refine Rw.lit rfl ?_ | refine Rw.self (by (try simp only [smT]); omega) ?_ | refine Rw.map (by (try simp only [smT]); omega) ?_) | refine Raw.appendIn (T := tt) rfl rfl rfl rfl rfl rfl rfl rfl rfl rfl (by (try simp only [smT]); omega) (by (try simp only [smT]); omega) ?_ | refine Raw.clear (T := tt) rfl rfl rfl rfl rfl rfl rfl (by (try simp only [smT]); omega) ?_ | refine Slc.mk ⟨_, _, rfl, rfl, (by (try simp only [smT]); omega), (by (try simp only [smT]); omega), ?_⟩ | refine Slc.mk ⟨0, _, rfl, rfl, (by (try simp only [smT]); omega), (by (try simp only [smT]); omega), ?_⟩ | refine Slc.mk ⟨1, _, rfl, rfl, (by (try simp only [smT]); omega), (by (try simp only [smT]); omega), ?_⟩ | refine Slc3.mk ⟨_, _, _, rfl, rfl, rfl, (by (try simp only [smT]); omega), (by (try simp only [smT]); omega), (by (try simp only [smT]); omega)⟩ ?_ | refine Raw.mapUpdateS (T := tt) (.inl rfl) rfl rfl rfl rfl rfl rfl rfl rfl rfl rfl rfl rfl rfl (by kernel_rfl) (by assumption) ?_)
    all_goals (conv => whnf)
    subst hk
    rw [hput]
    have hfm : out.map lcE ++ [mkE [] 0 [V.str m, V.int .i64 n, V.int .i64 0, V.int .i64 0]] = (out ++ [zeroL (m, n)]).map lcE := by simp; rfl
    rw [hfm]
    refine RetO.mk ⟨[(902, .k 902), (7, .k 7), (903, .k 903), (905, .k 905)], _, _, (by first | exact LeS.d (by first | exact LeD.u rfl | exact LeD.p rfl | exact LeD.ow rfl rfl | exact LeD.ow rfl (by simp) | exact LeD.no rfl rfl | exact LeD.nl (by first | rfl | simp) | exact LeD.u (by simp; done) | exact LeD.u (by congr 1; omega) | exact LeD.q rfl | exact LeD.r rfl | exact LeD.r (by simp; done) | exact LeD.re | exact LeD.mp rfl | exact LeD.ows rfl rfl rfl | exact LeD.u (by congr 1; congr 1; simp) | exact LeD.fn (by repeat (first | exact LeN.nil | refine LeN.cons rfl ?_))) | exact LeS.a (by repeat (first | exact LeL.nil | refine LeL.cons (by first | exact LeD.u rfl | exact LeD.p rfl | exact LeD.ow rfl rfl | exact LeD.ow rfl (by simp) | exact LeD.no rfl rfl | exact LeD.nl (by first | rfl | simp) | exact LeD.u (by simp; done) | exact LeD.u (by congr 1; omega) | exact LeD.q rfl | exact LeD.r rfl | exact LeD.r (by simp; done) | exact LeD.re | exact LeD.mp rfl | exact LeD.ows rfl rfl rfl | exact LeD.u (by congr 1; congr 1; simp) | exact LeD.fn (by repeat (first | exact LeN.nil | refine LeN.cons rfl ?_))) ?_)) | exact LeS.ts (by repeat (first | exact LeCs.nil | refine LeCs.cons (by first | exact LeC.d (by first | exact LeD.u rfl | exact LeD.p rfl | exact LeD.ow rfl rfl | exact LeD.ow rfl (by simp) | exact LeD.no rfl rfl | exact LeD.nl (by first | rfl | simp) | exact LeD.u (by simp; done) | exact LeD.u (by congr 1; omega) | exact LeD.q rfl | exact LeD.r rfl | exact LeD.r (by simp; done) | exact LeD.re | exact LeD.mp rfl | exact LeD.ows rfl rfl rfl | exact LeD.u (by congr 1; congr 1; simp) | exact LeD.fn (by repeat (first | exact LeN.nil | refine LeN.cons rfl ?_))) | exact LeC.a (by repeat (first | exact LeL.nil | refine LeL.cons (by first | exact LeD.u rfl | exact LeD.p rfl | exact LeD.ow rfl rfl | exact LeD.ow rfl (by simp) | exact LeD.no rfl rfl | exact LeD.nl (by first | rfl | simp) | exact LeD.u (by simp; done) | exact LeD.u (by congr 1; omega) | exact LeD.q rfl | exact LeD.r rfl | exact LeD.r (by simp; done) | exact LeD.re | exact LeD.mp rfl | exact LeD.ows rfl rfl rfl | exact LeD.u (by congr 1; congr 1; simp) | exact LeD.fn (by repeat (first | exact LeN.nil | refine LeN.cons rfl ?_))) ?_))) ?_))), (by repeat (first | exact LeO.nil | refine LeO.bx rfl rfl (by repeat (first | exact LeL.nil | refine LeL.cons (by first | exact LeD.u rfl | exact LeD.p rfl | exact LeD.ow rfl rfl | exact LeD.ow rfl (by simp) | exact LeD.no rfl rfl | exact LeD.nl (by first | rfl | simp) | exact LeD.u (by simp; done) | exact LeD.u (by congr 1; omega) | exact LeD.q rfl | exact LeD.r rfl | exact LeD.r (by simp; done) | exact LeD.re | exact LeD.mp rfl | exact LeD.ows rfl rfl rfl | exact LeD.u (by congr 1; congr 1; simp) | exact LeD.fn (by repeat (first | exact LeN.nil | refine LeN.cons rfl ?_))) ?_)) ?_ | refine LeO.ar rfl rfl (by first | rfl | simp) ?_ | refine LeO.ab rfl rfl (by repeat (first | exact LeL.nil | refine LeL.cons (by first | exact LeD.u rfl | exact LeD.p rfl | exact LeD.ow rfl rfl | exact LeD.ow rfl (by simp) | exact LeD.no rfl rfl | exact LeD.nl (by first | rfl | simp) | exact LeD.u (by simp; done) | exact LeD.u (by congr 1; omega) | exact LeD.q rfl | exact LeD.r rfl | exact LeD.r (by simp; done) | exact LeD.re | exact LeD.mp rfl | exact LeD.ows rfl rfl rfl | exact LeD.u (by congr 1; congr 1; simp) | exact LeD.fn (by repeat (first | exact LeN.nil | refine LeN.cons rfl ?_))) ?_)) (by first | rfl | simp) ?_ | refine LeO.fm rfl (by first | rfl | simp) ?_ | refine LeO.mp rfl rfl (by first | rfl | simp) ?_ | refine LeO.no rfl rfl ?_)), rfl, rfl⟩
theorem get_T (out : List Lc) (m : ByteArray) (n : Int) (k : Nat) (hk : kidx Lc.pl (ensL out (m, n)) (m, n) = some k) (e1 : List (List V × List V)) (he1 : e1 = atL out) (e2 : List (List E)) (he2 : e2 = out.map lcE) :
    CallsP Tryz.prog 78 [.d (.u (.str m)), di n, .d (.p 7 0)] [(7, .bx 148 [.mp 903]), (903, .mp true false e1), (905, .fm 98 e2)] [7] (Iso (.d (.u (.m 905 k 0))) (gtOb (ensL out (m, n)))) := by
  refine .of 902 [7] rfl (fun p hp => ?_) (fun j hj => ?_) fun us zb => getA_T us zb out m n k hk e1 he1 e2 he2
  · simp only [List.mem_cons, List.not_mem_nil, or_false] at hp
    rcases hp with rfl | rfl | rfl
    · simp [NorO, norD]
    · trivial
    · intro row hr e he
      obtain ⟨c, _, rfl⟩ := List.mem_map.1 hr
      simp only [lcE, List.mem_cons, List.not_mem_nil, or_false] at he
      rcases he with rfl | rfl | rfl | rfl <;> exact ⟨_, rfl⟩
  · simp only [List.mem_cons, List.not_mem_nil, or_false] at hj
    subst hj
    exact ⟨_, _, _, _, rfl, rfl, rfl⟩
end Go.Proofs.YtabmcfnefjipbaaGreatDoor
namespace Go.Proofs.YtabmcfnefjipbaaGreatDoor
open Go.RowKit
def cmpIn (a b : Int) : Int := if a < b then -1 else if b < a then 1 else 0

set_option maxHeartbeats 400000 in
theorem isnan_any (a : Int) (w : World) :
    Calls Tryz.prog 108 #[.int .i64 a] w fun r w' => r = .returned (.bool false) ∧ w = w' := by
  go_enter Tryz.func108, Tryz.ntmps108
  go_wp2
  go_ret
  exact ⟨ret_bool (by simp), rfl⟩

set_option maxHeartbeats 400000 in
theorem compare_any (a b : Int) (w : World) :
    Calls Tryz.prog 83 #[.int .i64 a, .int .i64 b] w fun r w' => r = .returned (.int .i64 (cmpIn a b)) ∧ w = w' := by
  unfold cmpIn
  go_enter Tryz.func83, Tryz.ntmps83
  go_wp2_with (go_at_call 108; refine (isnan_any _ _).mono ?_; rintro e w' ⟨rfl, rfl⟩)
  all_goals
    go_ret
    exact ⟨ret_int (by simp [*]), rfl⟩

def orI (a b : Int) : Int := if a != 0 then a else b

set_option maxHeartbeats 800000 in
theorem or_any (a b : Int) (g : Nat) (w : World) (h0 : w.cell? ⟨g, 0, none⟩ = some (.int .i64 a)) (h1 : w.cell? ⟨g, 1, none⟩ = some (.int .i64 b)) :
    Calls Tryz.prog 81 #[.slice (some ⟨g, 0, none⟩) 2 2] w fun r w' => r = .returned (.int .i64 (orI a b)) ∧ w = w' := by
  by_cases ha : (a != 0) = true
  · have H := Lib.hid (show a = orI a b by simp [orI, ha])
    go_enter Tryz.func81, Tryz.ntmps81
    go_wp2
    refine wp_loop_rounds 1 ?_
    rw [rounds_succ]
    go_wp2
    go_ret
    exact ⟨ret_int H.out, rfl⟩
  · have ha : (a != 0) = false := by simpa using ha
    have H := Lib.hid (show orI a b = b by simp [orI, ha])
    by_cases hb : (b != 0) = true
    · go_enter Tryz.func81, Tryz.ntmps81
      go_wp2
      refine wp_loop_rounds 2 ?_
      rw [rounds_succ]
      go_wp2
      rw [rounds_succ]
      go_wp2
      go_ret
      exact ⟨ret_int H.out.symm, rfl⟩
    · have hb : (b != 0) = false := by simpa using hb
      have H2 := Lib.hid (show 0 = b by simp at hb; omega)
      go_enter Tryz.func81, Tryz.ntmps81
      go_wp2
      refine wp_loop_rounds 3 ?_
      rw [rounds_succ]
      go_wp2
      rw [rounds_succ]
      go_wp2
      rw [rounds_succ]
      go_wp2
      go_ret
      exact ⟨ret_int (H2.out.trans H.out.symm), rfl⟩

end Go.Proofs.YtabmcfnefjipbaaGreatDoor
namespace Go.Proofs.YtabmcfnefjipbaaGreatDoor
open Go.RowKit Go.Sort
theorem cmpB_self : ∀ a : List UInt8, Lib.compareBytes a a = 0
  | [] => rfl
  | x :: a => by
    have h : ¬ x < x := by rw [UInt8.lt_iff_toNat_lt]; exact Nat.lt_irrefl _
    simp only [Lib.compareBytes, if_neg h]; exact cmpB_self a
theorem cmpB_eq : ∀ {a b : List UInt8}, Lib.compareBytes a b = 0 → a = b
  | [], [], _ => rfl
  | [], _ :: _, h => by simp [Lib.compareBytes] at h
  | _ :: _, [], h => by simp [Lib.compareBytes] at h
  | x :: a, y :: b, h => by
    simp only [Lib.compareBytes] at h
    split at h
    · omega
    · split at h
      · omega
      · rename_i h1 h2
        have : x = y := by rw [UInt8.lt_iff_toNat_lt] at h1 h2; exact UInt8.toNat_inj.1 (by omega)
        rw [this, cmpB_eq h]
theorem cmpB_neg : ∀ (a b : List UInt8), Lib.compareBytes a b = - Lib.compareBytes b a
  | [], [] => rfl
  | [], _ :: _ => rfl
  | _ :: _, [] => rfl
  | x :: a, y :: b => by
    have ih := cmpB_neg a b
    simp only [Lib.compareBytes]
    by_cases h1 : x < y
    · have h2 : ¬ y < x := by rw [UInt8.lt_iff_toNat_lt] at *; omega
      simp [h1, h2]
    · by_cases h2 : y < x
      · simp [h1, h2]
      · simp [h1, h2, ih]
theorem cmpB_range : ∀ (a b : List UInt8), Lib.compareBytes a b = -1 ∨ Lib.compareBytes a b = 0 ∨ Lib.compareBytes a b = 1
  | [], [] => .inr (.inl rfl)
  | [], _ :: _ => .inl rfl
  | _ :: _, [] => .inr (.inr rfl)
  | x :: a, y :: b => by
    have ih := cmpB_range a b
    simp only [Lib.compareBytes]
    split
    · exact .inl rfl
    · split
      · exact .inr (.inr rfl)
      · exact ih
theorem cmpB_trans : ∀ {a b c : List UInt8}, Lib.compareBytes a b ≤ 0 → Lib.compareBytes b c ≤ 0 → Lib.compareBytes a c ≤ 0
  | [], [], _, _, h => h
  | [], _ :: _, [], _, h => by simp [Lib.compareBytes]
  | [], _ :: _, _ :: _, _, _ => by simp [Lib.compareBytes]
  | _ :: _, [], _, h, _ => by simp [Lib.compareBytes] at h
  | _ :: _, _ :: _, [], _, h => by simp [Lib.compareBytes] at h
  | x :: a, y :: b, z :: c, h1, h2 => by
    simp only [Lib.compareBytes] at *
    simp only [UInt8.lt_iff_toNat_lt] at *
    have ih := @cmpB_trans a b c
    grind
/-- The order of lines: by module, then by number. -/
def cfL (a b : Lc) : Int := if Lib.compareBytes a.md.data.toList b.md.data.toList ≠ 0 then Lib.compareBytes a.md.data.toList b.md.data.toList else Lib.compareInt a.ln b.ln
instance : Inhabited Lc := ⟨zeroL (ByteArray.mk #[], 0)⟩
theorem cmpI (x y : Int) : (Lib.compareInt x y < 0 ↔ x < y) ∧ (Lib.compareInt x y = 0 ↔ x = y) := by unfold Lib.compareInt; grind
theorem ltL (x y : Lc) : ltOf cfL x y = true ↔ Lib.compareBytes x.md.data.toList y.md.data.toList = -1 ∨ (Lib.compareBytes x.md.data.toList y.md.data.toList = 0 ∧ x.ln < y.ln) := by
  have h := cmpB_range x.md.data.toList y.md.data.toList
  have hi := (cmpI x.ln y.ln).1
  unfold ltOf cfL
  simp only [decide_eq_true_eq]
  grind
theorem ltLf (x y : Lc) : ltOf cfL x y = false ↔ Lib.compareBytes x.md.data.toList y.md.data.toList = 1 ∨ (Lib.compareBytes x.md.data.toList y.md.data.toList = 0 ∧ y.ln ≤ x.ln) := by
  have h := cmpB_range x.md.data.toList y.md.data.toList
  have h2 := ltL x y
  cases hb : ltOf cfL x y
  · rw [hb] at h2; simp only [true_iff]; grind
  · rw [hb] at h2; grind
theorem swoL : SWO (ltOf cfL) where
  irrefl x := by rw [ltLf]; exact .inr ⟨cmpB_self _, Int.le_refl _⟩
  trans x y z h1 h2 := by
    rw [ltL] at *
    have e1 := cmpB_range x.md.data.toList z.md.data.toList
    have e2 := @cmpB_trans x.md.data.toList y.md.data.toList z.md.data.toList
    have e3 := @cmpB_trans z.md.data.toList x.md.data.toList y.md.data.toList
    have e4 := @cmpB_trans y.md.data.toList z.md.data.toList x.md.data.toList
    have e5 := cmpB_neg x.md.data.toList y.md.data.toList
    have e6 := cmpB_neg x.md.data.toList z.md.data.toList
    have e7 := cmpB_neg y.md.data.toList z.md.data.toList
    grind
  ntrans x y z h1 h2 := by
    rw [ltLf] at *
    have e1 := cmpB_range x.md.data.toList z.md.data.toList
    have e2 := @cmpB_trans z.md.data.toList y.md.data.toList x.md.data.toList
    have e3 := @cmpB_trans x.md.data.toList z.md.data.toList y.md.data.toList
    have e4 := @cmpB_trans y.md.data.toList x.md.data.toList z.md.data.toList
    have e5 := cmpB_neg x.md.data.toList y.md.data.toList
    have e6 := cmpB_neg x.md.data.toList z.md.data.toList
    have e7 := cmpB_neg y.md.data.toList z.md.data.toList
    grind
theorem ltL_pl {x y : Lc} (h1 : ltOf cfL x y = false) (h2 : ltOf cfL y x = false) : x.pl = y.pl := by
  rw [ltLf] at *
  have e5 := cmpB_neg x.md.data.toList y.md.data.toList
  have e : Lib.compareBytes x.md.data.toList y.md.data.toList = 0 := by grind
  have e2 : Lib.compareBytes y.md.data.toList x.md.data.toList = 0 := by grind
  have e3 := cmpB_eq e
  have e4 : x.md = y.md := by
    cases hx : x.md with | mk dx => cases hy : y.md with | mk dy =>
    rw [hx, hy] at e3
    simp only [Array.toList_inj] at e3
    rw [e3]
  unfold Lc.pl
  rw [e4, show x.ln = y.ln by grind]
def srtL (xs : List Lc) : List Lc := (pdq (ltOf cfL) xs.toArray 0 xs.toArray.size (Lib.bitLen xs.toArray.size) true true).toList
theorem srtL_perm (xs : List Lc) : (srtL xs).Perm xs := by
  obtain ⟨⟨h1, _, h3⟩, _⟩ := pdq_sorts (ltOf cfL) swoL xs.toArray 0 xs.toArray.size (Lib.bitLen xs.toArray.size) true true (Nat.zero_le _) (Nat.le_refl _) (Or.inl rfl)
  unfold srtL
  generalize pdq (ltOf cfL) xs.toArray 0 xs.toArray.size (Lib.bitLen xs.toArray.size) true true = d at *
  rw [← h1, Array.extract_size] at h3
  rw [h1, Array.extract_size] at h3
  simpa using h3
theorem srtL_sorted (xs : List Lc) : (srtL xs).Pairwise fun a b => ltOf cfL b a = false := by
  obtain ⟨⟨h1, _, _⟩, h2⟩ := pdq_sorts (ltOf cfL) swoL xs.toArray 0 xs.toArray.size (Lib.bitLen xs.toArray.size) true true (Nat.zero_le _) (Nat.le_refl _) (Or.inl rfl)
  unfold srtL
  generalize pdq (ltOf cfL) xs.toArray 0 xs.toArray.size (Lib.bitLen xs.toArray.size) true true = d at *
  rw [List.pairwise_iff_getElem]
  intro i j hi hj hij
  have hi' : i < d.size := by simpa using hi
  have hj' : j < d.size := by simpa using hj
  have := h2 i j (Nat.zero_le _) hij (by omega)
  rw [getElem!_pos d i hi', getElem!_pos d j hj'] at this
  simpa using this
/-- Sorted lists with the same members and no key twice are one. -/
theorem sorted_uniq {xs ys : List Lc} (h : xs.Perm ys) (hn : (xs.map Lc.pl).Nodup) (hx : xs.Pairwise fun a b => ltOf cfL b a = false) (hy : ys.Pairwise fun a b => ltOf cfL b a = false) : xs = ys := by
  refine h.eq_of_pairwise (fun a b ha hb h1 h2 => ?_) hx hy
  have hp := ltL_pl h2 h1
  have hb' := h.mem_iff.2 hb
  obtain ⟨i, hi⟩ := List.mem_iff_getElem?.1 ha
  obtain ⟨j, hj⟩ := List.mem_iff_getElem?.1 hb'
  have e1 : (xs.map Lc.pl)[i]? = some a.pl := by rw [List.getElem?_map, hi]; rfl
  have e2 : (xs.map Lc.pl)[j]? = some b.pl := by rw [List.getElem?_map, hj]; rfl
  have : i = j := (List.getElem?_inj (l := xs.map Lc.pl) (List.getElem?_eq_some_iff.1 e1).1 hn).1 (by rw [e1, e2, hp])
  subst this
  rw [hi] at hj
  injection hj
theorem srtL_congr {xs ys : List Lc} (h : xs.Perm ys) (hn : (xs.map Lc.pl).Nodup) : srtL xs = srtL ys :=
  sorted_uniq ((srtL_perm xs).trans (h.trans (srtL_perm ys).symm)) (((srtL_perm xs).map Lc.pl).nodup_iff.2 hn) (srtL_sorted xs) (srtL_sorted ys)
end Go.Proofs.YtabmcfnefjipbaaGreatDoor
namespace Go.Proofs.YtabmcfnefjipbaaGreatDoor
open Go.RowKit Go.Sort
/-- New blocks and draws, nothing else. -/
def Grw (w w' : World) : Prop := ∃ q os, w' = grow (w.drewN q) os
theorem Grw.refl (w : World) : Grw w w := ⟨0, #[], by simp [grow, World.drewN]⟩
theorem Grw.alloc {w w1 : World} (h : Grw w w1) (o : Obj) : Grw w (w1.alloc o) := by
  obtain ⟨q, os, rfl⟩ := h
  exact ⟨q, os.push o, by simp [grow, World.alloc]⟩
theorem Grw.drewN {w w1 : World} (h : Grw w w1) (n : Nat) : Grw w (w1.drewN n) := by
  obtain ⟨q, os, rfl⟩ := h
  exact ⟨q + n, os, by simp [grow, World.drewN, Nat.add_assoc]⟩
theorem Grw.drew {w w1 : World} (h : Grw w w1) : Grw w w1.drew := h.drewN 1
def lcV (c : Lc) : List Value := [.string c.md, .int .i64 c.ln, .int .i64 c.ct, .int .i64 c.ow]
set_option maxHeartbeats 1000000 in
set_option maxRecDepth 100000 in
theorem cmpStr_any (a b : ByteArray) (w : World) :
    Calls Tryz.prog 107 #[.string a, .string b] w fun r w' => r = .returned (.int .i64 (Lib.compareBytes a.data.toList b.data.toList)) ∧ w = w' := by
  go_enter Tryz.func107, Tryz.ntmps107
  go_wp2
  rw [run_callFunc_extern Tryz.func135 (by kernel_rfl) (by kernel_rfl) (by kernel_rfl) (e := Extern.BytealgCompare.compare) (by kernel_rfl), Lib.run_compareString]
  simp only [Result.andThen]
  rw [Oper.upon_value]
  go_wp2
  go_ret
  exact ⟨rfl, rfl⟩
set_option maxHeartbeats 400000 in
theorem strCmp_any (a b : ByteArray) (w : World) :
    Calls Tryz.prog 82 #[.string a, .string b] w fun r w' => r = .returned (.int .i64 (Lib.compareBytes a.data.toList b.data.toList)) ∧ w = w' := by
  go_enter Tryz.func82, Tryz.ntmps82
  go_wp2_with (go_at_call 107; refine (cmpStr_any _ _ _).mono ?_; rintro e w' ⟨rfl, rfl⟩)
  go_ret
  exact ⟨rfl, rfl⟩
theorem cmpI_eq (a b : Int) : cmpIn a b = Lib.compareInt a b := rfl
set_option maxHeartbeats 800000 in
theorem cfL_any (a b : Lc) (w : World) :
    Calls Tryz.prog 80 #[.agg (lcV a).toArray, .agg (lcV b).toArray] w fun r w' => r = .returned (.int .i64 (cfL a b)) ∧ Grw w w' := by
  obtain ⟨a1, a2, a3, a4⟩ := a
  obtain ⟨b1, b2, b3, b4⟩ := b
  have H := Lib.hid (show orI (Lib.compareBytes a1.data.toList b1.data.toList) (cmpIn a2 b2) = cfL ⟨a1, a2, a3, a4⟩ ⟨b1, b2, b3, b4⟩ by unfold orI cfL; rw [cmpI_eq]; simp)
  rw [← H.out]
  unfold lcV
  go_enter Tryz.func80, Tryz.ntmps80
  go_wp2
  go_region_held3 (fun w' => w'.cell? ⟨w.heap.size, 0, none⟩ = some (.string a1) ∧ w'.cell? ⟨w.heap.size, 1, none⟩ = some (.int .i64 a2) ∧ w'.cell? ⟨w.heap.size + 1, 0, none⟩ = some (.string b1) ∧ w'.cell? ⟨w.heap.size + 1, 1, none⟩ = some (.int .i64 b2)) (simp [go_sem, World.cell?_alloc_past])
    (first
      | (go_at_call 82; refine (strCmp_any _ _ _).mono ?_; rintro e w' ⟨rfl, rfl⟩)
      | (go_at_call 83; refine (compare_any _ _ _).mono ?_; rintro e w' ⟨rfl, rfl⟩)
      | (go_at_call 81; refine (or_any (Lib.compareBytes a1.data.toList b1.data.toList) (cmpIn a2 b2) _ _ ?_ ?_).mono ?_; (go_simp); (go_simp); rintro e w' ⟨rfl, rfl⟩))
  go_wp2
  go_ret
  exact ⟨rfl, by repeat (first | exact Grw.refl _ | apply Grw.drew | apply Grw.drewN | refine Grw.alloc ?_ _)⟩
end Go.Proofs.YtabmcfnefjipbaaGreatDoor
namespace Go.Proofs.YtabmcfnefjipbaaGreatDoor
open Go.Shelf
def lays156_ren : Go.Shelf.Ren := ⟨fun | 156 => 42 | 165 => 73 | 166 => 74 | 169 => 75 | 240 => 102 | 241 => 103 | 276 => 119 | 277 => 120 | n => n, fun | 31 => 23 | 9 => 9 | 3 => 3 | 4 => 4 | 0 => 0 | 20 => 20 | 72 => 134 | 76 => 138 | 70 => 131 | 37 => 132 | 75 => 137 | 127 => 173 | 164 => 185 | 5 => 5 | 80 => 140 | n => n, fun | n => n⟩
theorem lays156 : Go.Proofs.Lays.n156 Tryz.prog lays156_ren := {
  mixed := by kernel_rfl
  f156 := Tryz.func42.trans (congrArg some (by kernel_rfl))
  f165 := Tryz.func73.trans (congrArg some (by kernel_rfl))
  f166 := Tryz.func74.trans (congrArg some (by kernel_rfl))
  f169 := Tryz.func75.trans (congrArg some (by kernel_rfl))
  f240 := Tryz.func102.trans (congrArg some (by kernel_rfl))
  f241 := Tryz.func103.trans (congrArg some (by kernel_rfl))
  f276 := Tryz.func119.trans (congrArg some (by kernel_rfl))
  f277 := Tryz.func120.trans (congrArg some (by kernel_rfl))
  t0 := Tryz.underlying0
  a0 := Tryz.isAgg0
  z0 := Tryz.sizeOf0
  v0 := Tryz.zeroValue0
  t3 := Tryz.underlying3
  a3 := Tryz.isAgg3
  z3 := Tryz.sizeOf3
  v3 := Tryz.zeroValue3
  t4 := Tryz.underlying4
  a4 := Tryz.isAgg4
  z4 := Tryz.sizeOf4
  v4 := Tryz.zeroValue4
  t9 := Tryz.underlying9
  a9 := Tryz.isAgg9
  z9 := Tryz.sizeOf9
  v9 := Tryz.zeroValue9
  t20 := Tryz.underlying20
  a20 := Tryz.isAgg20
  z20 := Tryz.sizeOf20
  v20 := Tryz.zeroValue20
  t31 := Tryz.underlying23
  a31 := Tryz.isAgg23
  z31 := Tryz.sizeOf23
  v31 := Tryz.zeroValue23
  t37 := Tryz.underlying132
  a37 := Tryz.isAgg132
  z37 := Tryz.sizeOf132
  v37 := Tryz.zeroValue132
  t70 := Tryz.underlying131
  a70 := Tryz.isAgg131
  z70 := Tryz.sizeOf131
  v70 := Tryz.zeroValue131
  t72 := Tryz.underlying134
  a72 := Tryz.isAgg134
  z72 := Tryz.sizeOf134
  v72 := Tryz.zeroValue134
  t75 := Tryz.underlying137
  a75 := Tryz.isAgg137
  z75 := Tryz.sizeOf137
  v75 := Tryz.zeroValue137
  t76 := Tryz.underlying138
  a76 := Tryz.isAgg138
  z76 := Tryz.sizeOf138
  v76 := Tryz.zeroValue138
  t127 := Tryz.underlying173
  a127 := Tryz.isAgg173
  z127 := Tryz.sizeOf173
  v127 := Tryz.zeroValue173
  t164 := Tryz.underlying185
  a164 := Tryz.isAgg185
  z164 := Tryz.sizeOf185
  v164 := Tryz.zeroValue185 }
theorem Builder_Extra_156 : Builder.Extra Tryz.prog lays156_ren := {
  sizeBuilder := by kernel_rfl
  liesBuilder := by kernel_rfl
  t5 := Tryz.underlying5
  a5 := Tryz.isAgg5
  z5 := Tryz.sizeOf5
  v5 := Tryz.zeroValue5
  infoByte := by kernel_rfl
  cellsByte := by kernel_rfl
  sizeByte := by kernel_rfl
  neB5 := by decide }
def laysM171_ren : Go.Shelf.Ren := ⟨fun | 171 => 43 | 243 => 76 | 246 => 104 | 283 => 121 | 284 => 122 | 285 => 123 | 286 => 124 | 129 => 134 | 317 => 144 | 318 => 145 | 319 => 146 | 320 => 147 | 337 => 165 | 338 => 166 | n => n, fun | 3 => 3 | 9 => 9 | 2 => 2 | 4 => 4 | 171 => 188 | 0 => 0 | 53 => 189 | 37 => 132 | 5 => 5 | 173 => 192 | 212 => 208 | 51 => 202 | 20 => 20 | 213 => 209 | 46 => 177 | 232 => 235 | 233 => 236 | n => n, fun | 17 => 1 | 18 => 4 | 19 => 5 | n => n⟩
theorem laysM171 : Go.Proofs.LaysM.n171 Tryz.prog laysM171_ren := {
  mixed := by kernel_rfl
  f129 := Tryz.func134.trans (congrArg some (by kernel_rfl))
  f171 := Tryz.func43.trans (congrArg some (by kernel_rfl))
  f243 := Tryz.func76.trans (congrArg some (by kernel_rfl))
  f246 := Tryz.func104.trans (congrArg some (by kernel_rfl))
  f283 := Tryz.func121.trans (congrArg some (by kernel_rfl))
  f284 := Tryz.func122.trans (congrArg some (by kernel_rfl))
  f285 := Tryz.func123.trans (congrArg some (by kernel_rfl))
  f286 := Tryz.func124.trans (congrArg some (by kernel_rfl))
  f317 := Tryz.func144.trans (congrArg some (by kernel_rfl))
  f318 := Tryz.func145.trans (congrArg some (by kernel_rfl))
  f319 := Tryz.func146.trans (congrArg some (by kernel_rfl))
  f320 := Tryz.func147.trans (congrArg some (by kernel_rfl))
  f337 := Tryz.func165.trans (congrArg some (by kernel_rfl))
  f338 := Tryz.func166.trans (congrArg some (by kernel_rfl))
  t0 := Tryz.underlying0
  a0 := Tryz.isAgg0
  z0 := Tryz.sizeOf0
  v0 := Tryz.zeroValue0
  t2 := Tryz.underlying2
  a2 := Tryz.isAgg2
  z2 := Tryz.sizeOf2
  v2 := Tryz.zeroValue2
  t3 := Tryz.underlying3
  a3 := Tryz.isAgg3
  z3 := Tryz.sizeOf3
  v3 := Tryz.zeroValue3
  t4 := Tryz.underlying4
  a4 := Tryz.isAgg4
  z4 := Tryz.sizeOf4
  v4 := Tryz.zeroValue4
  t5 := Tryz.underlying5
  a5 := Tryz.isAgg5
  z5 := Tryz.sizeOf5
  v5 := Tryz.zeroValue5
  t9 := Tryz.underlying9
  a9 := Tryz.isAgg9
  z9 := Tryz.sizeOf9
  v9 := Tryz.zeroValue9
  t20 := Tryz.underlying20
  a20 := Tryz.isAgg20
  z20 := Tryz.sizeOf20
  v20 := Tryz.zeroValue20
  t37 := Tryz.underlying132
  a37 := Tryz.isAgg132
  z37 := Tryz.sizeOf132
  v37 := Tryz.zeroValue132
  t46 := Tryz.underlying177
  a46 := Tryz.isAgg177
  z46 := Tryz.sizeOf177
  v46 := Tryz.zeroValue177
  t51 := Tryz.underlying202
  a51 := Tryz.isAgg202
  z51 := Tryz.sizeOf202
  v51 := Tryz.zeroValue202
  t53 := Tryz.underlying189
  a53 := Tryz.isAgg189
  z53 := Tryz.sizeOf189
  v53 := Tryz.zeroValue189
  t171 := Tryz.underlying188
  a171 := Tryz.isAgg188
  z171 := Tryz.sizeOf188
  v171 := Tryz.zeroValue188
  t173 := Tryz.underlying192
  a173 := Tryz.isAgg192
  z173 := Tryz.sizeOf192
  v173 := Tryz.zeroValue192
  t212 := Tryz.underlying208
  a212 := Tryz.isAgg208
  z212 := Tryz.sizeOf208
  v212 := Tryz.zeroValue208
  t213 := Tryz.underlying209
  a213 := Tryz.isAgg209
  z213 := Tryz.sizeOf209
  t232 := Tryz.underlying235
  a232 := Tryz.isAgg235
  z232 := Tryz.sizeOf235
  v232 := Tryz.zeroValue235
  t233 := Tryz.underlying236
  a233 := Tryz.isAgg236
  z233 := Tryz.sizeOf236
  v233 := Tryz.zeroValue236
  g17 := by kernel_rfl
  g18 := by kernel_rfl
  g19 := by kernel_rfl
  i0 := by kernel_rfl
  i2 := by kernel_rfl
  i3 := by kernel_rfl
  i4 := by kernel_rfl
  i5 := by kernel_rfl
  i9 := by kernel_rfl
  i20 := by kernel_rfl
  i37 := by kernel_rfl
  i46 := by kernel_rfl
  i51 := by kernel_rfl
  i53 := by kernel_rfl
  i171 := by kernel_rfl
  i173 := by kernel_rfl
  i212 := by kernel_rfl
  i232 := by kernel_rfl
  i233 := by kernel_rfl
  m17 := by kernel_rfl
  m18 := by kernel_rfl
  m19 := by kernel_rfl }
def sortLay_ren : Go.Shelf.Ren := ⟨fun | 6 => 79 | 15 => 106 | 14 => 105 | 28 => 133 | 29 => 134 | 20 => 125 | 21 => 126 | 22 => 127 | 23 => 128 | 24 => 129 | 25 => 130 | 26 => 131 | 27 => 132 | 46 => 148 | 47 => 149 | 48 => 150 | 49 => 151 | 50 => 152 | 57 => 167 | n => n, fun | 22 => 92 | 24 => 98 | 25 => 157 | 3 => 3 | 39 => 177 | 0 => 0 | 53 => 202 | 55 => 189 | 4 => 4 | 46 => 196 | 45 => 195 | 50 => 38 | 5 => 5 | 9 => 9 | 66 => 210 | 70 => 142 | 76 => 225 | 77 => 226 | n => n, fun | n => n⟩
theorem sortLay : Go.Proofs.SlLaysF0.n6 Tryz.prog sortLay_ren := {
  mixed := by kernel_rfl
  f6 := ⟨Tryz.f79.name, by decide, Tryz.func79.trans (congrArg some (by kernel_rfl))⟩
  f14 := ⟨Tryz.f105.name, by decide, Tryz.func105.trans (congrArg some (by kernel_rfl))⟩
  f15 := Tryz.func106.trans (congrArg some (by kernel_rfl))
  f20 := ⟨Tryz.f125.name, by decide, Tryz.func125.trans (congrArg some (by kernel_rfl))⟩
  f21 := ⟨Tryz.f126.name, by decide, Tryz.func126.trans (congrArg some (by kernel_rfl))⟩
  f22 := ⟨Tryz.f127.name, by decide, Tryz.func127.trans (congrArg some (by kernel_rfl))⟩
  f23 := ⟨Tryz.f128.name, by decide, Tryz.func128.trans (congrArg some (by kernel_rfl))⟩
  f24 := ⟨Tryz.f129.name, by decide, Tryz.func129.trans (congrArg some (by kernel_rfl))⟩
  f25 := ⟨Tryz.f130.name, by decide, Tryz.func130.trans (congrArg some (by kernel_rfl))⟩
  f26 := ⟨Tryz.f131.name, by decide, Tryz.func131.trans (congrArg some (by kernel_rfl))⟩
  f27 := ⟨Tryz.f132.name, by decide, Tryz.func132.trans (congrArg some (by kernel_rfl))⟩
  f28 := Tryz.func133.trans (congrArg some (by kernel_rfl))
  f29 := Tryz.func134.trans (congrArg some (by kernel_rfl))
  f46 := ⟨Tryz.f148.name, by decide, Tryz.func148.trans (congrArg some (by kernel_rfl))⟩
  f47 := Tryz.func149.trans (congrArg some (by kernel_rfl))
  f48 := Tryz.func150.trans (congrArg some (by kernel_rfl))
  f49 := ⟨Tryz.f151.name, by decide, Tryz.func151.trans (congrArg some (by kernel_rfl))⟩
  f50 := ⟨Tryz.f152.name, by decide, Tryz.func152.trans (congrArg some (by kernel_rfl))⟩
  f57 := ⟨Tryz.f167.name, by decide, Tryz.func167.trans (congrArg some (by kernel_rfl))⟩
  t0 := Tryz.underlying0
  a0 := Tryz.isAgg0
  z0 := Tryz.sizeOf0
  v0 := Tryz.zeroValue0
  t3 := Tryz.underlying3
  a3 := Tryz.isAgg3
  z3 := Tryz.sizeOf3
  v3 := Tryz.zeroValue3
  t4 := Tryz.underlying4
  a4 := Tryz.isAgg4
  z4 := Tryz.sizeOf4
  v4 := Tryz.zeroValue4
  t5 := Tryz.underlying5
  a5 := Tryz.isAgg5
  z5 := Tryz.sizeOf5
  v5 := Tryz.zeroValue5
  t9 := Tryz.underlying9
  a9 := Tryz.isAgg9
  z9 := Tryz.sizeOf9
  v9 := Tryz.zeroValue9
  t22 := Tryz.underlying92
  a22 := Tryz.isAgg92
  z22 := Tryz.sizeOf92
  v22 := Tryz.zeroValue92
  t25 := Tryz.underlying157
  a25 := Tryz.isAgg157
  z25 := Tryz.sizeOf157
  v25 := Tryz.zeroValue157
  t39 := Tryz.underlying177
  a39 := Tryz.isAgg177
  z39 := Tryz.sizeOf177
  v39 := Tryz.zeroValue177
  t45 := Tryz.underlying195
  a45 := Tryz.isAgg195
  z45 := Tryz.sizeOf195
  v45 := Tryz.zeroValue195
  t46 := Tryz.underlying196
  a46 := Tryz.isAgg196
  z46 := Tryz.sizeOf196
  v46 := Tryz.zeroValue196
  t50 := Tryz.underlying38
  a50 := Tryz.isAgg38
  z50 := Tryz.sizeOf38
  v50 := Tryz.zeroValue38
  t53 := Tryz.underlying202
  a53 := Tryz.isAgg202
  z53 := Tryz.sizeOf202
  v53 := Tryz.zeroValue202
  t55 := Tryz.underlying189
  a55 := Tryz.isAgg189
  z55 := Tryz.sizeOf189
  v55 := Tryz.zeroValue189
  t66 := Tryz.underlying210
  a66 := Tryz.isAgg210
  z66 := Tryz.sizeOf210
  v66 := Tryz.zeroValue210
  t70 := Tryz.underlying142
  a70 := Tryz.isAgg142
  z70 := Tryz.sizeOf142
  v70 := Tryz.zeroValue142
  t76 := Tryz.underlying225
  a76 := Tryz.isAgg225
  z76 := Tryz.sizeOf225
  v76 := Tryz.zeroValue225
  t77 := Tryz.underlying226
  a77 := Tryz.isAgg226
  z77 := Tryz.sizeOf226
  v77 := Tryz.zeroValue226 }
end Go.Proofs.YtabmcfnefjipbaaGreatDoor
