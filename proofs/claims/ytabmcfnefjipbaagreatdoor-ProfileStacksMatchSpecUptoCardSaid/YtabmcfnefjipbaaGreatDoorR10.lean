/-
  Part 10 of the proofs of stacks_holds: laws and contracts that they need.
-/
import Derived.Test.YtabmcfnefjipbaaGreatDoorR9
set_option linter.unusedVariables false
set_option linter.unusedSimpArgs false
namespace Go.Proofs.YtabmcfnefjipbaaGreatDoor
open Go.RowKit
abbrev skOb (zt : Fz) (out : List Sk) : List (Nat × Ob) := [(5, .bx 25 [.u (.int .i64 0), .u (.int .i64 0)]), (7, .bx 74 [.mp 903]), (8, .bx 23 [.ow 901 out.length]), (9, .bx 76 [.ow 902 out.length]), (903, .mp false false (atS out)), (901, .ar 9 1 (out.map skN)), (902, .ar 3 1 (out.map skS)), (907, tbOb zt)]
theorem skOb_mf (zt : Fz) (out : List Sk) : MfObsZ [zt] (skOb zt out) := by
  intro p hp
  simp only [List.mem_cons, List.not_mem_nil, or_false] at hp
  rcases hp with rfl | rfl | rfl | rfl | rfl | rfl | rfl | rfl
  · exact .inl (by simp [MfOb, mfD, mfV])
  · exact .inl (by simp [MfOb, mfD])
  · exact .inl (by simp [MfOb, mfD])
  · exact .inl (by simp [MfOb, mfD])
  · refine .inl fun e he v hv => ?_
    obtain ⟨k, c, _, rfl⟩ := atK_mem e he
    simp only [encS, valS, List.mem_append, List.mem_cons, List.not_mem_nil, or_false] at hv
    rcases hv with rfl | rfl <;> rfl
  · exact .inl (by simp [MfOb, mfV])
  · exact .inl (by simp [MfOb, mfV])
  · exact .inr ⟨zt, _, rfl, by simp⟩
set_option maxHeartbeats 40000000 in
theorem stacks_ok {l : List Ev} {fuel : Int} (hc : checkM l fuel = (0, 0)) (hx : fuel ≤ 9223372036854775807) (zt : Fz) (hz : Tab zt) : CallsA Tryz.prog 12 [.d (.u (evs l)), di fuel] [(907, tbOb zt)] (Iso (.t [.d (.ow 908 (stacksM l fuel).length), .a [.u (.int .i64 0), .u (.int .i64 0)]]) [(908, .ar 9 1 ((stacksM l fuel).map fun s => [.str s])), (907, tbOb zt)]) := by
  have t := check_Tr (l := l) (fuel := fuel) (by rw [hc]) hx
  have h1 := check_T l fuel
  rw [hc] at h1
  have h2 := before_T l fuel
  have h3 := steps0_T l fuel
  refine callsA_of_rfO (T := tt) Tryz.func12 rfl rfl rfl rfl rfl ?_
  repeat' ((conv => whnf); first | refine Raw.mapUpdate (T := tt) (.inr rfl) rfl rfl rfl rfl rfl rfl rfl rfl rfl rfl rfl (by simp) ?_ | refine Gs.id ?_ | with_reducible refine Brn.F rfl ?_ | refine Raw.makeMap (T := tt) rfl rfl rfl rfl rfl rfl (.inl rfl) rfl rfl ?_ | (refine CL.mk (Or.inl ?_); (conv => whnf); first | refine Cl.is (h1) rfl (by first | exact fun _ => rfl | fail) ?_ | refine Cl.is (h2) rfl (by first | exact fun _ => rfl | fail) ?_ | refine Cl.is (h3) rfl (by first | (intro e; cases e; done) | fail) ?_) | fail)
  all_goals (conv => whnf)
  refine ⟨⟨Nat, fun i => i ≤ l.length, fun i => i = l.length, fun i ss => ∃ e, l[i]? = some e ∧ ss = [stepSV e (amt l fuel i) (stackAt l (i + 1))], fun i _ => i + 1, fun i => skOb zt (stacksAt l fuel i), 0, [(5, .d (.p 5 0)), (7, .d (.p 7 0)), (8, .d (.p 8 0)), (9, .d (.p 9 0)), (36, .d (.u (stepsV l fuel)))], _, [(5, .k 5), (7, .k 7), (8, .k 8), (9, .k 9), (903, .k 27), (901, .k 29), (902, .k 33), (907, .k 907)], _, _, 909, [zt], Nat.zero_le _, (by intro z hz; simp at hz; subst hz; exact ⟨907, _, rfl⟩), ⟨by (try dsimp only); (repeat (refine LeT.cons rfl (by first | exact LeS.d (by first | exact LeD.u rfl | exact LeD.p rfl | exact LeD.ow rfl rfl | exact LeD.no rfl rfl | exact LeD.u (by simp; done) | fail) | fail) ?_)); exact LeT.nil, by (try dsimp only); repeat (first | exact LeO.nil | refine LeO.bx rfl rfl (by repeat (first | exact LeL.nil | refine LeL.cons (by first | exact LeD.u rfl | exact LeD.ow rfl rfl | exact LeD.mp rfl | fail) ?_)) ?_ | refine LeO.ar rfl rfl (by first | rfl | fail) ?_ | refine LeO.ab rfl rfl (by repeat (first | exact LeL.nil | refine LeL.cons (by first | exact LeD.p rfl | fail) ?_)) (by first | rfl | fail) ?_ | refine LeO.mp rfl rfl (by first | rfl | fail) ?_ | refine LeO.no rfl rfl ?_)⟩, rfl, rfl, ?_, rfl, fun i _ => skOb_mf zt _, ?_, ?_, ?_, ?_⟩⟩
  · simp [nmlS, nmlD]
  · rintro i ss hi ⟨e, he, rfl⟩
    have := (List.getElem?_eq_some_iff.1 he).1
    exact ⟨show i + 1 ≤ l.length by omega, rfl, by simp [stepSV_nm]⟩
  · rintro i ss hi ⟨e, he, rfl⟩ us zb
    have hilt := (List.getElem?_eq_some_iff.1 he).1
    have ok := t.vd.ok he
    have hlen := stacks_len (l := l) (fuel := fuel) i
    have hL := t.len
    have hsb := stacks_SB t i (by omega)
    have ha0 := t.amt he
    have haE := amt_eq (fuel := fuel) he
    have hcur := t.cur i (by omega)
    have hcur2 := t.cur (i + 1) (by omega)
    have hslen0 := stack_len (l := l) (i + 1)
    have hso := stack_ok t.vd (i + 1) (by omega)
    have htot := stack_total t.vd (i + 1) (by omega) hL
    have hnz := stackB_size t.vd (i + 1) (by omega) hL
    dsimp only
    rw [stacksAt]
    generalize hx0 : stacksAt l fuel i = out at *
    generalize amt l fuel i = a at *
    generalize curF l fuel i = B at *
    generalize curF l fuel (i + 1) = B2 at *
    generalize stackAt l (i + 1) = s at *
    have hj := sjoin_T (s.map partB) semi (by omega) (by simp; omega)
    rw [show joinB (s.map partB) semi (s.map partB).length = stackB s from rfl] at hj
    unfold stepS
    have hnm0 : (stackB s).size ≤ maxLen := by unfold maxLen; omega
    generalize hnm : stackB s = nm at *
    repeat' ((conv => whnf); first | refine Gs.id ?_ | refine Brn.F (by (try simp only [smT]); first | rfl | omega | fail) ?_ | (refine Bnd.mk (fun hm => ?_); (try simp only [smT] at hm)) | fail)
    all_goals (conv => whnf)
    refine ⟨⟨Nat × List ByteArray, fun q => q.1 ≤ s.length ∧ q.2 = (s.take q.1).map partB, fun q => s.length - q.1, fun q => ⟨[(7, .d (.p 7 0)), (8, .d (.p 8 0)), (9, .d (.p 9 0)), (10, .d (.p 10 0)), (11, .d (.ow 910 q.2.length)), (39, .d (.u (.sl 3 (s.map acR)))), (40, di s.length), (41, di q.1)], (909, .ab [.p 5 0, .p 7 0, .p 8 0, .p 9 0] us zb (· = [])) :: (10, .bx 81 (e.ds ++ [.u (.int .i64 a), .u (.sl 3 (s.map acR))])) :: (910, .ar 9 1 (strs q.2)) :: skOb zt out⟩, (0, []), ⟨Nat.zero_le _, rfl⟩, ⟨[(909, .k 909), (10, .k 10), (910, .n 1), (5, .k 5), (7, .k 7), (8, .k 8), (9, .k 9), (903, .k 903), (901, .k 901), (902, .k 902), (907, .k 907)], ⟨by (try dsimp only); (repeat (refine LeT.cons rfl (by first | exact LeS.d (by first | exact LeD.u rfl | exact LeD.p rfl | exact LeD.ow rfl rfl | exact LeD.no rfl rfl | exact LeD.u (by simp; done) | fail) | fail) ?_)); exact LeT.nil, by (try dsimp only); repeat (first | exact LeO.nil | refine LeO.bx rfl rfl (by repeat (first | exact LeL.nil | refine LeL.cons (by first | exact LeD.u rfl | exact LeD.ow rfl rfl | exact LeD.mp rfl | fail) ?_)) ?_ | refine LeO.ar rfl rfl (by first | rfl | fail) ?_ | refine LeO.ab rfl rfl (by repeat (first | exact LeL.nil | refine LeL.cons (by first | exact LeD.p rfl | fail) ?_)) (by first | rfl | fail) ?_ | refine LeO.mp rfl rfl (by first | rfl | fail) ?_ | refine LeO.no rfl rfl ?_)⟩⟩, fun q hq => ?_⟩⟩
    obtain ⟨q, ps⟩ := q
    obtain ⟨hq1, hq2⟩ := hq
    dsimp only at hq1 hq2 ⊢
    have hpl : ps.length = q := by rw [hq2, List.length_map, List.length_take]; omega
    by_cases h9 : q < s.length
    · obtain ⟨y, hy⟩ : ∃ y, s[q]? = some y := ⟨_, List.getElem?_eq_getElem h9⟩
      have hgetQ : (s.map acR)[q]? = some (acR y) := by rw [List.getElem?_map, hy]; rfl
      obtain ⟨hy1, hy2⟩ := hso y (List.mem_of_getElem? hy)
      have hpt : ps ++ [partB y] = (s.take (q + 1)).map partB := by rw [List.take_add_one, hy, hq2]; simp
      have hcl : (ByteArray.mk #[58]).size = 1 := rfl
      repeat' ((conv => whnf); first | refine (Ix.mk ⟨q, acR y, rfl, hgetQ, ?_⟩) | refine Cat.mk (by unfold maxLen; (try simp only [ByteArray.size_append]); omega) ?_ | refine Gs.id ?_ | refine Brn.T (by (try simp only [smT]); first | rfl | omega | fail) ?_ | refine Rng.mk (by (try simp only [smT]); omega) ?_ | refine Apd.mk (by first | rfl | simp) (by first | rfl | fail) (by (try simp only [smT]); first | omega | fail) (by unfold maxLen; first | (simp; omega) | fail) ?_ | fail)
      all_goals (conv => whnf)
      all_goals exact ⟨(q + 1, ps ++ [partB y]), ⟨by dsimp only; omega, hpt⟩, by dsimp only; omega, [(909, .k 909), (10, .k 10), (910, .k 55), (5, .k 5), (7, .k 7), (8, .k 8), (9, .k 9), (903, .k 903), (901, .k 901), (902, .k 902), (907, .k 907)], ⟨by (try dsimp only); (repeat (refine LeT.cons rfl (by first | exact LeS.d (by first | exact LeD.u rfl | exact LeD.p rfl | exact LeD.ow rfl (by simp [partB]) | fail) | fail) ?_)); exact LeT.nil, by (try dsimp only); repeat (first | exact LeO.nil | refine LeO.bx rfl rfl (by repeat (first | exact LeL.nil | refine LeL.cons (by first | exact LeD.u rfl | exact LeD.ow rfl rfl | exact LeD.mp rfl | fail) ?_)) ?_ | refine LeO.ar rfl rfl (by first | rfl | simp [partB]) ?_ | refine LeO.ab rfl rfl (by repeat (first | exact LeL.nil | refine LeL.cons (by first | exact LeD.p rfl | fail) ?_)) (by first | rfl | fail) ?_ | refine LeO.mp rfl rfl (by first | rfl | fail) ?_ | fail)⟩⟩
    · obtain rfl : q = s.length := by omega
      rw [List.take_length] at hq2
      subst hq2
      clear hso htot h9 hq1 hpl
      obtain ⟨k, c, k1, k2, k3⟩ := kidx_some (l := ensK Sk.nm zeroS out nm) (f := nm) ((mem_ensK (fun _ => rfl)).2 (.inr rfl))
      have hokT : ∀ e ∈ atS out, keyT .sr e.1 = true := atS_ok
      obtain ⟨has, k0, m1, m2, ht, hf⟩ : ∃ (has : Bool) (k0 : Int), mgetT (atS out) [.str nm] [.int .i64 0] = [.int .i64 k0] ∧ mhasT (atS out) [.str nm] = has ∧ (has = true → ensK Sk.nm zeroS out nm = out ∧ k0 = k) ∧ (has = false → ensK Sk.nm zeroS out nm = out ++ [zeroS nm] ∧ k = out.length ∧ mputT (atS out) [.str nm] [.int .i64 (out.length : Int)] = atS (out ++ [zeroS nm])) := by
        have m : mgetT (atS out) [.str nm] [.int .i64 0] = _ ∧ mhasT (atS out) [.str nm] = _ := atK_get (key := Sk.nm) (val := valS) encS_eq (l := out) (f := nm) (n := 0) [.int .i64 0]
        by_cases hm : nm ∈ out.map Sk.nm
        · have hen : ensK Sk.nm zeroS out nm = out := by unfold ensK; rw [if_pos hm]
          rw [hen] at k1
          rw [k1] at m
          exact ⟨true, k, by rw [m.1]; simp [valS], by rw [m.2]; rfl, fun _ => ⟨hen, rfl⟩, fun h => by cases h⟩
        · have hen : ensK Sk.nm zeroS out nm = out ++ [zeroS nm] := by unfold ensK; rw [if_neg hm]
          have hn := kidx_none.2 hm
          rw [hen, kidx_app hn (by rfl)] at k1
          injection k1 with k1
          rw [hn] at m
          refine ⟨false, 0, m.1, m.2, fun h => (by cases h), fun _ => ⟨hen, k1.symm, ?_⟩⟩
          have := atK_put (val := valS) encS_eq (n := 0) (c := zeroS nm) hn (by rfl)
          rw [Nat.zero_add] at this
          exact this
      have ht1 : has = true → ensK Sk.nm zeroS out nm = out := fun h => (ht h).1
      have ht2 : has = true → k0 = (k : Int) := fun h => (ht h).2
      have hf1 : has = false → ensK Sk.nm zeroS out nm = out ++ [zeroS nm] := fun h => (hf h).1
      have hf2 : has = false → (k : Int) = (out.length : Int) := fun h => by rw [(hf h).2.1]
      have hf3 : has = false → mputT (atS out) [.str nm] [.int .i64 (out.length : Int)] = atS (out ++ [zeroS nm]) := fun h => (hf h).2.2
      clear ht hf
      have hlo : out.length ≤ 20000 := by omega
      have HID := Lib.hid (show kidx Sk.nm (ensK Sk.nm zeroS out nm) nm = some k ∧ (ensK Sk.nm zeroS out nm)[k]? = some c ∧ SB B out ∧ (0 ≤ B ∧ B ≤ fuel) ∧ (0 ≤ B2 ∧ B2 ≤ fuel) ∧ 0 ≤ a ∧ a = B2 - B ∧ nm.size ≤ 1720000 ∧ fuel ≤ 9223372036854775807 from ⟨k1, k2, hsb, hcur, hcur2, ha0, haE, hnz, t.mx⟩)
      clear k1 k2 k3 hsb hcur hcur2 ha0 haE hnz hslen0 hlen hL hi hilt ok hc hx h1 h2 h3
      refine' cutR (fun _ : Unit => True) (fun _ => ⟨[(10, .d (.p 10 0)), (7, .d (.p 7 0)), (8, .d (.p 8 0)), (9, .d (.p 9 0)), (15, di k)], (909, .ab [.p 5 0, .p 7 0, .p 8 0, .p 9 0] us zb (· = [])) :: (10, .bx 81 (e.ds ++ [.u (.int .i64 a), .u (.sl 3 (s.map acR))])) :: skOb zt (ensK Sk.nm zeroS out nm)⟩) _ (fun hR => ?_) ?_
      rotate_left
      · rcases Bool.eq_false_or_eq_true has with hh | hh
        · repeat' ((conv => whnf); first | refine Mlk.of [.int .i64 k0] has (by kernel_rfl) hokT m1 m2 ?_ | (exact Drw.cut (i := 20) (by assumption) () [(909, .k 909), (10, .k 10), (5, .k 5), (7, .k 7), (8, .k 8), (9, .k 9), (903, .k 903), (901, .k 901), (902, .k 902), (907, .k 907)] rfl ⟨by (try dsimp only); (repeat (refine LeT.cons rfl (by first | exact LeS.d (by first | exact LeD.p rfl | exact LeD.u (by simp [ht1 hh, ht2 hh]; done) | fail) | fail) ?_)); (first | exact LeT.nil | fail), by (try dsimp only); (repeat (first | exact LeO.nil | refine LeO.bx rfl rfl (by repeat (first | exact LeL.nil | refine LeL.cons (by first | exact LeD.u rfl | exact LeD.ow rfl (by simp [ht1 hh, ht2 hh]; done) | exact LeD.mp rfl | fail) ?_)) ?_ | refine LeO.ar rfl rfl (by first | rfl | (simp [ht1 hh, ht2 hh]; done) | fail) ?_ | refine LeO.ab rfl rfl (by repeat (first | exact LeL.nil | refine LeL.cons (by first | exact LeD.p rfl | fail) ?_)) (by first | rfl | fail) ?_ | refine LeO.mp rfl rfl (by first | (simp [ht1 hh, ht2 hh]; done) | fail) ?_ | fail)); done⟩ (by trivial)) | refine Gs.id ?_ | refine Brn.F (by (try simp only [smT]); first | rfl | assumption | omega | fail) ?_ | (refine CL.mk (Or.inl ?_); (conv => whnf); refine ClO.mk (Or.inl ?_); (repeat ((conv => whnf); refine Len.mk (by first | rfl | (simp; done) | fail) ?_)); (conv => whnf); refine Cl.is (hj) rfl (by first | exact fun _ => rfl | fail) ?_) | fail)
        · repeat' ((conv => whnf); first | refine Mlk.of [.int .i64 k0] has (by kernel_rfl) hokT m1 m2 ?_ | (exact Drw.cut (i := 20) (by assumption) () [(909, .k 909), (10, .k 10), (5, .k 5), (7, .k 7), (8, .k 8), (9, .k 9), (903, .k 903), (901, .k 75), (902, .k 78), (907, .k 907)] rfl ⟨by (try dsimp only); (repeat (refine LeT.cons rfl (by first | exact LeS.d (by first | exact LeD.u rfl | exact LeD.p rfl | exact LeD.ow rfl (by simp [hf1 hh, hf2 hh, hf3 hh, zeroS]; done) | exact LeD.u (by simp [hf1 hh, hf2 hh, hf3 hh, zeroS]; done) | exact LeD.mp rfl | fail) | fail) ?_)); (first | exact LeT.nil | fail), by (try dsimp only); (repeat (first | exact LeO.nil | refine LeO.bx rfl rfl (by repeat (first | exact LeL.nil | refine LeL.cons (by first | exact LeD.u rfl | exact LeD.p rfl | exact LeD.ow rfl (by simp [hf1 hh, hf2 hh, hf3 hh, zeroS]; done) | exact LeD.u (by simp [hf1 hh, hf2 hh, hf3 hh, zeroS]; done) | exact LeD.mp rfl | fail) ?_)) ?_ | refine LeO.ar rfl rfl (by first | rfl | (simp [hf1 hh, hf2 hh, hf3 hh, zeroS]; done) | fail) ?_ | refine LeO.ab rfl rfl (by repeat (first | exact LeL.nil | refine LeL.cons (by first | exact LeD.u rfl | exact LeD.p rfl | exact LeD.ow rfl (by simp [hf1 hh, hf2 hh, hf3 hh, zeroS]; done) | exact LeD.u (by simp [hf1 hh, hf2 hh, hf3 hh, zeroS]; done) | exact LeD.mp rfl | fail) ?_)) (by first | rfl | (simp [hf1 hh, hf2 hh, hf3 hh, zeroS]; done) | fail) ?_ | refine LeO.mp rfl rfl (by first | rfl | (simp [hf1 hh, hf2 hh, hf3 hh, zeroS]; done) | fail) ?_ | fail)); done⟩ (by trivial)) | refine Gs.id ?_ | with_reducible refine And.intro ?_ ?_ | refine Brn.T (by (try simp only [smT]); first | rfl | assumption | omega | fail) ?_ | refine Brn.F (by (try simp only [smT]); first | rfl | assumption | omega | fail) ?_ | (refine Bnd.mk (fun hm => ?_); (try simp only [smT] at hm)) | refine Apd.mk (by first | rfl | simp) (by first | rfl | simp) (by (try simp only [smT]); first | omega | (simp; omega)) (by unfold maxLen; first | (simp; done) | (simp; omega) | omega) ?_ | refine Raw.mapUpdate (T := tt) (.inl rfl) rfl rfl rfl rfl rfl rfl rfl rfl rfl rfl rfl (by assumption) ?_ | refine Drw.ofP (T := tt) (i := 19) [0, 2, 3, 4, 5, 6, 7, 8] [1] [1] (OT.alt 0 (OT.alt 2 (OT.alt 3 (OT.alt 4 (OT.alt 5 (OT.alt 6 (OT.alt 7 (OT.alt 8 OT.nil OT.nil) OT.nil) OT.nil) OT.nil) (OT.alt 5 (OT.alt 4 (OT.alt 6 (OT.alt 7 (OT.alt 8 OT.nil OT.nil) OT.nil) OT.nil) OT.nil) OT.nil)) (OT.alt 4 (OT.alt 3 (OT.alt 5 (OT.alt 6 (OT.alt 7 (OT.alt 8 OT.nil OT.nil) OT.nil) OT.nil) OT.nil) (OT.alt 5 (OT.alt 3 (OT.alt 6 (OT.alt 7 (OT.alt 8 OT.nil OT.nil) OT.nil) OT.nil) OT.nil) OT.nil)) (OT.alt 5 (OT.alt 3 (OT.alt 4 (OT.alt 6 (OT.alt 7 (OT.alt 8 OT.nil OT.nil) OT.nil) OT.nil) OT.nil) (OT.alt 4 (OT.alt 3 (OT.alt 6 (OT.alt 7 (OT.alt 8 OT.nil OT.nil) OT.nil) OT.nil) OT.nil) OT.nil)) OT.nil))) (OT.alt 4 (OT.alt 2 (OT.alt 3 (OT.alt 5 (OT.alt 6 (OT.alt 7 (OT.alt 8 OT.nil OT.nil) OT.nil) OT.nil) OT.nil) (OT.alt 5 (OT.alt 3 (OT.alt 6 (OT.alt 7 (OT.alt 8 OT.nil OT.nil) OT.nil) OT.nil) OT.nil) OT.nil)) (OT.alt 5 (OT.alt 2 (OT.alt 3 (OT.alt 6 (OT.alt 7 (OT.alt 8 OT.nil OT.nil) OT.nil) OT.nil) OT.nil) OT.nil) OT.nil)) (OT.alt 5 (OT.alt 2 (OT.alt 3 (OT.alt 4 (OT.alt 6 (OT.alt 7 (OT.alt 8 OT.nil OT.nil) OT.nil) OT.nil) OT.nil) (OT.alt 4 (OT.alt 3 (OT.alt 6 (OT.alt 7 (OT.alt 8 OT.nil OT.nil) OT.nil) OT.nil) OT.nil) OT.nil)) (OT.alt 4 (OT.alt 2 (OT.alt 3 (OT.alt 6 (OT.alt 7 (OT.alt 8 OT.nil OT.nil) OT.nil) OT.nil) OT.nil) OT.nil) OT.nil)) OT.nil))) (OT.alt 2 (OT.alt 0 (OT.alt 3 (OT.alt 4 (OT.alt 5 (OT.alt 6 (OT.alt 7 (OT.alt 8 OT.nil OT.nil) OT.nil) OT.nil) OT.nil) (OT.alt 5 (OT.alt 4 (OT.alt 6 (OT.alt 7 (OT.alt 8 OT.nil OT.nil) OT.nil) OT.nil) OT.nil) OT.nil)) (OT.alt 4 (OT.alt 3 (OT.alt 5 (OT.alt 6 (OT.alt 7 (OT.alt 8 OT.nil OT.nil) OT.nil) OT.nil) OT.nil) (OT.alt 5 (OT.alt 3 (OT.alt 6 (OT.alt 7 (OT.alt 8 OT.nil OT.nil) OT.nil) OT.nil) OT.nil) OT.nil)) (OT.alt 5 (OT.alt 3 (OT.alt 4 (OT.alt 6 (OT.alt 7 (OT.alt 8 OT.nil OT.nil) OT.nil) OT.nil) OT.nil) (OT.alt 4 (OT.alt 3 (OT.alt 6 (OT.alt 7 (OT.alt 8 OT.nil OT.nil) OT.nil) OT.nil) OT.nil) OT.nil)) OT.nil))) (OT.alt 4 (OT.alt 0 (OT.alt 3 (OT.alt 5 (OT.alt 6 (OT.alt 7 (OT.alt 8 OT.nil OT.nil) OT.nil) OT.nil) OT.nil) (OT.alt 5 (OT.alt 3 (OT.alt 6 (OT.alt 7 (OT.alt 8 OT.nil OT.nil) OT.nil) OT.nil) OT.nil) OT.nil)) (OT.alt 5 (OT.alt 0 (OT.alt 3 (OT.alt 6 (OT.alt 7 (OT.alt 8 OT.nil OT.nil) OT.nil) OT.nil) OT.nil) OT.nil) OT.nil)) (OT.alt 5 (OT.alt 0 (OT.alt 3 (OT.alt 4 (OT.alt 6 (OT.alt 7 (OT.alt 8 OT.nil OT.nil) OT.nil) OT.nil) OT.nil) (OT.alt 4 (OT.alt 3 (OT.alt 6 (OT.alt 7 (OT.alt 8 OT.nil OT.nil) OT.nil) OT.nil) OT.nil) OT.nil)) (OT.alt 4 (OT.alt 0 (OT.alt 3 (OT.alt 6 (OT.alt 7 (OT.alt 8 OT.nil OT.nil) OT.nil) OT.nil) OT.nil) OT.nil) OT.nil)) OT.nil))) (OT.alt 4 (OT.alt 0 (OT.alt 2 (OT.alt 3 (OT.alt 5 (OT.alt 6 (OT.alt 7 (OT.alt 8 OT.nil OT.nil) OT.nil) OT.nil) OT.nil) (OT.alt 5 (OT.alt 3 (OT.alt 6 (OT.alt 7 (OT.alt 8 OT.nil OT.nil) OT.nil) OT.nil) OT.nil) OT.nil)) (OT.alt 5 (OT.alt 2 (OT.alt 3 (OT.alt 6 (OT.alt 7 (OT.alt 8 OT.nil OT.nil) OT.nil) OT.nil) OT.nil) OT.nil) OT.nil)) (OT.alt 2 (OT.alt 0 (OT.alt 3 (OT.alt 5 (OT.alt 6 (OT.alt 7 (OT.alt 8 OT.nil OT.nil) OT.nil) OT.nil) OT.nil) (OT.alt 5 (OT.alt 3 (OT.alt 6 (OT.alt 7 (OT.alt 8 OT.nil OT.nil) OT.nil) OT.nil) OT.nil) OT.nil)) (OT.alt 5 (OT.alt 0 (OT.alt 3 (OT.alt 6 (OT.alt 7 (OT.alt 8 OT.nil OT.nil) OT.nil) OT.nil) OT.nil) OT.nil) OT.nil)) (OT.alt 5 (OT.alt 0 (OT.alt 2 (OT.alt 3 (OT.alt 6 (OT.alt 7 (OT.alt 8 OT.nil OT.nil) OT.nil) OT.nil) OT.nil) OT.nil) (OT.alt 2 (OT.alt 0 (OT.alt 3 (OT.alt 6 (OT.alt 7 (OT.alt 8 OT.nil OT.nil) OT.nil) OT.nil) OT.nil) OT.nil) OT.nil)) OT.nil))) (OT.alt 5 (OT.alt 0 (OT.alt 2 (OT.alt 3 (OT.alt 4 (OT.alt 6 (OT.alt 7 (OT.alt 8 OT.nil OT.nil) OT.nil) OT.nil) OT.nil) (OT.alt 4 (OT.alt 3 (OT.alt 6 (OT.alt 7 (OT.alt 8 OT.nil OT.nil) OT.nil) OT.nil) OT.nil) OT.nil)) (OT.alt 4 (OT.alt 2 (OT.alt 3 (OT.alt 6 (OT.alt 7 (OT.alt 8 OT.nil OT.nil) OT.nil) OT.nil) OT.nil) OT.nil) OT.nil)) (OT.alt 2 (OT.alt 0 (OT.alt 3 (OT.alt 4 (OT.alt 6 (OT.alt 7 (OT.alt 8 OT.nil OT.nil) OT.nil) OT.nil) OT.nil) (OT.alt 4 (OT.alt 3 (OT.alt 6 (OT.alt 7 (OT.alt 8 OT.nil OT.nil) OT.nil) OT.nil) OT.nil) OT.nil)) (OT.alt 4 (OT.alt 0 (OT.alt 3 (OT.alt 6 (OT.alt 7 (OT.alt 8 OT.nil OT.nil) OT.nil) OT.nil) OT.nil) OT.nil) OT.nil)) (OT.alt 4 (OT.alt 0 (OT.alt 2 (OT.alt 3 (OT.alt 6 (OT.alt 7 (OT.alt 8 OT.nil OT.nil) OT.nil) OT.nil) OT.nil) OT.nil) (OT.alt 2 (OT.alt 0 (OT.alt 3 (OT.alt 6 (OT.alt 7 (OT.alt 8 OT.nil OT.nil) OT.nil) OT.nil) OT.nil) OT.nil) OT.nil)) OT.nil))) OT.nil)))) (by kernel_rfl) ?_ | (refine CL.mk (Or.inl ?_); (conv => whnf); refine ClO.mk (Or.inl ?_); (repeat ((conv => whnf); refine Len.mk (by first | rfl | (simp; done) | fail) ?_)); (conv => whnf); refine Cl.is (hj) rfl (by first | exact fun _ => rfl | fail) ?_) | fail) --D
      · intro _ _
        dsimp only
        obtain ⟨k1, k2, hsb, hcur, hcur2, ha0, haE, hnz, hmx⟩ := HID.out
        clear HID
        have hkl : k < (ensK Sk.nm zeroS out nm).length := (List.getElem?_eq_some_iff.1 k2).1
        have hlen1 : (ensK Sk.nm zeroS out nm).length ≤ out.length + 1 := by unfold ensK; split <;> simp
        have hSB1 : SB B (ensK Sk.nm zeroS out nm) := by
          intro c hc
          unfold ensK at hc
          split at hc
          · exact hsb c hc
          · rcases List.mem_append.1 hc with hc | hc
            · exact hsb c hc
            · simp at hc; subst hc; exact ⟨Int.le_refl _, hcur.1, by show nm.size ≤ _; omega⟩
        have hb := hSB1 c (List.mem_of_getElem? k2)
        have hup : updK Sk.nm (addS a) (ensK Sk.nm zeroS out nm) nm = (ensK Sk.nm zeroS out nm).set k (addS a c) := updK_eq (addS a) k1 k2
        have hkeys : (updK Sk.nm (addS a) (ensK Sk.nm zeroS out nm) nm).map Sk.nm = (ensK Sk.nm zeroS out nm).map Sk.nm := updK_keys (key := Sk.nm) (addS a) (fun _ => rfl) _ _
        have hat : atS (updK Sk.nm (addS a) (ensK Sk.nm zeroS out nm) nm) = atS (ensK Sk.nm zeroS out nm) := atK_keys hkeys
        have hmapS : (updK Sk.nm (addS a) (ensK Sk.nm zeroS out nm) nm).map skS = ((ensK Sk.nm zeroS out nm).map skS).set k (skS (addS a c)) := by rw [hup, List.map_set]
        have hmapN : (updK Sk.nm (addS a) (ensK Sk.nm zeroS out nm) nm).map skN = (ensK Sk.nm zeroS out nm).map skN := by
          have h := congrArg (List.map fun s => [V.str s]) hkeys
          simpa [List.map_map, Function.comp_def] using h
        have hlen2 : (updK Sk.nm (addS a) (ensK Sk.nm zeroS out nm) nm).length = (ensK Sk.nm zeroS out nm).length := by rw [hup, List.length_set]
        clear hup hkeys ht1 ht2 hf1 hf2 hf3 m1 m2 hj hokT hsb hSB1
        generalize updK Sk.nm (addS a) (ensK Sk.nm zeroS out nm) nm = out2 at *
        generalize ensK Sk.nm zeroS out nm = out1 at *
        have hget : (out1.map skS)[k]? = some (skS c) := by simp [k2]
        have hb1 := hb.1
        have hb2 := hb.2.1
        clear hb
        repeat' ((conv => whnf); first | refine Rw.get hget ?_ | refine Rng.mk (by (try simp only [smT]); omega) ?_ | refine Ixo.mk ⟨_, rfl, (by (try simp only [smT]); omega), ?_⟩ | refine Drw.of (T := tt) (i := 20) [8] [] [(0, true), (1, true), (2, true), (3, true), (4, true), (5, true), (6, true), (7, true), (8, false)] (by kernel_rfl) ?_)
        all_goals (conv => whnf)
        all_goals simp only [skOb, hmapN, hmapS, hat, hlen2]
        all_goals exact ⟨[(909, .k 909), (5, .k 5), (7, .k 7), (8, .k 8), (9, .k 9), (903, .k 903), (901, .k 901), (902, .k 902), (907, .k 907)], (by repeat (first | exact LeO.nil | refine LeO.bx rfl rfl (by repeat (first | exact LeL.nil | refine LeL.cons (by first | exact LeD.u rfl | exact LeD.ow rfl rfl | exact LeD.mp rfl | fail) ?_)) ?_ | refine LeO.ar rfl rfl (by first | rfl | fail) ?_ | refine LeO.ab rfl rfl (by repeat (first | exact LeL.nil | refine LeL.cons (by first | exact LeD.p rfl | fail) ?_)) (by first | rfl | fail) ?_ | refine LeO.mp rfl rfl (by first | rfl | fail) ?_ | fail))⟩
  · intro lp zb φ hY
    exact (steps_T t lp zb φ fun i e he => hY i _ (by have := (List.getElem?_eq_some_iff.1 he).1; omega) ⟨e, he, rfl⟩).mono fun s ob h => ⟨l.length, Nat.le_refl _, rfl, h⟩
  · rintro i hi rfl D
    have hlen := stacks_len (l := l) (fuel := fuel) l.length
    have hL := t.len
    have hsb := stacks_SB t l.length (Nat.le_refl _)
    have hcur := t.cur l.length (by omega)
    have hmx := t.mx
    unfold stacksM
    dsimp only
    generalize stacksAt l fuel l.length = x at *
    generalize curF l fuel l.length = B at *
    repeat' ((conv => whnf); first | refine Gs.id ?_ | refine Brn.F (by (try simp only [smT]); first | rfl | omega | fail) ?_ | (refine Bnd.mk (fun hm => ?_); (try simp only [smT] at hm)) | fail)
    all_goals (conv => whnf)
    refine ⟨⟨Nat × List ByteArray, fun q => q.1 ≤ x.length ∧ q.2 = ((x.take q.1).filter fun c => decide (0 < c.sm)).map outS, fun q => x.length - q.1, fun q => ⟨[(5, .d (.p 5 0)), (9, .d (.p 9 0)), (17, .d (.ow 908 q.2.length)), (87, .d (.ow 901 x.length)), (88, di x.length), (89, di q.1)], [(5, .bx 25 [.u (.int .i64 0), .u (.int .i64 0)]), (9, .bx 76 [.ow 902 x.length]), (901, .ar 9 1 (x.map skN)), (902, .ar 3 1 (x.map skS)), (908, .ar 9 1 (strs q.2)), (907, tbOb zt)]⟩, (0, []), ⟨Nat.zero_le _, rfl⟩, ⟨[(5, .k 5), (9, .k 9), (901, .k 901), (902, .k 902), (908, .n 1), (907, .k 907)], ⟨by (try dsimp only); (repeat (refine LeT.cons rfl (by first | exact LeS.d (by first | exact LeD.u rfl | exact LeD.p rfl | exact LeD.ow rfl rfl | exact LeD.no rfl rfl | exact LeD.u (by simp; done) | fail) | fail) ?_)); exact LeT.nil, by (try dsimp only); repeat (first | exact LeO.nil | refine LeO.bx rfl rfl (by repeat (first | exact LeL.nil | refine LeL.cons (by first | exact LeD.u rfl | exact LeD.ow rfl rfl | exact LeD.mp rfl | fail) ?_)) ?_ | refine LeO.ar rfl rfl (by first | rfl | fail) ?_ | refine LeO.ab rfl rfl (by repeat (first | exact LeL.nil | refine LeL.cons (by first | exact LeD.p rfl | fail) ?_)) (by first | rfl | fail) ?_ | refine LeO.mp rfl rfl (by first | rfl | fail) ?_ | refine LeO.no rfl rfl ?_)⟩⟩, fun q hq => ?_⟩⟩
    obtain ⟨q, ps⟩ := q
    obtain ⟨hq1, hq2⟩ := hq
    dsimp only at hq1 hq2 ⊢
    have hpl : ps.length ≤ q := by rw [hq2, List.length_map]; exact Nat.le_trans (List.length_filter_le _ _) (by rw [List.length_take]; omega)
    by_cases h9 : q < x.length
    · obtain ⟨y, hy⟩ : ∃ y, x[q]? = some y := ⟨_, List.getElem?_eq_getElem h9⟩
      have hyb := hsb y (List.mem_of_getElem? hy)
      have hgN : (x.map skN)[q]? = some (skN y) := by rw [List.getElem?_map, hy]; rfl
      have hgS : (x.map skS)[q]? = some (skS y) := by rw [List.getElem?_map, hy]; rfl
      have hit := itoa_T y.sm (by omega) (by omega) zt hz
      have his : (itoaB y.sm).size ≤ 21 := itoaB_size (by omega) (by omega)
      have hsp : (ByteArray.mk #[32]).size = 1 := rfl
      by_cases h0 : 0 < y.sm
      · have hpt : ps ++ [outS y] = ((x.take (q + 1)).filter fun c => decide (0 < c.sm)).map outS := by rw [List.take_add_one, hy, hq2]; simp [h0]
        repeat' ((conv => whnf); first | refine Rw.get hgN ?_ | refine Rw.get hgS ?_ | refine Cat.mk (by unfold maxLen; (try simp only [ByteArray.size_append]); omega) ?_ | refine Gs.id ?_ | refine Brn.T (by (try simp only [smT]); first | rfl | assumption | omega | fail) ?_ | refine Rng.mk (by (try simp only [smT]); omega) ?_ | refine Ixo.mk ⟨_, rfl, (by (try simp only [smT]); omega), ?_⟩ | refine Apd.mk (by first | rfl | simp) (by first | rfl | fail) (by (try simp only [smT]); first | omega | fail) (by unfold maxLen; first | (simp; omega) | fail) ?_ | (refine CL.mk (Or.inr (Raw.callI [907] [907] rfl rfl rfl rfl rfl rfl rfl (hit) ?_)); rintro _ _ ⟨rfl, rfl⟩; refine Bk.mk rfl rfl ?_))
        all_goals (conv => whnf)
        all_goals exact ⟨(q + 1, ps ++ [outS y]), ⟨by dsimp only; omega, hpt⟩, by dsimp only; omega, [(5, .k 5), (9, .k 9), (901, .k 901), (902, .k 902), (908, .k 109), (907, .k 907)], ⟨by (try dsimp only); (repeat (refine LeT.cons rfl (by first | exact LeS.d (by first | exact LeD.u rfl | exact LeD.p rfl | exact LeD.ow rfl rfl | exact LeD.ow rfl (by simp [outS]) | fail) | fail) ?_)); exact LeT.nil, by (try dsimp only); repeat (first | exact LeO.nil | refine LeO.bx rfl rfl (by repeat (first | exact LeL.nil | refine LeL.cons (by first | exact LeD.u rfl | exact LeD.ow rfl rfl | fail) ?_)) ?_ | refine LeO.ar rfl rfl (by first | rfl | simp [outS]) ?_ | refine LeO.ab rfl rfl (by repeat (first | exact LeL.nil | fail)) (by first | rfl | fail) ?_ | fail)⟩⟩
      · have hpt : ps = ((x.take (q + 1)).filter fun c => decide (0 < c.sm)).map outS := by rw [List.take_add_one, hy, hq2]; simp [h0]
        repeat' ((conv => whnf); first | refine Rw.get hgN ?_ | refine Rw.get hgS ?_ | refine Gs.id ?_ | refine Brn.T (by (try simp only [smT]); first | rfl | omega | fail) ?_ | refine Brn.F (by (try simp only [smT]); first | rfl | omega | fail) ?_ | refine Rng.mk (by (try simp only [smT]); omega) ?_ | refine Ixo.mk ⟨_, rfl, (by (try simp only [smT]); omega), ?_⟩ | fail)
        all_goals (conv => whnf)
        all_goals exact ⟨(q + 1, ps), ⟨by dsimp only; omega, hpt⟩, by dsimp only; omega, [(5, .k 5), (9, .k 9), (901, .k 901), (902, .k 902), (908, .k 908), (907, .k 907)], ⟨by (try dsimp only); (repeat (refine LeT.cons rfl (by first | exact LeS.d (by first | exact LeD.u rfl | exact LeD.p rfl | exact LeD.ow rfl rfl | exact LeD.no rfl rfl | exact LeD.u (by simp; done) | fail) | fail) ?_)); exact LeT.nil, by (try dsimp only); repeat (first | exact LeO.nil | refine LeO.bx rfl rfl (by repeat (first | exact LeL.nil | refine LeL.cons (by first | exact LeD.u rfl | exact LeD.ow rfl rfl | exact LeD.mp rfl | fail) ?_)) ?_ | refine LeO.ar rfl rfl (by first | rfl | fail) ?_ | refine LeO.ab rfl rfl (by repeat (first | exact LeL.nil | refine LeL.cons (by first | exact LeD.p rfl | fail) ?_)) (by first | rfl | fail) ?_ | refine LeO.mp rfl rfl (by first | rfl | fail) ?_ | refine LeO.no rfl rfl ?_)⟩⟩
    · obtain rfl : q = x.length := by omega
      rw [List.take_length] at hq2
      subst hq2
      repeat' ((conv => whnf); first | refine Gs.id ?_ | refine Brn.F (by (try simp only [smT]); first | rfl | omega | fail) ?_ | (refine Bnd.mk (fun hm => ?_); (try simp only [smT] at hm)) | fail)
      all_goals (conv => whnf)
      all_goals refine RetO.mk ⟨[(908, .k 908), (907, .k 907)], _, _, (by exact LeS.ts (by repeat (first | exact LeCs.nil | refine LeCs.cons (by first | exact LeC.d (by first | exact LeD.ow rfl rfl | fail) | exact LeC.a (by repeat (first | exact LeL.nil | refine LeL.cons (by first | exact LeD.u rfl | fail) ?_))) ?_))), (by repeat (first | exact LeO.nil | refine LeO.ar rfl rfl (by first | rfl | fail) ?_ | refine LeO.ab rfl rfl (by repeat (first | exact LeL.nil | fail)) (by first | rfl | fail) ?_ | fail)), rfl, rfl⟩
end Go.Proofs.YtabmcfnefjipbaaGreatDoor
