/-
  Part 13 of the proofs of costs_holds, lines_holds, adds_holds, ladds_holds: laws and contracts that they need.
-/
import Derived.Test.YtabmcfnefjipbaaDoorQ12
set_option linter.unusedVariables false
set_option linter.unusedSimpArgs false
namespace Go.Proofs.YtabmcfnefjipbaaDoor
open Go.RowKit
set_option maxHeartbeats 4000000 in
theorem law_ladds_T (l : List Ev) (fuel : Int) (hsz : ∀ e ∈ l, e.md.size ≤ 1000000000000) (hx : fuel ≤ 9223372036854775807) (zt : Fz) (hz : Tab zt) : CallsA Tryd.prog 6 [.d (.u (evs l)), di fuel] [(907, tbOb zt)] (Iso (db true) [(907, tbOb zt)]) := by
  have hf := fuelFault_T l fuel hsz
  have hp := profiled_T zt hz
  by_cases h0 : (checkM l fuel).1 = 0
  · have hc := checkM_zero h0
    have t := check_Tr (l := l) (fuel := fuel) h0 hx
    have h1 := costs_b hc hx
    have h2 := lines_own hc hx
    have hle := linesM_le (l := l) (fuel := fuel)
    have hlc := costs_le (l := l) (fuel := fuel)
    have hL := t.len
    have hmx := t.mx
    obtain ⟨s1, s2, s3, s4⟩ := sumN_costs t
    have hbc := costsN_bd t
    have hbl := lines_bd t
    have hsrt := linesM_srt (l := l) (fuel := fuel)
    rw [hc] at hf
    generalize costsM l fuel = ca at *
    generalize linesM l fuel = cb at *
    have b1 := sumG_bd ownN fun c hc => (hbc c hc).1
    have b2 := sumG_bd linesN fun c hc => (hbc c hc).2
    have b3 := sumG_bd Lc.ow fun c hc => (hbl c hc).2
    have b4 := sumG_bd Lc.ct fun c hc => (hbl c hc).1
    refine callsA_of_vcO (T := tt) Tryd.func6 rfl rfl rfl rfl rfl ?_
    repeat' ((conv => whnf); first | refine Gs.go (i := 8) ((Ghost.frzA 912 rfl (by repeat ((conv => whnf); first | exact trivial | refine Len.mk (by first | rfl | simp) ?_))).trans (Ghost.frzA 911 rfl (by repeat ((conv => whnf); first | exact trivial | refine Len.mk (by first | rfl | simp) ?_)))) ?_ | refine Gs.id ?_ | with_reducible refine Brn.F rfl ?_ | (refine CL.mk (Or.inl ?_); (conv => whnf); refine Cl.is (hf) rfl (by first | exact fun _ => rfl | fail) ?_) | (refine CL.mk (Or.inr (Raw.callI [] [912] rfl rfl rfl rfl rfl rfl rfl (h1) ?_)); rintro _ _ ⟨rfl, rfl⟩; refine Bk.mk rfl rfl ?_) | (refine CL.mk (Or.inr (Raw.callI [] [911] rfl rfl rfl rfl rfl rfl rfl (h2) ?_)); rintro _ _ ⟨rfl, rfl⟩; refine Bk.mk rfl rfl ?_))
    all_goals (conv => whnf)
    clear h1 h2 hf hc h0 t hbc hbl
    refine ⟨⟨Nat, fun i => i ≤ ca.length, fun i => ca.length - i, fun i => ⟨[(5, .d (.u (.sl 8 (ca.map coR)))), (7, .d (.u (.sl 4 (cb.map lcR)))), (9, di (sumG ownN (ca.take i))), (10, di (sumG linesN (ca.take i))), (11, di i)], [(907, tbOb zt)]⟩, 0, Nat.zero_le _, ⟨[(907, .k 907)], ⟨by (try dsimp only); (repeat (refine LeT.cons rfl (by first | exact LeS.d (by first | exact LeD.u rfl | fail) | fail) ?_)); exact LeT.nil, by (try dsimp only); repeat (first | exact LeO.nil | refine LeO.ab rfl rfl (by repeat (first | exact LeL.nil | fail)) (by first | rfl | fail) ?_ | fail)⟩⟩, fun i hi => ?_⟩⟩
    dsimp only at hi ⊢
    by_cases h9 : i < ca.length
    · have hg : ca[i]? = some ca[i] := List.getElem?_eq_getElem h9
      have hrow : ∀ {K : List V → Prop} {m : Int}, m = (i : Int) → K (coR ca[i]) → Ix (ca.map coR) m K := fun h k => ⟨⟨i, coR ca[i], h, by rw [List.getElem?_map, hg]; rfl, k⟩⟩
      have e1 := sumG_succ ownN hg
      have e2 := sumG_succ linesN hg
      have p1 := b1 i
      have p2 := b2 i
      have p3 := b1 (i + 1)
      have p4 := b2 (i + 1)
      rw [e1] at p3
      rw [e2] at p4
      clear b1 b2 b3 b4 hsrt
      generalize ca[i] = c at *
      by_cases hn : c.fn = nob
      · have hz : (c.fn.toList == (ByteArray.mk #[]).toList) = true := by rw [toList_beq]; exact decide_eq_true hn
        have o1 : ownN c = 0 := by rw [ownN, if_pos hn]
        have o2 : linesN c = 0 := by rw [linesN, if_pos hn]
        rw [o1, Int.add_zero] at e1 p3
        rw [o2, Int.add_zero] at e2 p4
        generalize sumG ownN (ca.take i) = x1 at *
        generalize sumG linesN (ca.take i) = x2 at *
        repeat' ((conv => whnf); first | refine hrow rfl ?_ | rw [hz] | refine Gs.id ?_ | with_reducible refine Brn.F rfl ?_ | refine Brn.T (by (try simp only [smT]); first | rfl | omega | fail) ?_ | (refine Bnd.mk (fun hm => ?_); (try simp only [smT] at hm)) | refine Rng.mk (by (try simp only [smT]); omega) ?_ | fail)
        all_goals (conv => whnf)
        all_goals exact ⟨i + 1, by omega, by omega, [(907, .k 907)], by (rw [e1, e2]; exact ⟨by (try dsimp only); (repeat (refine LeT.cons rfl (by first | exact LeS.d (by first | exact LeD.u rfl | fail) | fail) ?_)); exact LeT.nil, by (try dsimp only); repeat (first | exact LeO.nil | refine LeO.ab rfl rfl (by repeat (first | exact LeL.nil | fail)) (by first | rfl | fail) ?_ | fail)⟩)⟩
      · have hz : (c.fn.toList == (ByteArray.mk #[]).toList) = false := by rw [toList_beq]; exact decide_eq_false hn
        have o1 : ownN c = c.own := by rw [ownN, if_neg hn]
        have o2 : linesN c = c.lines := by rw [linesN, if_neg hn]
        rw [o1] at e1 p3
        rw [o2] at e2 p4
        generalize sumG ownN (ca.take i) = x1 at *
        generalize sumG linesN (ca.take i) = x2 at *
        repeat' ((conv => whnf); first | refine hrow rfl ?_ | rw [hz] | refine Gs.id ?_ | with_reducible refine Brn.T rfl ?_ | refine Brn.T (by (try simp only [smT]); first | rfl | omega | fail) ?_ | (refine Bnd.mk (fun hm => ?_); (try simp only [smT] at hm)) | refine Rng.mk (by (try simp only [smT]); omega) ?_ | fail)
        all_goals (conv => whnf)
        all_goals exact ⟨i + 1, by omega, by omega, [(907, .k 907)], by (rw [e1, e2]; exact ⟨by (try dsimp only); (repeat (refine LeT.cons rfl (by first | exact LeS.d (by first | exact LeD.u rfl | fail) | fail) ?_)); exact LeT.nil, by (try dsimp only); repeat (first | exact LeO.nil | refine LeO.ab rfl rfl (by repeat (first | exact LeL.nil | fail)) (by first | rfl | fail) ?_ | fail)⟩)⟩
    · obtain rfl : i = ca.length := by omega
      rw [List.take_length, s1, s2]
      clear b1 b2
      repeat' ((conv => whnf); first | refine Gs.id ?_ | refine Brn.F (by (try simp only [smT]); first | rfl | omega | fail) ?_ | (refine Bnd.mk (fun hm => ?_); (try simp only [smT] at hm)) | fail)
      all_goals (conv => whnf)
      refine ⟨⟨Nat, fun i => i ≤ cb.length, fun i => cb.length - i, fun i => ⟨[(7, .d (.u (.sl 4 (cb.map lcR)))), (9, di (sumG Lc.ow cb - sumG Lc.ow (cb.take i))), (10, di (sumG Lc.ct cb - sumG Lc.ct (cb.take i))), (12, di i)], [(907, tbOb zt)]⟩, 0, Nat.zero_le _, ⟨[(907, .k 907)], ⟨by (try dsimp only); (repeat (refine LeT.cons rfl (by first | exact LeS.d (by first | exact LeD.u rfl | exact LeD.u (by simp [sumG]; done) | fail) | fail) ?_)); exact LeT.nil, by (try dsimp only); repeat (first | exact LeO.nil | refine LeO.ab rfl rfl (by repeat (first | exact LeL.nil | fail)) (by first | rfl | fail) ?_ | fail)⟩⟩, fun i hi => ?_⟩⟩
      dsimp only at hi ⊢
      by_cases h8 : i < cb.length
      · have hg : cb[i]? = some cb[i] := List.getElem?_eq_getElem h8
        have hrow : ∀ {K : List V → Prop} {m : Int}, m = (i : Int) → K (lcR cb[i]) → Ix (cb.map lcR) m K := fun h k => ⟨⟨i, lcR cb[i], h, by rw [List.getElem?_map, hg]; rfl, k⟩⟩
        have e1 := sumG_succ Lc.ow hg
        have e2 := sumG_succ Lc.ct hg
        have p1 := b3 i
        have p2 := b4 i
        have p3 := b3 (i + 1)
        have p4 := b4 (i + 1)
        rw [e1] at p3
        rw [e2] at p4
        have e1' : ∀ X : Int, X - sumG Lc.ow (cb.take i) - (cb[i]).ow = X - sumG Lc.ow (cb.take (i + 1)) := fun X => by rw [e1]; omega
        have e2' : ∀ X : Int, X - sumG Lc.ct (cb.take i) - (cb[i]).ct = X - sumG Lc.ct (cb.take (i + 1)) := fun X => by rw [e2]; omega
        clear b3 b4
        have hpr : i = 0 ∨ ∃ p : Lc, (∀ {K : List V → Prop} {m : Int}, m = (i : Int) - 1 → K (lcR p) → Ix (cb.map lcR) m K) ∧ strLt (cb[i]).md p.md = false ∧ ((cb[i]).md = p.md → p.ln < (cb[i]).ln) := by
          rcases Nat.eq_zero_or_pos i with h0 | h0
          · exact .inl h0
          · have hj : cb[i - 1]? = some cb[i - 1] := List.getElem?_eq_getElem (by omega)
            obtain ⟨q1, q2⟩ := lt_facts (List.pairwise_iff_getElem.1 hsrt (i - 1) i (by omega) h8 (by omega))
            exact .inr ⟨cb[i - 1], fun h k => ⟨⟨i - 1, lcR cb[i - 1], by omega, by rw [List.getElem?_map, hj]; rfl, k⟩⟩, q1, q2⟩
        clear hsrt
        generalize cb[i] = c at *
        rcases hpr with rfl | ⟨p, hrowp, hlt, heq⟩
        · repeat' ((conv => whnf); first | refine hrow rfl ?_ | refine Gs.id ?_ | with_reducible refine Brn.F rfl ?_ | refine Brn.T (by (try simp only [smT]); first | rfl | omega | fail) ?_ | (refine Bnd.mk (fun hm => ?_); (try simp only [smT] at hm)) | refine Rng.mk (by (try simp only [smT]); omega) ?_ | refine Drw.of (T := tt) (i := 19) [] [] [(0, true), (1, true), (2, true), (3, true), (4, true), (5, true), (6, true), (7, true), (8, true), (9, true), (10, true), (11, true), (12, true), (13, true), (14, true), (15, true), (16, true), (17, true), (18, true), (19, true), (20, true), (21, true), (22, true), (23, true), (24, true), (25, true), (26, true), (27, true), (28, true), (29, true), (30, true), (31, true), (32, true), (33, true), (34, true), (35, true), (36, true), (37, true), (38, true), (39, true), (40, true), (41, true), (42, true), (43, true)] (by kernel_rfl) ?_)
          all_goals (conv => whnf)
          all_goals exact ⟨0 + 1, by omega, by omega, [(907, .k 907)], by (rw [← e1', ← e2']; exact ⟨by (try dsimp only); (repeat (refine LeT.cons rfl (by first | exact LeS.d (by first | exact LeD.u rfl | fail) | fail) ?_)); exact LeT.nil, by (try dsimp only); repeat (first | exact LeO.nil | refine LeO.ab rfl rfl (by repeat (first | exact LeL.nil | fail)) (by first | rfl | fail) ?_ | fail)⟩)⟩
        · by_cases hm : c.md = p.md
          · have hq : (c.md.toList == p.md.toList) = true := by rw [toList_beq]; exact decide_eq_true hm
            have hln := heq hm
            repeat' ((conv => whnf); first | refine hrow rfl ?_ | refine hrowp rfl ?_ | rw [hq] | refine Gs.id ?_ | with_reducible refine Brn.T rfl ?_ | with_reducible refine Brn.F rfl ?_ | refine Brn.T (by (try simp only [smT]); first | rfl | assumption | omega | fail) ?_ | refine Brn.F (by (try simp only [smT]); first | rfl | assumption | fail) ?_ | (refine Brn.mk (fun hb => ?_) (fun hb => ?_) <;> (try simp only [smT] at hb) <;> (try (exact absurd trivial hb)) <;> (try (exfalso; omega))) | (refine Bnd.mk (fun hm => ?_); (try simp only [smT] at hm)) | refine Rng.mk (by (try simp only [smT]); omega) ?_ | refine Drw.of (T := tt) (i := 19) [] [] [(0, true), (1, true), (2, true), (3, true), (4, true), (5, true), (6, true), (7, true), (8, true), (9, true), (10, true), (11, true), (12, true), (13, true), (14, true), (15, true), (16, true), (17, true), (18, true), (19, true), (20, true), (21, true), (22, true), (23, true), (24, true), (25, true), (26, true), (27, true), (28, true), (29, true), (30, true), (31, true), (32, true), (33, true), (34, true), (35, true), (36, true), (37, true), (38, true), (39, true), (40, true), (41, true), (42, true), (43, true)] (by kernel_rfl) ?_)
            all_goals (conv => whnf)
            all_goals exact ⟨i + 1, by omega, by omega, [(907, .k 907)], by (rw [← e1', ← e2']; exact ⟨by (try dsimp only); (repeat (refine LeT.cons rfl (by first | exact LeS.d (by first | exact LeD.u rfl | fail) | fail) ?_)); exact LeT.nil, by (try dsimp only); repeat (first | exact LeO.nil | refine LeO.ab rfl rfl (by repeat (first | exact LeL.nil | fail)) (by first | rfl | fail) ?_ | fail)⟩)⟩
          · have hq : (c.md.toList == p.md.toList) = false := by rw [toList_beq]; exact decide_eq_false hm
            repeat' ((conv => whnf); first | refine hrow rfl ?_ | refine hrowp rfl ?_ | rw [hq] | refine Gs.id ?_ | with_reducible refine Brn.F rfl ?_ | refine Brn.T (by (try simp only [smT]); first | rfl | assumption | omega | fail) ?_ | refine Brn.F (by (try simp only [smT]); first | rfl | assumption | fail) ?_ | (refine Brn.mk (fun hb => ?_) (fun hb => ?_) <;> (try simp only [smT] at hb) <;> (try (exact absurd trivial hb)) <;> (try (exfalso; omega))) | (refine Bnd.mk (fun hm => ?_); (try simp only [smT] at hm)) | refine Rng.mk (by (try simp only [smT]); omega) ?_ | refine Drw.of (T := tt) (i := 19) [] [] [(0, true), (1, true), (2, true), (3, true), (4, true), (5, true), (6, true), (7, true), (8, true), (9, true), (10, true), (11, true), (12, true), (13, true), (14, true), (15, true), (16, true), (17, true), (18, true), (19, true), (20, true), (21, true), (22, true), (23, true), (24, true), (25, true), (26, true), (27, true), (28, true), (29, true), (30, true), (31, true), (32, true), (33, true), (34, true), (35, true), (36, true), (37, true), (38, true), (39, true), (40, true), (41, true), (42, true), (43, true)] (by kernel_rfl) ?_)
            all_goals (conv => whnf)
            all_goals exact ⟨i + 1, by omega, by omega, [(907, .k 907)], by (rw [← e1', ← e2']; exact ⟨by (try dsimp only); (repeat (refine LeT.cons rfl (by first | exact LeS.d (by first | exact LeD.u rfl | fail) | fail) ?_)); exact LeT.nil, by (try dsimp only); repeat (first | exact LeO.nil | refine LeO.ab rfl rfl (by repeat (first | exact LeL.nil | fail)) (by first | rfl | fail) ?_ | fail)⟩)⟩
      · obtain rfl : i = cb.length := by omega
        rw [List.take_length, Int.sub_self, Int.sub_self]
        clear b3 b4 hsrt
        repeat' ((conv => whnf); first | refine Gs.id ?_ | with_reducible refine Brn.T rfl ?_ | refine Brn.F (by (try simp only [smT]); first | rfl | omega | fail) ?_ | (refine Bnd.mk (fun hm => ?_); (try simp only [smT] at hm)) | (refine CL.mk (Or.inr (Raw.callI [907] [907] rfl rfl rfl rfl rfl rfl rfl (hp) ?_)); rintro _ _ ⟨rfl, rfl⟩; refine Bk.mk rfl rfl ?_))
        all_goals (conv => whnf)
        all_goals refine RetO.mk ⟨[(907, .k 907)], _, _, (by first | exact LeS.d (by first | exact LeD.u rfl | fail) | fail), (by repeat (first | exact LeO.nil | refine LeO.ab rfl rfl (by repeat (first | exact LeL.nil | fail)) (by first | rfl | fail) ?_ | fail)), rfl, rfl⟩
  · generalize checkM l fuel = v at *
    obtain ⟨c, i⟩ := v
    dsimp only at *
    refine callsA_of_vcO (T := tt) Tryd.func6 rfl rfl rfl rfl rfl ?_
    repeat' ((conv => whnf); first | refine Gs.id ?_ | refine Brn.T (by (try simp only [smT]); first | rfl | assumption | fail) ?_ | (refine CL.mk (Or.inl ?_); (conv => whnf); refine Cl.is (hf) rfl (by first | exact fun _ => rfl | fail) ?_) | (refine CL.mk (Or.inr (Raw.callI [907] [907] rfl rfl rfl rfl rfl rfl rfl (hp) ?_)); rintro _ _ ⟨rfl, rfl⟩; refine Bk.mk rfl rfl ?_))
    all_goals (conv => whnf)
    all_goals refine RetO.mk ⟨[(907, .k 907)], _, _, (by first | exact LeS.d (by first | exact LeD.u rfl | fail) | fail), (by repeat (first | exact LeO.nil | refine LeO.ab rfl rfl (by repeat (first | exact LeL.nil | fail)) (by first | rfl | fail) ?_ | fail)), rfl, rfl⟩
end Go.Proofs.YtabmcfnefjipbaaDoor
