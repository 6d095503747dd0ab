/-
  Part 11 of the proofs of dchanges_holds, dshown_holds: laws and contracts that they need.
-/
import Derived.Test.YtabmcfnefjipbaaGreatDoorU10
set_option linter.unusedVariables false
set_option linter.unusedSimpArgs false
namespace Go.Proofs.YtabmcfnefjipbaaGreatDoor
open Go.RowKit
theorem show_C {l : List Ev} (he : ∀ e ∈ l, e.locs.length ≤ 9000000000) (v1 : (validM l).1 = 0) (n : ByteArray) (hn : nameB n = true) (i : Nat) (hi : i < l.length) (o : Option ByteArray) (ho : showM l i n = o) : CallsA Tryz.prog 26 [.d (.u (evs l)), di i, dsr n] [] (Is (.t [.d (.u (.str (o.getD emB))), .d (.u (.bool o.isSome)), .a [.u (.int .i64 0), .u (.int .i64 0)]])) := by
  have h := showD_T l he i n
  have e1 : (posM l (i : Int)).1 = 0 := by unfold posM; rw [if_neg (by simpa using v1), if_neg (by omega)]
  have e2 : showP l (i : Int) n = (o, (0, 0)) := by rw [showP, if_neg (by simpa using e1), if_neg (by rw [hn]; simp), ho]
  rw [e2] at h
  exact h
set_option maxHeartbeats 8000000 in
theorem law_shown_T (l : List Ev) (n : ByteArray) (k : Int) (he : ∀ e ∈ l, e.locs.length ≤ 9000000000) (hsz : ∀ e ∈ l, e.md.size ≤ 1000000000000) (zt : Fz) (hz : Tab zt) :
    CallsA Tryz.prog 11 [.d (.u (evs l)), dsr n, di k] [(907, tbOb zt)] (Iso (db true) [(907, tbOb zt)]) := by
  have h2 := trace_R l hsz
  have h5 := name_R n
  have hst := stopped_T zt hz
  have hlm : ((l.map Ev.row).length : Int) = (l.length : Int) := by simp
  by_cases v1 : (validM l).1 = 0
  · rw [valid_zero v1] at h2
    by_cases hl0 : l.length = 0
    · clear he hsz v1
      refine callsA_of_vcO (T := tt) Tryz.func11 rfl rfl rfl rfl rfl ?_
      repeat' ((conv => whnf); first | refine Gs.id ?_ | with_reducible refine Brn.T rfl ?_ | with_reducible refine Brn.F rfl ?_ | refine Brn.T (by (try simp only [smT]); first | rfl | omega | fail) ?_ | (refine Bnd.mk (fun hm => ?_); (try simp only [smT] at hm)) | (refine CL.mk (Or.inl ?_); (conv => whnf); first | refine Cl.is (h2) rfl (by first | exact fun _ => rfl | fail) ?_ | fail) | (refine CL.mk (Or.inr (Raw.callI [907] [907] rfl rfl rfl rfl rfl rfl rfl (hst) ?_)); rintro _ _ ⟨rfl, rfl⟩; refine Bk.mk rfl rfl ?_))
      all_goals (conv => whnf)
      all_goals first | (exfalso; simp_all; done) | refine RetO.mk ⟨[(907, .k 907)], _, _, (by first | exact LeS.d (by first | exact LeD.u rfl | fail) | fail), (by repeat (first | exact LeO.nil | refine LeO.ab rfl rfl (by repeat (first | exact LeL.nil | fail)) (by first | rfl | fail) ?_ | fail)), rfl, rfl⟩
    · by_cases hn : nameB n = true
      · rw [hn] at h5
        obtain ⟨hv, hL⟩ := valid_Vd v1
        obtain ⟨e0, he0⟩ : ∃ e0, l[0]? = some e0 := ⟨_, List.getElem?_eq_getElem (by omega)⟩
        have hrow0 : ∀ {K : List V → Prop} {m : Int}, m = 0 → K e0.row → Ix (l.map Ev.row) m K := fun h r => ⟨⟨0, e0.row, h, by rw [List.getElem?_map, he0]; rfl, r⟩⟩
        have h1 := changes_T l e0.md e0.fn n he
        have ok := hv.ok he0
        have e1 : chF l e0.md e0.fn n = (0, 0) := by
          rw [chF, if_neg (by simpa using v1), if_neg (by rw [ok.name.1]; simp), if_neg (by rw [ok.name.2]; simp), if_neg (by rw [hn]; simp)]
        have e2 : chP l e0.md e0.fn n = chM l e0.md e0.fn n l.length := by rw [chP, e1, if_neg (by simp)]
        unfold chS at h1
        rw [e1, e2] at h1
        dsimp only at h1
        have hcl := chM_len (l := l) (md := e0.md) (fn := e0.fn) (n := n) l.length
        have hmem := chM_mem (l := l) (md := e0.md) (fn := e0.fn) (n := n) l.length (Nat.le_refl _)
        have hbt := fun {k j : Nat} {c : Ch} {e : Ev} => ch_between (l := l) (md := e0.md) (fn := e0.fn) (n := n) (k := k) (j := j) (c := c) (e := e)
        clear e1 e2 ok hsz
        generalize chM l e0.md e0.fn n l.length = cs at *
        have hcm : ((cs.map chR).length : Int) = (cs.length : Int) := by simp
        have hin := in_R k 0 (((cs.map chR).length : Int) - 1)
        by_cases hk : 0 ≤ k ∧ k ≤ (cs.length : Int) - 1
        · rw [decide_eq_true (by rw [hcm]; exact hk)] at hin
          obtain ⟨k, rfl⟩ : ∃ q : Nat, k = q := ⟨k.toNat, by omega⟩
          obtain ⟨⟨a, t⟩, hck⟩ : ∃ c, cs[k]? = some c := ⟨_, List.getElem?_eq_getElem (by omega)⟩
          obtain ⟨ha, e, hae, hic, htx⟩ := hmem _ (List.mem_of_getElem? hck)
          dsimp only at ha hae hic htx
          subst htx
          have hek := hic.1
          have hem := hic.2.1
          have hef := hic.2.2.1
          have hrk : ∀ {K : List V → Prop} {m : Int}, m = (k : Int) → K (chR (a, (varM n e.locs).getD emB)) → Ix (cs.map chR) m K := fun h r => ⟨⟨k, _, h, by rw [List.getElem?_map, hck]; rfl, r⟩⟩
          have hra : ∀ {K : List V → Prop} {m : Int}, m = (a : Int) → K e.row → Ix (l.map Ev.row) m K := fun h r => ⟨⟨a, e.row, h, by rw [List.getElem?_map, hae]; rfl, r⟩⟩
          have hin2 := in_R (a : Int) 0 (((l.map Ev.row).length : Int) - 1)
          rw [decide_eq_true (by rw [hlm]; omega)] at hin2
          have hsh0 := show_C he v1 n hn a ha (varM n e.locs) (by rw [shown_agree hv n hae, shownM_succ hae, if_pos ⟨rfl, hek⟩])
          have q1 := toList_beq e.fn e0.fn
          rw [decide_eq_true hef] at q1
          have w0 := Wi.first hv n hae hek
          have hto := toList_beq ((varM n e.locs).getD emB) ((varM n e.locs).getD emB)
          rw [decide_eq_true rfl] at hto
          have hnb : ∀ (i : Nat) x, a < i → l[i]? = some x → (k + 1 = cs.length ∨ ∃ d, cs[k + 1]? = some d ∧ i < d.1) → ¬ isCh l e.md e.fn n i x := fun i x h1 h2 h3 => by
            rw [hem, hef]
            refine hbt hck h2 h1 fun d hd => ?_
            rcases h3 with h3 | ⟨d', h3, h4⟩
            · rw [List.getElem?_eq_none (by omega)] at hd; cases hd
            · rw [h3] at hd; injection hd with hd; subst hd; exact h4
          have hnx : k + 1 = cs.length ∨ ∃ d, cs[k + 1]? = some d := by
            by_cases h : k + 1 = cs.length
            · exact .inl h
            · exact .inr ⟨_, List.getElem?_eq_getElem (by omega)⟩
          have hrow : ∀ (j : Nat), j < l.length → ∃ x, l[j]? = some x ∧ ∀ {K : List V → Prop} {m : Int}, m = (j : Int) → K x.row → Ix (l.map Ev.row) m K := fun j hj => ⟨l[j], List.getElem?_eq_getElem hj, fun h k => by subst h; exact Ix.map rfl hj k⟩
          have hrd0 : ∀ d, cs[k + 1]? = some d → ∀ {K : List V → Prop} {m : Int}, m = (k : Int) + 1 → K (chR d) → Ix (cs.map chR) m K := fun d hd {K m} h r => ⟨⟨k + 1, _, by omega, by rw [List.getElem?_map, hd]; rfl, r⟩⟩
          clear hmem hbt hic
          refine callsA_of_vcO (T := tt) Tryz.func11 rfl rfl rfl rfl rfl ?_
          refine' cutR (fun _ : Unit => True) (fun _ => ⟨[(0, .d (.u (evs l))), (1, dsr n), (2, di k), (7, .d (.u (chs cs))), (8, .d (.p 8 0))], [(8, .bx 25 [.u (.int .i64 0), .u (.int .i64 0)]), (907, tbOb zt)]⟩) _ (fun hR => ?_) ?_
          rotate_left
          · repeat' ((conv => whnf); first | refine hrow0 rfl ?_ | (exact Gs.cut (i := 4) (by assumption) () [(8, .k 8), (907, .k 907)] rfl ⟨by (try dsimp only); (repeat (refine LeT.cons rfl (by first | exact LeS.d (by first | exact LeD.u rfl | exact LeD.p rfl | fail) | fail) ?_)); (first | exact LeT.nil | fail), by (try dsimp only); (repeat (first | exact LeO.nil | refine LeO.bx rfl rfl (by repeat (first | exact LeL.nil | refine LeL.cons (by first | exact LeD.u rfl | fail) ?_)) ?_ | refine LeO.ab rfl rfl (by repeat (first | exact LeL.nil | fail)) (by first | rfl | fail) ?_ | fail)); done⟩ (by trivial)) | refine Gs.id ?_ | with_reducible refine And.intro ?_ ?_ | with_reducible refine Brn.F rfl ?_ | refine Brn.F (by (try simp only [smT]); first | rfl | omega | fail) ?_ | (refine Bnd.mk (fun hm => ?_); (try simp only [smT] at hm)) | refine Drw.ofT (T := tt) (i := 3) [4, 8, 10, 14, 16] [0, 1, 2, 3, 5, 6, 7, 9, 11, 12, 13, 15] (OF.fst 0 (OF.fst 1 (OF.fst 2 (OF.fst 3 (OF.fst 5 (OF.fst 6 (OF.fst 7 (OF.fst 9 (OF.alt 4 (OF.alt 8 (OF.alt 10 (OF.fst 11 (OF.fst 12 (OF.fst 13 (OF.alt 14 (OF.fst 15 (OF.alt 16 OF.nil OF.nil)) OF.nil)))) (OF.alt 14 (OF.alt 10 (OF.fst 11 (OF.fst 12 (OF.fst 13 (OF.fst 15 (OF.alt 16 OF.nil OF.nil))))) OF.nil) OF.nil)) (OF.alt 14 (OF.alt 8 (OF.alt 10 (OF.fst 11 (OF.fst 12 (OF.fst 13 (OF.fst 15 (OF.alt 16 OF.nil OF.nil))))) OF.nil) OF.nil) OF.nil)) (OF.alt 8 (OF.alt 4 (OF.alt 10 (OF.fst 11 (OF.fst 12 (OF.fst 13 (OF.alt 14 (OF.fst 15 (OF.alt 16 OF.nil OF.nil)) OF.nil)))) (OF.alt 14 (OF.alt 10 (OF.fst 11 (OF.fst 12 (OF.fst 13 (OF.fst 15 (OF.alt 16 OF.nil OF.nil))))) OF.nil) OF.nil)) (OF.alt 14 (OF.alt 4 (OF.alt 10 (OF.fst 11 (OF.fst 12 (OF.fst 13 (OF.fst 15 (OF.alt 16 OF.nil OF.nil))))) OF.nil) OF.nil) OF.nil)) (OF.alt 14 (OF.alt 4 (OF.alt 8 (OF.alt 10 (OF.fst 11 (OF.fst 12 (OF.fst 13 (OF.fst 15 (OF.alt 16 OF.nil OF.nil))))) OF.nil) OF.nil) (OF.alt 8 (OF.alt 4 (OF.alt 10 (OF.fst 11 (OF.fst 12 (OF.fst 13 (OF.fst 15 (OF.alt 16 OF.nil OF.nil))))) OF.nil) OF.nil) OF.nil)) OF.nil))))))))))) (by kernel_rfl) ?_ | (refine CL.mk (Or.inl ?_); (conv => whnf); first | refine Cl.is (h2) rfl (by first | exact fun _ => rfl | fail) ?_ | refine Cl.is (h5) rfl (by first | exact fun _ => rfl | fail) ?_ | refine Cl.is (h1) rfl (by first | (intro e; cases e; done) | fail) ?_) | fail)
            all_goals (exfalso; clear hR; clear hrow hrd0 hnb hin hin2 hsh0 hto q1 w0 hnx hst hra hrk h1 h2 h5; simp_all; done)
          intro _ _
          dsimp only
          clear h1 h2 h5
          refine' cutR (fun _ : Unit => True) (fun _ => ⟨[(0, .d (.u (evs l))), (1, dsr n), (2, di k), (7, .d (.u (chs cs))), (9, .d (.p 9 0)), (10, dsr ((varM n e.locs).getD emB)), (11, db (varM n e.locs).isSome)], [(9, .bx 58 e.ds), (907, tbOb zt)]⟩) _ (fun hR => ?_) ?_
          rotate_left
          · repeat' ((conv => whnf); first | refine hrow0 rfl ?_ | refine hrk rfl ?_ | refine hra rfl ?_ | rw [hto] | rw [q1] | (exact Gs.cut (i := 12) (by assumption) () [(9, .k 9), (907, .k 907)] rfl ⟨by (try dsimp only); (repeat (refine LeT.cons rfl (by first | exact LeS.d (by first | exact LeD.u rfl | exact LeD.p rfl | fail) | fail) ?_)); (first | exact LeT.nil | fail), by (try dsimp only); (repeat (first | exact LeO.nil | refine LeO.bx rfl rfl (by repeat (first | exact LeL.nil | refine LeL.cons (by first | exact LeD.u rfl | fail) ?_)) ?_ | refine LeO.ab rfl rfl (by repeat (first | exact LeL.nil | fail)) (by first | rfl | fail) ?_ | fail)); done⟩ (by trivial)) | refine Gs.id ?_ | with_reducible refine Brn.F rfl ?_ | refine Brn.F (by (try simp only [smT]); first | rfl | assumption | fail) ?_ | (refine Bnd.mk (fun hm => ?_); (try simp only [smT] at hm)) | refine Rng.mk (by (try simp only [smT]); omega) ?_ | refine Drw.of (T := tt) (i := 10) [] [] [(0, true), (1, true), (2, true), (3, true), (4, true), (5, true), (6, true), (7, true), (8, true), (9, true), (10, true), (11, true), (12, true), (13, true), (14, true), (15, true), (16, true), (17, true), (18, true), (19, true), (20, true), (21, true), (22, true), (23, true), (24, true), (25, true)] (by kernel_rfl) ?_ | (refine CL.mk (Or.inl ?_); (conv => whnf); first | refine Cl.is (hin2) rfl (by first | exact fun _ => rfl | fail) ?_ | refine Cl.is (hin) rfl (by first | exact fun _ => rfl | fail) ?_ | refine Cl.is (hsh0) rfl (by first | exact fun _ => rfl | fail) ?_) | fail)
            all_goals (exfalso; clear hR; clear hrow hrd0 hnb w0 hnx hst hrow0 hrk hra hsh0 hin hin2; simp_all; done)
          intro _ _
          dsimp only
          clear hin hin2 hsh0 hto q1 hrow0
          repeat' ((conv => whnf); first | refine hrk rfl ?_ | refine Rng.mk (by (try simp only [smT]); omega) ?_ | fail)
          all_goals (conv => whnf)
          refine ⟨⟨Nat, fun i => a + 1 ≤ i ∧ i ≤ l.length ∧ Wi l n e i, fun i => l.length - i, fun i => ⟨[(0, .d (.u (evs l))), (1, dsr n), (2, di k), (7, .d (.u (chs cs))), (9, .d (.p 9 0)), (10, dsr ((varM n e.locs).getD emB)), (11, db (varM n e.locs).isSome), (13, di i)], [(9, .bx 58 e.ds), (907, tbOb zt)]⟩, a + 1, ⟨Nat.le_refl _, ha, w0⟩, ⟨[(9, .k 9), (907, .k 907)], ⟨by (try dsimp only); (repeat (refine LeT.cons rfl (by first | exact LeS.d (by first | exact LeD.u rfl | exact LeD.p rfl | fail) | fail) ?_)); exact LeT.nil, by (try dsimp only); repeat (first | exact LeO.nil | refine LeO.bx rfl rfl (by repeat (first | exact LeL.nil | refine LeL.cons (by first | exact LeD.u rfl | fail) ?_)) ?_ | refine LeO.ab rfl rfl (by repeat (first | exact LeL.nil | fail)) (by first | rfl | fail) ?_ | fail)⟩⟩, fun i hi => ?_⟩⟩
          obtain ⟨hi1, hi2, w⟩ := hi
          dsimp only
          clear w0 hra
          by_cases h9 : i < l.length
          · obtain ⟨x, hx, hrx⟩ := hrow i h9
            have hnc0 := hnb i x (by omega) hx
            clear hrow hnb
            by_cases hdp : x.depth < e.depth
            · clear w hnx he v1 hn hnc0 hrd0
              generalize varM n e.locs = o at *
              repeat' ((conv => whnf); first | refine hrx rfl ?_ | refine Gs.id ?_ | with_reducible refine Brn.F rfl ?_ | refine Brn.T (by (try simp only [smT]); first | rfl | omega | fail) ?_ | refine Brn.F (by (try simp only [smT]); first | rfl | assumption | fail) ?_ | (refine Bnd.mk (fun hm => ?_); (try simp only [smT] at hm)) | refine Drw.of (T := tt) (i := 13) [] [] [(0, true), (1, true), (2, true), (3, true), (4, true), (5, true), (6, true), (7, true), (8, true), (9, true), (10, true), (11, true), (12, true), (13, true), (14, true), (15, true), (16, true), (17, true), (18, true), (19, true), (20, true), (21, true), (22, true), (23, true), (24, true), (25, true), (26, true), (27, true), (28, true), (29, true), (30, true)] (by kernel_rfl) ?_ | (refine CL.mk (Or.inr (Raw.callI [907] [907] rfl rfl rfl rfl rfl rfl rfl (hst) ?_)); rintro _ _ ⟨rfl, rfl⟩; refine Bk.mk rfl rfl ?_))
              all_goals (conv => whnf)
              all_goals first | (exfalso; clear hrx hrk hst hv; simp_all; done) | (exfalso; clear hrx hrk hst hv; simp at *; omega) | refine RetO.mk ⟨[(907, .k 907)], _, _, (by first | exact LeS.d (by first | exact LeD.u rfl | fail) | fail), (by repeat (first | exact LeO.nil | refine LeO.ab rfl rfl (by repeat (first | exact LeL.nil | fail)) (by first | rfl | fail) ?_ | fail)), rfl, rfl⟩
            · rcases hnx with hnx | ⟨d, hnx⟩
              · have hnc := hnc0 (.inl hnx)
                have hkc : (k : Int) + 1 = (cs.length : Int) := by omega
                clear hnc0 hrd0
                by_cases hd : x.depth = e.depth
                · obtain ⟨g1, g2⟩ := w.same hv hx hd
                  have hsh := show_C he v1 n hn i h9 _ (w.shown hv hx hd (fun _ => hnc))
                  by_cases hkx : x.kind = 1
                  · obtain ⟨_, w2⟩ := w.line hv hx hd hkx hnc
                    clear w hnx he v1 hn
                    generalize varM n e.locs = o at *
                    have hto := toList_beq (o.getD emB) (o.getD emB)
                    rw [decide_eq_true rfl] at hto
                    repeat' ((conv => whnf); first | refine hrx rfl ?_ | rw [hto] | refine Gs.id ?_ | with_reducible refine Brn.T rfl ?_ | with_reducible refine Brn.F rfl ?_ | refine Brn.T (by (try simp only [smT]); first | rfl | assumption | omega | fail) ?_ | refine Brn.F (by (try simp only [smT]); first | rfl | assumption | (simp [*]; done) | fail) ?_ | (refine Bnd.mk (fun hm => ?_); (try simp only [smT] at hm)) | refine Rng.mk (by (try simp only [smT]); omega) ?_ | refine Drw.of (T := tt) (i := 13) [] [] [(0, true), (1, true), (2, true), (3, true), (4, true), (5, true), (6, true), (7, true), (8, true), (9, true), (10, true), (11, true), (12, true), (13, true), (14, true), (15, true), (16, true), (17, true), (18, true), (19, true), (20, true), (21, true), (22, true), (23, true), (24, true), (25, true), (26, true), (27, true), (28, true), (29, true), (30, true)] (by kernel_rfl) ?_ | refine Drw.of (T := tt) (i := 15) [] [] [(0, true), (1, true), (2, true), (3, true), (4, true), (5, true), (6, true), (7, true)] (by kernel_rfl) ?_ | (refine CL.mk (Or.inl ?_); (conv => whnf); refine Cl.is (hsh) rfl (by first | exact fun _ => rfl | fail) ?_) | fail)
                    all_goals (conv => whnf)
                    all_goals first | (exfalso; clear hrx hrk hsh hst w2 hv; simp_all; done) | (exfalso; clear hrx hrk hsh hst w2 hv; simp at *; omega) | exact ⟨i + 1, ⟨by omega, by omega, w2⟩, by omega, [(9, .k 9), (907, .k 907)], ⟨by (try dsimp only); (repeat (refine LeT.cons rfl (by first | exact LeS.d (by first | exact LeD.u rfl | exact LeD.p rfl | fail) | fail) ?_)); exact LeT.nil, by (try dsimp only); repeat (first | exact LeO.nil | refine LeO.bx rfl rfl (by repeat (first | exact LeL.nil | refine LeL.cons (by first | exact LeD.u rfl | fail) ?_)) ?_ | refine LeO.ab rfl rfl (by repeat (first | exact LeL.nil | fail)) (by first | rfl | fail) ?_ | fail)⟩⟩
                  · clear w hnx he v1 hn
                    generalize varM n e.locs = o at *
                    have hto := toList_beq (o.getD emB) (o.getD emB)
                    rw [decide_eq_true rfl] at hto
                    repeat' ((conv => whnf); first | refine hrx rfl ?_ | rw [hto] | refine Gs.id ?_ | with_reducible refine Brn.T rfl ?_ | with_reducible refine Brn.F rfl ?_ | refine Brn.T (by (try simp only [smT]); first | rfl | assumption | omega | fail) ?_ | refine Brn.F (by (try simp only [smT]); first | rfl | assumption | (simp [*]; done) | fail) ?_ | (refine Bnd.mk (fun hm => ?_); (try simp only [smT] at hm)) | refine Rng.mk (by (try simp only [smT]); omega) ?_ | refine Drw.of (T := tt) (i := 13) [] [] [(0, true), (1, true), (2, true), (3, true), (4, true), (5, true), (6, true), (7, true), (8, true), (9, true), (10, true), (11, true), (12, true), (13, true), (14, true), (15, true), (16, true), (17, true), (18, true), (19, true), (20, true), (21, true), (22, true), (23, true), (24, true), (25, true), (26, true), (27, true), (28, true), (29, true), (30, true)] (by kernel_rfl) ?_ | refine Drw.of (T := tt) (i := 15) [] [] [(0, true), (1, true), (2, true), (3, true), (4, true), (5, true), (6, true), (7, true)] (by kernel_rfl) ?_ | (refine CL.mk (Or.inl ?_); (conv => whnf); refine Cl.is (hsh) rfl (by first | exact fun _ => rfl | fail) ?_) | (refine CL.mk (Or.inr (Raw.callI [907] [907] rfl rfl rfl rfl rfl rfl rfl (hst) ?_)); rintro _ _ ⟨rfl, rfl⟩; refine Bk.mk rfl rfl ?_))
                    all_goals (conv => whnf)
                    all_goals first | (exfalso; clear hrx hrk hsh hst hv; simp_all; done) | (exfalso; clear hrx hrk hsh hst hv; simp at *; omega) | refine RetO.mk ⟨[(907, .k 907)], _, _, (by first | exact LeS.d (by first | exact LeD.u rfl | fail) | fail), (by repeat (first | exact LeO.nil | refine LeO.ab rfl rfl (by repeat (first | exact LeL.nil | fail)) (by first | rfl | fail) ?_ | fail)), rfl, rfl⟩
                · have w2 := w.deep hv hx (by omega)
                  clear w hnx he v1 hn
                  generalize varM n e.locs = o at *
                  repeat' ((conv => whnf); first | refine hrx rfl ?_ | refine Gs.id ?_ | with_reducible refine Brn.T rfl ?_ | refine Brn.T (by (try simp only [smT]); first | rfl | assumption | omega | fail) ?_ | (refine Bnd.mk (fun hm => ?_); (try simp only [smT] at hm)) | refine Rng.mk (by (try simp only [smT]); omega) ?_ | refine Drw.of (T := tt) (i := 13) [] [] [(0, true), (1, true), (2, true), (3, true), (4, true), (5, true), (6, true), (7, true), (8, true), (9, true), (10, true), (11, true), (12, true), (13, true), (14, true), (15, true), (16, true), (17, true), (18, true), (19, true), (20, true), (21, true), (22, true), (23, true), (24, true), (25, true), (26, true), (27, true), (28, true), (29, true), (30, true)] (by kernel_rfl) ?_ | refine Drw.of (T := tt) (i := 15) [] [] [(0, true), (1, true), (2, true), (3, true), (4, true), (5, true), (6, true), (7, true)] (by kernel_rfl) ?_)
                  all_goals (conv => whnf)
                  all_goals first | (exfalso; clear hrx hrk hst w2 hv; simp_all; done) | (exfalso; clear hrx hrk hst w2 hv; simp at *; omega) | exact ⟨i + 1, ⟨by omega, by omega, w2⟩, by omega, [(9, .k 9), (907, .k 907)], ⟨by (try dsimp only); (repeat (refine LeT.cons rfl (by first | exact LeS.d (by first | exact LeD.u rfl | exact LeD.p rfl | fail) | fail) ?_)); exact LeT.nil, by (try dsimp only); repeat (first | exact LeO.nil | refine LeO.bx rfl rfl (by repeat (first | exact LeL.nil | refine LeL.cons (by first | exact LeD.u rfl | fail) ?_)) ?_ | refine LeO.ab rfl rfl (by repeat (first | exact LeL.nil | fail)) (by first | rfl | fail) ?_ | fail)⟩⟩
              · have hrd := fun {K : List V → Prop} {m : Int} => hrd0 d hnx (K := K) (m := m)
                have hkc : ¬ (k : Int) + 1 = (cs.length : Int) := by
                  have := (List.getElem?_eq_some_iff.1 hnx).1
                  omega
                by_cases hid : i < d.1
                · have hnc := hnc0 (.inr ⟨d, hnx, hid⟩)
                  have hid2 : (i : Int) < (d.1 : Int) := by omega
                  clear hnc0 hrd0
                  by_cases hd : x.depth = e.depth
                  · obtain ⟨g1, g2⟩ := w.same hv hx hd
                    have hsh := show_C he v1 n hn i h9 _ (w.shown hv hx hd (fun _ => hnc))
                    by_cases hkx : x.kind = 1
                    · obtain ⟨_, w2⟩ := w.line hv hx hd hkx hnc
                      clear w hnx he v1 hn
                      generalize varM n e.locs = o at *
                      have hto := toList_beq (o.getD emB) (o.getD emB)
                      rw [decide_eq_true rfl] at hto
                      repeat' ((conv => whnf); first | refine hrx rfl ?_ | refine hrd rfl ?_ | rw [hto] | refine Gs.id ?_ | with_reducible refine Brn.F rfl ?_ | refine Brn.T (by (try simp only [smT]); first | rfl | assumption | omega | fail) ?_ | refine Brn.F (by (try simp only [smT]); first | rfl | assumption | (simp [*]; done) | fail) ?_ | (refine Bnd.mk (fun hm => ?_); (try simp only [smT] at hm)) | refine Rng.mk (by (try simp only [smT]); omega) ?_ | refine Drw.of (T := tt) (i := 13) [] [] [(0, true), (1, true), (2, true), (3, true), (4, true), (5, true), (6, true), (7, true), (8, true), (9, true), (10, true), (11, true), (12, true), (13, true), (14, true), (15, true), (16, true), (17, true), (18, true), (19, true), (20, true), (21, true), (22, true), (23, true), (24, true), (25, true), (26, true), (27, true), (28, true), (29, true), (30, true)] (by kernel_rfl) ?_ | refine Drw.of (T := tt) (i := 15) [] [] [(0, true), (1, true), (2, true), (3, true), (4, true), (5, true), (6, true), (7, true)] (by kernel_rfl) ?_ | (refine CL.mk (Or.inl ?_); (conv => whnf); refine Cl.is (hsh) rfl (by first | exact fun _ => rfl | fail) ?_) | fail)
                      all_goals (conv => whnf)
                      all_goals first | (exfalso; clear hrx hrk hsh hst w2 hv; simp_all; done) | (exfalso; clear hrx hrk hsh hst w2 hv; simp at *; omega) | exact ⟨i + 1, ⟨by omega, by omega, w2⟩, by omega, [(9, .k 9), (907, .k 907)], ⟨by (try dsimp only); (repeat (refine LeT.cons rfl (by first | exact LeS.d (by first | exact LeD.u rfl | exact LeD.p rfl | fail) | fail) ?_)); exact LeT.nil, by (try dsimp only); repeat (first | exact LeO.nil | refine LeO.bx rfl rfl (by repeat (first | exact LeL.nil | refine LeL.cons (by first | exact LeD.u rfl | fail) ?_)) ?_ | refine LeO.ab rfl rfl (by repeat (first | exact LeL.nil | fail)) (by first | rfl | fail) ?_ | fail)⟩⟩
                    · clear w hnx he v1 hn
                      generalize varM n e.locs = o at *
                      have hto := toList_beq (o.getD emB) (o.getD emB)
                      rw [decide_eq_true rfl] at hto
                      repeat' ((conv => whnf); first | refine hrx rfl ?_ | refine hrd rfl ?_ | rw [hto] | refine Gs.id ?_ | with_reducible refine Brn.F rfl ?_ | refine Brn.T (by (try simp only [smT]); first | rfl | assumption | omega | fail) ?_ | refine Brn.F (by (try simp only [smT]); first | rfl | assumption | (simp [*]; done) | fail) ?_ | (refine Bnd.mk (fun hm => ?_); (try simp only [smT] at hm)) | refine Rng.mk (by (try simp only [smT]); omega) ?_ | refine Drw.of (T := tt) (i := 13) [] [] [(0, true), (1, true), (2, true), (3, true), (4, true), (5, true), (6, true), (7, true), (8, true), (9, true), (10, true), (11, true), (12, true), (13, true), (14, true), (15, true), (16, true), (17, true), (18, true), (19, true), (20, true), (21, true), (22, true), (23, true), (24, true), (25, true), (26, true), (27, true), (28, true), (29, true), (30, true)] (by kernel_rfl) ?_ | refine Drw.of (T := tt) (i := 15) [] [] [(0, true), (1, true), (2, true), (3, true), (4, true), (5, true), (6, true), (7, true)] (by kernel_rfl) ?_ | (refine CL.mk (Or.inl ?_); (conv => whnf); refine Cl.is (hsh) rfl (by first | exact fun _ => rfl | fail) ?_) | (refine CL.mk (Or.inr (Raw.callI [907] [907] rfl rfl rfl rfl rfl rfl rfl (hst) ?_)); rintro _ _ ⟨rfl, rfl⟩; refine Bk.mk rfl rfl ?_))
                      all_goals (conv => whnf)
                      all_goals first | (exfalso; clear hrx hrk hsh hst hv; simp_all; done) | (exfalso; clear hrx hrk hsh hst hv; simp at *; omega) | refine RetO.mk ⟨[(907, .k 907)], _, _, (by first | exact LeS.d (by first | exact LeD.u rfl | fail) | fail), (by repeat (first | exact LeO.nil | refine LeO.ab rfl rfl (by repeat (first | exact LeL.nil | fail)) (by first | rfl | fail) ?_ | fail)), rfl, rfl⟩
                  · have w2 := w.deep hv hx (by omega)
                    clear w hnx he v1 hn
                    generalize varM n e.locs = o at *
                    repeat' ((conv => whnf); first | refine hrx rfl ?_ | refine hrd rfl ?_ | refine Gs.id ?_ | refine Brn.T (by (try simp only [smT]); first | rfl | assumption | omega | fail) ?_ | refine Brn.F (by (try simp only [smT]); first | rfl | assumption | fail) ?_ | (refine Bnd.mk (fun hm => ?_); (try simp only [smT] at hm)) | refine Rng.mk (by (try simp only [smT]); omega) ?_ | refine Drw.of (T := tt) (i := 13) [] [] [(0, true), (1, true), (2, true), (3, true), (4, true), (5, true), (6, true), (7, true), (8, true), (9, true), (10, true), (11, true), (12, true), (13, true), (14, true), (15, true), (16, true), (17, true), (18, true), (19, true), (20, true), (21, true), (22, true), (23, true), (24, true), (25, true), (26, true), (27, true), (28, true), (29, true), (30, true)] (by kernel_rfl) ?_ | refine Drw.of (T := tt) (i := 15) [] [] [(0, true), (1, true), (2, true), (3, true), (4, true), (5, true), (6, true), (7, true)] (by kernel_rfl) ?_)
                    all_goals (conv => whnf)
                    all_goals first | (exfalso; clear hrx hrk hst w2 hv; simp_all; done) | (exfalso; clear hrx hrk hst w2 hv; simp at *; omega) | exact ⟨i + 1, ⟨by omega, by omega, w2⟩, by omega, [(9, .k 9), (907, .k 907)], ⟨by (try dsimp only); (repeat (refine LeT.cons rfl (by first | exact LeS.d (by first | exact LeD.u rfl | exact LeD.p rfl | fail) | fail) ?_)); exact LeT.nil, by (try dsimp only); repeat (first | exact LeO.nil | refine LeO.bx rfl rfl (by repeat (first | exact LeL.nil | refine LeL.cons (by first | exact LeD.u rfl | fail) ?_)) ?_ | refine LeO.ab rfl rfl (by repeat (first | exact LeL.nil | fail)) (by first | rfl | fail) ?_ | fail)⟩⟩
                · have hid2 : ¬ (i : Int) < (d.1 : Int) := by omega
                  clear w hnx he v1 hn hnc0 hrd0
                  generalize varM n e.locs = o at *
                  repeat' ((conv => whnf); first | refine hrx rfl ?_ | refine hrd rfl ?_ | refine Gs.id ?_ | refine Brn.T (by (try simp only [smT]); first | rfl | omega | fail) ?_ | refine Brn.F (by (try simp only [smT]); first | rfl | assumption | omega | fail) ?_ | (refine Bnd.mk (fun hm => ?_); (try simp only [smT] at hm)) | refine Rng.mk (by (try simp only [smT]); omega) ?_ | refine Drw.of (T := tt) (i := 13) [] [] [(0, true), (1, true), (2, true), (3, true), (4, true), (5, true), (6, true), (7, true), (8, true), (9, true), (10, true), (11, true), (12, true), (13, true), (14, true), (15, true), (16, true), (17, true), (18, true), (19, true), (20, true), (21, true), (22, true), (23, true), (24, true), (25, true), (26, true), (27, true), (28, true), (29, true), (30, true)] (by kernel_rfl) ?_ | (refine CL.mk (Or.inr (Raw.callI [907] [907] rfl rfl rfl rfl rfl rfl rfl (hst) ?_)); rintro _ _ ⟨rfl, rfl⟩; refine Bk.mk rfl rfl ?_))
                  all_goals (conv => whnf)
                  all_goals first | (exfalso; clear hrx hrk hst hv hrd; simp_all; done) | (exfalso; clear hrx hrk hst hv hrd; simp at *; omega) | refine RetO.mk ⟨[(907, .k 907)], _, _, (by first | exact LeS.d (by first | exact LeD.u rfl | fail) | fail), (by repeat (first | exact LeO.nil | refine LeO.ab rfl rfl (by repeat (first | exact LeL.nil | fail)) (by first | rfl | fail) ?_ | fail)), rfl, rfl⟩
          · obtain rfl : i = l.length := by omega
            clear w hnx he v1 hn hrow hnb hrd0
            generalize varM n e.locs = o at *
            repeat' ((conv => whnf); first | refine Gs.id ?_ | with_reducible refine Brn.F rfl ?_ | refine Brn.F (by (try simp only [smT]); first | rfl | omega | fail) ?_ | (refine Bnd.mk (fun hm => ?_); (try simp only [smT] at hm)) | refine Drw.of (T := tt) (i := 13) [] [] [(0, true), (1, true), (2, true), (3, true), (4, true), (5, true), (6, true), (7, true), (8, true), (9, true), (10, true), (11, true), (12, true), (13, true), (14, true), (15, true), (16, true), (17, true), (18, true), (19, true), (20, true), (21, true), (22, true), (23, true), (24, true), (25, true), (26, true), (27, true), (28, true), (29, true), (30, true)] (by kernel_rfl) ?_ | (refine CL.mk (Or.inr (Raw.callI [907] [907] rfl rfl rfl rfl rfl rfl rfl (hst) ?_)); rintro _ _ ⟨rfl, rfl⟩; refine Bk.mk rfl rfl ?_))
            all_goals (conv => whnf)
            all_goals first | (exfalso; clear hrk hst hv; simp_all; done) | (exfalso; clear hrk hst hv; simp at *; omega) | refine RetO.mk ⟨[(907, .k 907)], _, _, (by first | exact LeS.d (by first | exact LeD.u rfl | fail) | fail), (by repeat (first | exact LeO.nil | refine LeO.ab rfl rfl (by repeat (first | exact LeL.nil | fail)) (by first | rfl | fail) ?_ | fail)), rfl, rfl⟩
        · rw [decide_eq_false (by rw [hcm]; exact hk)] at hin
          clear hmem hbt he
          refine callsA_of_vcO (T := tt) Tryz.func11 rfl rfl rfl rfl rfl ?_
          repeat' ((conv => whnf); first | refine hrow0 rfl ?_ | refine Gs.id ?_ | with_reducible refine And.intro ?_ ?_ | with_reducible refine Brn.T rfl ?_ | with_reducible refine Brn.F rfl ?_ | refine Brn.F (by (try simp only [smT]); first | rfl | omega | fail) ?_ | (refine Bnd.mk (fun hm => ?_); (try simp only [smT] at hm)) | refine Rng.mk (by (try simp only [smT]); omega) ?_ | refine Drw.ofT (T := tt) (i := 3) [4, 8, 10, 14, 16] [0, 1, 2, 3, 5, 6, 7, 9, 11, 12, 13, 15] (OF.fst 0 (OF.fst 1 (OF.fst 2 (OF.fst 3 (OF.fst 5 (OF.fst 6 (OF.fst 7 (OF.fst 9 (OF.alt 4 (OF.alt 8 (OF.alt 10 (OF.fst 11 (OF.fst 12 (OF.fst 13 (OF.alt 14 (OF.fst 15 (OF.alt 16 OF.nil OF.nil)) OF.nil)))) (OF.alt 14 (OF.alt 10 (OF.fst 11 (OF.fst 12 (OF.fst 13 (OF.fst 15 (OF.alt 16 OF.nil OF.nil))))) OF.nil) OF.nil)) (OF.alt 14 (OF.alt 8 (OF.alt 10 (OF.fst 11 (OF.fst 12 (OF.fst 13 (OF.fst 15 (OF.alt 16 OF.nil OF.nil))))) OF.nil) OF.nil) OF.nil)) (OF.alt 8 (OF.alt 4 (OF.alt 10 (OF.fst 11 (OF.fst 12 (OF.fst 13 (OF.alt 14 (OF.fst 15 (OF.alt 16 OF.nil OF.nil)) OF.nil)))) (OF.alt 14 (OF.alt 10 (OF.fst 11 (OF.fst 12 (OF.fst 13 (OF.fst 15 (OF.alt 16 OF.nil OF.nil))))) OF.nil) OF.nil)) (OF.alt 14 (OF.alt 4 (OF.alt 10 (OF.fst 11 (OF.fst 12 (OF.fst 13 (OF.fst 15 (OF.alt 16 OF.nil OF.nil))))) OF.nil) OF.nil) OF.nil)) (OF.alt 14 (OF.alt 4 (OF.alt 8 (OF.alt 10 (OF.fst 11 (OF.fst 12 (OF.fst 13 (OF.fst 15 (OF.alt 16 OF.nil OF.nil))))) OF.nil) OF.nil) (OF.alt 8 (OF.alt 4 (OF.alt 10 (OF.fst 11 (OF.fst 12 (OF.fst 13 (OF.fst 15 (OF.alt 16 OF.nil OF.nil))))) OF.nil) OF.nil) OF.nil)) OF.nil))))))))))) (by kernel_rfl) ?_ | (refine CL.mk (Or.inl ?_); (conv => whnf); first | refine Cl.is (h2) rfl (by first | exact fun _ => rfl | fail) ?_ | refine Cl.is (h5) rfl (by first | exact fun _ => rfl | fail) ?_ | refine Cl.is (h1) rfl (by first | (intro e; cases e; done) | fail) ?_ | refine Cl.is (hin) rfl (by first | exact fun _ => rfl | fail) ?_) | (refine CL.mk (Or.inr (Raw.callI [907] [907] rfl rfl rfl rfl rfl rfl rfl (hst) ?_)); rintro _ _ ⟨rfl, rfl⟩; refine Bk.mk rfl rfl ?_))
          all_goals (conv => whnf)
          all_goals first | (exfalso; clear hrow0 hin h1 h2 h5 hst hv; simp_all; done) | refine RetO.mk ⟨[(907, .k 907)], _, _, (by first | exact LeS.d (by first | exact LeD.u rfl | fail) | fail), (by repeat (first | exact LeO.nil | refine LeO.ab rfl rfl (by repeat (first | exact LeL.nil | fail)) (by first | rfl | fail) ?_ | fail)), rfl, rfl⟩
      · rw [show nameB n = false by simpa using hn] at h5
        clear he hsz v1
        refine callsA_of_vcO (T := tt) Tryz.func11 rfl rfl rfl rfl rfl ?_
        repeat' ((conv => whnf); first | refine Gs.id ?_ | with_reducible refine Brn.T rfl ?_ | with_reducible refine Brn.F rfl ?_ | refine Brn.F (by (try simp only [smT]); first | rfl | omega | fail) ?_ | (refine Bnd.mk (fun hm => ?_); (try simp only [smT] at hm)) | (refine CL.mk (Or.inl ?_); (conv => whnf); first | refine Cl.is (h2) rfl (by first | exact fun _ => rfl | fail) ?_ | refine Cl.is (h5) rfl (by first | exact fun _ => rfl | fail) ?_) | (refine CL.mk (Or.inr (Raw.callI [907] [907] rfl rfl rfl rfl rfl rfl rfl (hst) ?_)); rintro _ _ ⟨rfl, rfl⟩; refine Bk.mk rfl rfl ?_))
        all_goals (conv => whnf)
        all_goals first | (exfalso; simp_all; done) | refine RetO.mk ⟨[(907, .k 907)], _, _, (by first | exact LeS.d (by first | exact LeD.u rfl | fail) | fail), (by repeat (first | exact LeO.nil | refine LeO.ab rfl rfl (by repeat (first | exact LeL.nil | fail)) (by first | rfl | fail) ?_ | fail)), rfl, rfl⟩
  · generalize validM l = a1 at *
    obtain ⟨a1, c1⟩ := a1
    dsimp only at v1 h2
    clear he hsz h5
    refine callsA_of_vcO (T := tt) Tryz.func11 rfl rfl rfl rfl rfl ?_
    repeat' ((conv => whnf); first | refine Gs.id ?_ | with_reducible refine Brn.T rfl ?_ | refine Brn.T (by (try simp only [smT]); first | rfl | assumption | fail) ?_ | (refine CL.mk (Or.inl ?_); (conv => whnf); refine Cl.is (h2) rfl (by first | exact fun _ => rfl | fail) ?_) | (refine CL.mk (Or.inr (Raw.callI [907] [907] rfl rfl rfl rfl rfl rfl rfl (hst) ?_)); rintro _ _ ⟨rfl, rfl⟩; refine Bk.mk rfl rfl ?_))
    all_goals (conv => whnf)
    all_goals refine RetO.mk ⟨[(907, .k 907)], _, _, (by first | exact LeS.d (by first | exact LeD.u rfl | fail) | fail), (by repeat (first | exact LeO.nil | refine LeO.ab rfl rfl (by repeat (first | exact LeL.nil | fail)) (by first | rfl | fail) ?_ | fail)), rfl, rfl⟩
end Go.Proofs.YtabmcfnefjipbaaGreatDoor
