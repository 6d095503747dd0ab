/-
  Part 6 of the proof of names_holds: laws and contracts that it needs.
-/
import Derived.Test.YtgloielnnakknaaDoorQe5
namespace Go.Proofs.YtgloielnnakknaaDoor
open Go.RowKit
theorem fin_inv {l : List Un} (h : (validateM l).1 = 0) : Inv l (finS l) := (runM_P l 5001 initS 0 (init_inv h).1 (by simp [initS])).inv
theorem attB_size {mods : List Md} {b : ByteArray} {a : At} (ha : a.name.size ≤ 60) (hn : ∀ j, (nameM mods j).size ≤ 60) : (attB mods b a).size ≤ b.size + 122 ∧ b.size ≤ (attB mods b a).size := by
  have e1 : spB.size = 1 := rfl
  have e2 : eqsB.size = 1 := rfl
  unfold attB
  cases a.mod with
  | none => simp only [ByteArray.size_append, e1]; omega
  | some j => have := hn j; simp only [ByteArray.size_append, e1, e2]; omega
abbrev bu0 : List E := mkE [(1, 5, 1)] 0 [V.pn, V.nl]
set_option maxHeartbeats 4000000 in
theorem names_ok (l : List Un) (h1 : (validateM l).1 = 0) (h2 : (finS l).full = false) (res : List ByteArray) (hr : namesW (finS l).mods [] (finS l).table = some res) : CallsA Tryd.prog 18 [.d (.u (uns l))] nmOb (Iso (.t [.d (.ow 906 res.length), .a (fd (0, 0))]) [(906, .ar 9 1 (strs res))]) := by
  have hI := fin_inv h1
  obtain ⟨hU, _⟩ := valid_Uok h1
  generalize hz : finS l = z at h2 hr hI
  obtain ⟨zm, zt, zl, zf⟩ := z
  dsimp only at h2 hr
  subst h2
  have hl := loaded_T l h1 zm zt zl false hz
  rw [if_neg (by simp), if_neg (by simp)] at hl
  have htl := hI.tlen hU
  have htab := hI.tab
  have hnm := fun j => nameM_size hU hI j
  dsimp only at htl htab hnm
  have e1 : spB.size = 1 := rfl
  have e2 : eqsB.size = 1 := rfl
  have e3 : colB.size = 1 := rfl
  have e4 : emp.size = 0 := rfl
  refine callsA_of_vcO (T := tt) Tryd.func18 rfl rfl rfl rfl rfl ?_
  repeat' ((conv => whnf); first | refine Gs.go (i := 5) (Ghost.nlOw 6 906 9 1 rfl rfl) ?_ | refine Gs.id ?_ | with_reducible refine Brn.F rfl ?_ | (refine Bnd.mk (fun hm => ?_); (try simp only [smT] at hm)) | refine Rw.lit rfl ?_ | (refine CL.mk (Or.inr (Raw.callI [1,2] [1,2] rfl rfl rfl rfl rfl rfl rfl (hl) ?_)); rintro _ _ ⟨rfl, rfl⟩; refine Bk.mk rfl rfl ?_))
  all_goals (conv => whnf)
  refine ⟨⟨Nat × List ByteArray × List (List E), fun x => x.1 ≤ zt.length ∧ namesW zm x.2.1 (zt.drop x.1) = some res ∧ x.2.1.length ≤ x.1, fun x => zt.length - x.1, fun x => ⟨[(3, .d (.p 3 0)), (6, .d (.ow 906 x.2.1.length)), (24, .d (.r 1 0 1 1 zt.length)), (25, di zt.length), (26, di x.1)], (3, .bx 24 [.u (.int .i64 0), .u (.int .i64 0)]) :: (906, .ar 9 1 (strs x.2.1)) :: (77, .fm 75 x.2.2) :: ldOb l zm zt zl false⟩, (0, [], []), ⟨Nat.zero_le _, hr, Nat.le_refl _⟩, ⟨[(3, .k 3), (906, .k 906), (77, .k 77), (1, .k 1), (2, .k 2)], ⟨by (try dsimp only); (repeat (refine LeT.cons rfl (by first | exact LeS.d (by first | exact LeD.u rfl | exact LeD.p rfl | exact LeD.ow rfl rfl | exact LeD.u (by simp; done) | exact LeD.r (by simp; done) | fail) | fail) ?_)); exact LeT.nil, by (try dsimp only); repeat (first | exact LeO.nil | refine LeO.bx rfl rfl (by repeat (first | exact LeL.nil | refine LeL.cons (by first | exact LeD.u rfl | fail) ?_)) ?_ | refine LeO.ar rfl rfl (by first | rfl | fail) ?_ | refine LeO.fm rfl (by first | rfl | fail) ?_ | fail)⟩⟩, fun x hx => ?_⟩⟩
  obtain ⟨i, out, R⟩ := x
  obtain ⟨hi, he, hout⟩ := hx
  dsimp only at hi he hout ⊢
  by_cases h9 : i < zt.length
  · obtain ⟨j, hj⟩ : ∃ j, zt[i]? = some j := ⟨_, List.getElem?_eq_getElem h9⟩
    rw [namesW_next hj] at he
    have hjl := htab j (List.mem_of_getElem? hj)
    obtain ⟨⟨jn, jr, ja⟩, hjm⟩ : ∃ m, zm[j]? = some m := ⟨_, List.getElem?_eq_getElem hjl⟩
    have hal := hI.alen hU (List.mem_of_getElem? hjm)
    have hsub := hI.sub _ (List.mem_of_getElem? hjm)
    have hptr := hI.ptr _ (List.mem_of_getElem? hjm)
    have hjz := hasU_size hU (hI.nm _ (List.mem_of_getElem? hjm))
    dsimp only at hal hsub hptr hjz
    have hnj : nameM zm j = jn := by simp [nameM, nmOf, hjm]
    have haj : atsM zm j = ja := by simp [atsM, hjm]
    have hR0 : (R ++ [bu0])[R.length]? = some (buRow .pn emp) := by simp; rfl
    have hw0 := wrNew_T (R ++ [bu0]) R.length emp (jn ++ colB) (by rw [e4]; omega) (by simp only [ByteArray.size_append, e3]; omega) hR0
    have hR1 := set_at (b := buRow (.m 77 R.length 0) (emp ++ (jn ++ colB))) hR0
    generalize hM : mdB zm j = M at he
    rw [mdB, hnj, haj] at hM
    repeat' ((conv => whnf); first | refine Rw_get hj ?_ | refine Rw_md hjm ?_ | refine Cat.mk (by have q1 : (⟨#[58]⟩ : ByteArray).size = 1 := rfl; have q2 : (⟨#[32]⟩ : ByteArray).size = 1 := rfl; have q3 : (⟨#[61]⟩ : ByteArray).size = 1 := rfl; unfold maxLen; (try dsimp only); (try simp only [q1, q2, q3]); omega) ?_ | refine Gs.id ?_ | refine Brn.T (by (try simp only [smT]); first | rfl | omega | fail) ?_ | (refine Bnd.mk (fun hm => ?_); (try simp only [smT] at hm)) | refine Ixo.mk ⟨_, rfl, (by (try simp only [smT]); omega), ?_⟩ | refine Rw.lit rfl ?_ | (refine CL.mk (Or.inr (Raw.callI [77] [77] rfl rfl rfl rfl rfl rfl rfl (hw0) ?_)); rintro _ _ ⟨rfl, rfl⟩; refine Bk.mk rfl rfl ?_) | refine Spc.mk ⟨[(1,(5,1))], ?_⟩)
    all_goals (conv => whnf)
    refine ⟨⟨Nat × ByteArray × List (List E), fun y => y.1 ≤ ja.length ∧ attsB zm y.2.1 (ja.drop y.1) = M ∧ y.2.1.size ≤ 61 + 122 * y.1 ∧ 1 ≤ y.2.1.size ∧ y.2.2[R.length]? = some (buRow (.m 77 R.length 0) y.2.1), fun y => ja.length - y.1, fun y => ⟨[(3, .d (.p 3 0)), (6, .d (.ow 906 out.length)), (9, buP R.length), (24, .d (.r 1 0 1 1 zt.length)), (25, di zt.length), (26, di i), (39, .d (.r 2 j 2 2 ja.length)), (40, di ja.length), (41, di y.1)], (3, .bx 24 [.u (.int .i64 0), .u (.int .i64 0)]) :: (906, .ar 9 1 (strs out)) :: (77, .fm 75 y.2.2) :: ldOb l zm zt zl false⟩, (0, emp ++ (jn ++ colB), (R ++ [bu0]).set R.length (buRow (.m 77 R.length 0) (emp ++ (jn ++ colB)))), ⟨Nat.zero_le _, hM, by simp only [ByteArray.size_append, e3, e4]; omega, by simp only [ByteArray.size_append, e3]; omega, hR1⟩, ⟨[(3, .k 3), (906, .k 906), (77, .k 77), (1, .k 1), (2, .k 2)], ⟨by (try dsimp only); (repeat (refine LeT.cons rfl (by first | exact LeS.d (by first | exact LeD.u rfl | exact LeD.p rfl | exact LeD.ow rfl rfl | exact LeD.u (by simp; done) | exact LeD.r rfl | exact LeD.r (by simp; done) | fail) | fail) ?_)); exact LeT.nil, by (try dsimp only); repeat (first | exact LeO.nil | refine LeO.bx rfl rfl (by repeat (first | exact LeL.nil | refine LeL.cons (by first | exact LeD.u rfl | fail) ?_)) ?_ | refine LeO.ar rfl rfl (by first | rfl | fail) ?_ | refine LeO.fm rfl (by first | rfl | fail) ?_ | fail)⟩⟩, fun y hy => ?_⟩⟩
    obtain ⟨q, b, R1⟩ := y
    obtain ⟨hq, hb1, hb2, hb3, hRR⟩ := hy
    dsimp only at hq hb1 hb2 hb3 hRR ⊢
    by_cases h8 : q < ja.length
    · obtain ⟨⟨an, am⟩, hqa⟩ : ∃ a, ja[q]? = some a := ⟨_, List.getElem?_eq_getElem h8⟩
      rw [attsB_next hqa] at hb1
      have hanz := namesA_size hU (hsub _ (List.mem_of_getElem? hqa))
      have hpa := hptr _ (List.mem_of_getElem? hqa)
      have hsz := attB_size (b := b) (a := ⟨an, am⟩) hanz hnm
      dsimp only at hanz hpa
      have hw1 := wrOld_T R1 R.length b (spB ++ an) (by omega) (by simp only [ByteArray.size_append, e1]; omega) hRR
      have hRR2 := set_at (b := buRow (.m 77 R.length 0) (b ++ (spB ++ an))) hRR
      rcases am with _ | t
      · repeat' ((conv => whnf); first | refine Rw_md hjm ?_ | refine Rw_at hqa ?_ | refine Cat.mk (by have q1 : (⟨#[58]⟩ : ByteArray).size = 1 := rfl; have q2 : (⟨#[32]⟩ : ByteArray).size = 1 := rfl; have q3 : (⟨#[61]⟩ : ByteArray).size = 1 := rfl; unfold maxLen; (try dsimp only); (try simp only [q1, q2, q3]); omega) ?_ | refine Gs.id ?_ | with_reducible refine Brn.F rfl ?_ | refine Brn.T (by (try simp only [smT]); first | rfl | omega | fail) ?_ | refine Rng.mk (by (try simp only [smT]); omega) ?_ | refine Ixo.mk ⟨_, rfl, (by (try simp only [smT]); omega), ?_⟩ | (refine CL.mk (Or.inr (Raw.callI [77] [77] rfl rfl rfl rfl rfl rfl rfl (hw1) ?_)); rintro _ _ ⟨rfl, rfl⟩; refine Bk.mk rfl rfl ?_))
        all_goals (conv => whnf)
        all_goals exact ⟨(q + 1, b ++ (spB ++ an), R1.set R.length (buRow (.m 77 R.length 0) (b ++ (spB ++ an)))), ⟨by dsimp only; omega, hb1, by simp only [attB] at hsz; dsimp only; omega, by simp only [attB] at hsz; dsimp only; omega, hRR2⟩, by dsimp only; omega, [(3, .k 3), (906, .k 906), (77, .k 77), (1, .k 1), (2, .k 2)], ⟨by (try dsimp only); (repeat (refine LeT.cons rfl (by first | exact LeS.d (by first | exact LeD.u rfl | exact LeD.p rfl | exact LeD.ow rfl rfl | exact LeD.r rfl | fail) | fail) ?_)); exact LeT.nil, by (try dsimp only); repeat (first | exact LeO.nil | refine LeO.bx rfl rfl (by repeat (first | exact LeL.nil | refine LeL.cons (by first | exact LeD.u rfl | fail) ?_)) ?_ | refine LeO.ar rfl rfl (by first | rfl | fail) ?_ | refine LeO.fm rfl (by first | rfl | fail) ?_ | fail)⟩⟩
      · have htz := hpa t rfl
        obtain ⟨⟨tn, tr, ta⟩, htm⟩ : ∃ m, zm[t]? = some m := ⟨_, List.getElem?_eq_getElem htz⟩
        have hnt : nameM zm t = tn := by simp [nameM, nmOf, htm]
        have htns := hnm t
        rw [hnt] at htns
        simp only [attB, hnt] at hb1 hsz
        have hw2 := wrOld_T _ R.length (b ++ (spB ++ an)) (eqsB ++ tn) (by simp only [ByteArray.size_append, e1]; omega) (by simp only [ByteArray.size_append, e2]; omega) hRR2
        have hRR3 := set_at (b := buRow (.m 77 R.length 0) (b ++ (spB ++ an) ++ (eqsB ++ tn))) hRR2
        repeat' ((conv => whnf); first | refine Rw_md hjm ?_ | refine Rw_md htm ?_ | refine Rw_at hqa ?_ | refine Cat.mk (by have q1 : (⟨#[58]⟩ : ByteArray).size = 1 := rfl; have q2 : (⟨#[32]⟩ : ByteArray).size = 1 := rfl; have q3 : (⟨#[61]⟩ : ByteArray).size = 1 := rfl; unfold maxLen; (try dsimp only); (try simp only [q1, q2, q3]); omega) ?_ | refine Gs.id ?_ | with_reducible refine Brn.T rfl ?_ | refine Brn.T (by (try simp only [smT]); first | rfl | omega | fail) ?_ | refine Rng.mk (by (try simp only [smT]); omega) ?_ | refine Ixo.mk ⟨_, rfl, (by (try simp only [smT]); omega), ?_⟩ | (refine CL.mk (Or.inr (Raw.callI [77] [77] rfl rfl rfl rfl rfl rfl rfl (hw1) ?_)); rintro _ _ ⟨rfl, rfl⟩; refine Bk.mk rfl rfl ?_) | (refine CL.mk (Or.inr (Raw.callI [77] [77] rfl rfl rfl rfl rfl rfl rfl (hw2) ?_)); rintro _ _ ⟨rfl, rfl⟩; refine Bk.mk rfl rfl ?_))
        all_goals (conv => whnf)
        all_goals exact ⟨(q + 1, b ++ (spB ++ an) ++ (eqsB ++ tn), _), ⟨by dsimp only; omega, hb1, by dsimp only; omega, by dsimp only; omega, hRR3⟩, by dsimp only; omega, [(3, .k 3), (906, .k 906), (77, .k 77), (1, .k 1), (2, .k 2)], ⟨by (try dsimp only); (repeat (refine LeT.cons rfl (by first | exact LeS.d (by first | exact LeD.u rfl | exact LeD.p rfl | exact LeD.ow rfl rfl | exact LeD.r rfl | fail) | fail) ?_)); exact LeT.nil, by (try dsimp only); repeat (first | exact LeO.nil | refine LeO.bx rfl rfl (by repeat (first | exact LeL.nil | refine LeL.cons (by first | exact LeD.u rfl | fail) ?_)) ?_ | refine LeO.ar rfl rfl (by first | rfl | fail) ?_ | refine LeO.fm rfl (by first | rfl | fail) ?_ | fail)⟩⟩
    · obtain rfl : q = ja.length := by omega
      rw [List.drop_length, attsB] at hb1
      subst hb1
      have hlen := len_T R1 R.length _ b hRR
      have hstr := str_T R1 R.length _ b (by omega) hRR
      by_cases h4 : 4000 < (b.size : Int)
      · rw [if_pos h4] at he
        cases he
      · rw [if_neg h4] at he
        repeat' ((conv => whnf); first | refine Gs.id ?_ | refine Brn.F (by (try simp only [smT]); first | rfl | omega | fail) ?_ | refine Rng.mk (by (try simp only [smT]); omega) ?_ | refine Apd.mk (by first | rfl | simp) (by first | rfl | fail) (by (try simp only [smT]); first | omega | fail) (by unfold maxLen; first | (simp; omega) | fail) ?_ | (refine CL.mk (Or.inr (Raw.callI [77] [77] rfl rfl rfl rfl rfl rfl rfl (hlen) ?_)); rintro _ _ ⟨rfl, rfl⟩; refine Bk.mk rfl rfl ?_) | (refine CL.mk (Or.inr (Raw.callI [77] [77] rfl rfl rfl rfl rfl rfl rfl (hstr) ?_)); rintro _ _ ⟨rfl, rfl⟩; refine Bk.mk rfl rfl ?_))
        all_goals (conv => whnf)
        all_goals exact ⟨(i + 1, out ++ [b], R1.set R.length [.v (.m 77 R.length 0), .hl]), ⟨by dsimp only; omega, he, by simp; omega⟩, by dsimp only; omega, [(3, .k 3), (906, .k 66), (77, .k 77), (1, .k 1), (2, .k 2)], ⟨by (try dsimp only); (repeat (refine LeT.cons rfl (by first | exact LeS.d (by first | exact LeD.u rfl | exact LeD.p rfl | exact LeD.ow rfl (by simp) | exact LeD.r rfl | fail) | fail) ?_)); exact LeT.nil, by (try dsimp only); repeat (first | exact LeO.nil | refine LeO.bx rfl rfl (by repeat (first | exact LeL.nil | refine LeL.cons (by first | exact LeD.u rfl | fail) ?_)) ?_ | refine LeO.ar rfl rfl (by first | rfl | simp) ?_ | refine LeO.fm rfl (by first | rfl | fail) ?_ | fail)⟩⟩
  · obtain rfl : i = zt.length := by omega
    rw [List.drop_length, namesW] at he
    injection he with he
    subst he
    repeat' ((conv => whnf); first | refine Gs.id ?_ | refine Brn.F (by (try simp only [smT]); first | rfl | omega | fail) ?_ | fail)
    all_goals (conv => whnf)
    all_goals exact RetO.mk ⟨[(906, .k 906)], _, _, (by exact LeS.ts (by repeat (first | exact LeCs.nil | refine LeCs.cons (by first | exact LeC.d (by first | exact LeD.ow rfl rfl | fail) | exact LeC.a (by repeat (first | exact LeL.nil | refine LeL.cons (by first | exact LeD.u rfl | fail) ?_))) ?_))), (by repeat (first | exact LeO.nil | refine LeO.ar rfl rfl (by first | rfl | fail) ?_ | fail)), rfl, rfl⟩
set_option maxHeartbeats 4000000 in
theorem names_big (l : List Un) (h1 : (validateM l).1 = 0) (h2 : (finS l).full = false) (hr : namesW (finS l).mods [] (finS l).table = none) : CallsA Tryd.prog 18 [.d (.u (uns l))] nmOb (Iso (.t [.d (.u .nl), .a (fd (14, -1))]) []) := by
  have hI := fin_inv h1
  obtain ⟨hU, _⟩ := valid_Uok h1
  generalize hz : finS l = z at h2 hr hI
  obtain ⟨zm, zt, zl, zf⟩ := z
  dsimp only at h2 hr
  subst h2
  have hl := loaded_T l h1 zm zt zl false hz
  rw [if_neg (by simp), if_neg (by simp)] at hl
  have htl := hI.tlen hU
  have htab := hI.tab
  have hnm := fun j => nameM_size hU hI j
  dsimp only at htl htab hnm
  have e1 : spB.size = 1 := rfl
  have e2 : eqsB.size = 1 := rfl
  have e3 : colB.size = 1 := rfl
  have e4 : emp.size = 0 := rfl
  refine callsA_of_vcO (T := tt) Tryd.func18 rfl rfl rfl rfl rfl ?_
  repeat' ((conv => whnf); first | refine Gs.go (i := 5) (Ghost.nlOw 6 906 9 1 rfl rfl) ?_ | refine Gs.id ?_ | with_reducible refine Brn.F rfl ?_ | (refine Bnd.mk (fun hm => ?_); (try simp only [smT] at hm)) | refine Rw.lit rfl ?_ | (refine CL.mk (Or.inr (Raw.callI [1,2] [1,2] rfl rfl rfl rfl rfl rfl rfl (hl) ?_)); rintro _ _ ⟨rfl, rfl⟩; refine Bk.mk rfl rfl ?_))
  all_goals (conv => whnf)
  refine ⟨⟨Nat × List ByteArray × List (List E), fun x => x.1 ≤ zt.length ∧ namesW zm x.2.1 (zt.drop x.1) = none ∧ x.2.1.length ≤ x.1, fun x => zt.length - x.1, fun x => ⟨[(3, .d (.p 3 0)), (6, .d (.ow 906 x.2.1.length)), (24, .d (.r 1 0 1 1 zt.length)), (25, di zt.length), (26, di x.1)], (3, .bx 24 [.u (.int .i64 0), .u (.int .i64 0)]) :: (906, .ar 9 1 (strs x.2.1)) :: (77, .fm 75 x.2.2) :: ldOb l zm zt zl false⟩, (0, [], []), ⟨Nat.zero_le _, hr, Nat.le_refl _⟩, ⟨[(3, .k 3), (906, .k 906), (77, .k 77), (1, .k 1), (2, .k 2)], ⟨by (try dsimp only); (repeat (refine LeT.cons rfl (by first | exact LeS.d (by first | exact LeD.u rfl | exact LeD.p rfl | exact LeD.ow rfl rfl | exact LeD.u (by simp; done) | exact LeD.r (by simp; done) | fail) | fail) ?_)); exact LeT.nil, by (try dsimp only); repeat (first | exact LeO.nil | refine LeO.bx rfl rfl (by repeat (first | exact LeL.nil | refine LeL.cons (by first | exact LeD.u rfl | fail) ?_)) ?_ | refine LeO.ar rfl rfl (by first | rfl | fail) ?_ | refine LeO.fm rfl (by first | rfl | fail) ?_ | fail)⟩⟩, fun x hx => ?_⟩⟩
  obtain ⟨i, out, R⟩ := x
  obtain ⟨hi, he, hout⟩ := hx
  dsimp only at hi he hout ⊢
  by_cases h9 : i < zt.length
  · obtain ⟨j, hj⟩ : ∃ j, zt[i]? = some j := ⟨_, List.getElem?_eq_getElem h9⟩
    rw [namesW_next hj] at he
    have hjl := htab j (List.mem_of_getElem? hj)
    obtain ⟨⟨jn, jr, ja⟩, hjm⟩ : ∃ m, zm[j]? = some m := ⟨_, List.getElem?_eq_getElem hjl⟩
    have hal := hI.alen hU (List.mem_of_getElem? hjm)
    have hsub := hI.sub _ (List.mem_of_getElem? hjm)
    have hptr := hI.ptr _ (List.mem_of_getElem? hjm)
    have hjz := hasU_size hU (hI.nm _ (List.mem_of_getElem? hjm))
    dsimp only at hal hsub hptr hjz
    have hnj : nameM zm j = jn := by simp [nameM, nmOf, hjm]
    have haj : atsM zm j = ja := by simp [atsM, hjm]
    have hR0 : (R ++ [bu0])[R.length]? = some (buRow .pn emp) := by simp; rfl
    have hw0 := wrNew_T (R ++ [bu0]) R.length emp (jn ++ colB) (by rw [e4]; omega) (by simp only [ByteArray.size_append, e3]; omega) hR0
    have hR1 := set_at (b := buRow (.m 77 R.length 0) (emp ++ (jn ++ colB))) hR0
    generalize hM : mdB zm j = M at he
    rw [mdB, hnj, haj] at hM
    repeat' ((conv => whnf); first | refine Rw_get hj ?_ | refine Rw_md hjm ?_ | refine Cat.mk (by have q1 : (⟨#[58]⟩ : ByteArray).size = 1 := rfl; have q2 : (⟨#[32]⟩ : ByteArray).size = 1 := rfl; have q3 : (⟨#[61]⟩ : ByteArray).size = 1 := rfl; unfold maxLen; (try dsimp only); (try simp only [q1, q2, q3]); omega) ?_ | refine Gs.id ?_ | refine Brn.T (by (try simp only [smT]); first | rfl | omega | fail) ?_ | (refine Bnd.mk (fun hm => ?_); (try simp only [smT] at hm)) | refine Ixo.mk ⟨_, rfl, (by (try simp only [smT]); omega), ?_⟩ | refine Rw.lit rfl ?_ | (refine CL.mk (Or.inr (Raw.callI [77] [77] rfl rfl rfl rfl rfl rfl rfl (hw0) ?_)); rintro _ _ ⟨rfl, rfl⟩; refine Bk.mk rfl rfl ?_) | refine Spc.mk ⟨[(1,(5,1))], ?_⟩)
    all_goals (conv => whnf)
    refine ⟨⟨Nat × ByteArray × List (List E), fun y => y.1 ≤ ja.length ∧ attsB zm y.2.1 (ja.drop y.1) = M ∧ y.2.1.size ≤ 61 + 122 * y.1 ∧ 1 ≤ y.2.1.size ∧ y.2.2[R.length]? = some (buRow (.m 77 R.length 0) y.2.1), fun y => ja.length - y.1, fun y => ⟨[(3, .d (.p 3 0)), (6, .d (.ow 906 out.length)), (9, buP R.length), (24, .d (.r 1 0 1 1 zt.length)), (25, di zt.length), (26, di i), (39, .d (.r 2 j 2 2 ja.length)), (40, di ja.length), (41, di y.1)], (3, .bx 24 [.u (.int .i64 0), .u (.int .i64 0)]) :: (906, .ar 9 1 (strs out)) :: (77, .fm 75 y.2.2) :: ldOb l zm zt zl false⟩, (0, emp ++ (jn ++ colB), (R ++ [bu0]).set R.length (buRow (.m 77 R.length 0) (emp ++ (jn ++ colB)))), ⟨Nat.zero_le _, hM, by simp only [ByteArray.size_append, e3, e4]; omega, by simp only [ByteArray.size_append, e3]; omega, hR1⟩, ⟨[(3, .k 3), (906, .k 906), (77, .k 77), (1, .k 1), (2, .k 2)], ⟨by (try dsimp only); (repeat (refine LeT.cons rfl (by first | exact LeS.d (by first | exact LeD.u rfl | exact LeD.p rfl | exact LeD.ow rfl rfl | exact LeD.u (by simp; done) | exact LeD.r rfl | exact LeD.r (by simp; done) | fail) | fail) ?_)); exact LeT.nil, by (try dsimp only); repeat (first | exact LeO.nil | refine LeO.bx rfl rfl (by repeat (first | exact LeL.nil | refine LeL.cons (by first | exact LeD.u rfl | fail) ?_)) ?_ | refine LeO.ar rfl rfl (by first | rfl | fail) ?_ | refine LeO.fm rfl (by first | rfl | fail) ?_ | fail)⟩⟩, fun y hy => ?_⟩⟩
    obtain ⟨q, b, R1⟩ := y
    obtain ⟨hq, hb1, hb2, hb3, hRR⟩ := hy
    dsimp only at hq hb1 hb2 hb3 hRR ⊢
    by_cases h8 : q < ja.length
    · obtain ⟨⟨an, am⟩, hqa⟩ : ∃ a, ja[q]? = some a := ⟨_, List.getElem?_eq_getElem h8⟩
      rw [attsB_next hqa] at hb1
      have hanz := namesA_size hU (hsub _ (List.mem_of_getElem? hqa))
      have hpa := hptr _ (List.mem_of_getElem? hqa)
      have hsz := attB_size (b := b) (a := ⟨an, am⟩) hanz hnm
      dsimp only at hanz hpa
      have hw1 := wrOld_T R1 R.length b (spB ++ an) (by omega) (by simp only [ByteArray.size_append, e1]; omega) hRR
      have hRR2 := set_at (b := buRow (.m 77 R.length 0) (b ++ (spB ++ an))) hRR
      rcases am with _ | t
      · repeat' ((conv => whnf); first | refine Rw_md hjm ?_ | refine Rw_at hqa ?_ | refine Cat.mk (by have q1 : (⟨#[58]⟩ : ByteArray).size = 1 := rfl; have q2 : (⟨#[32]⟩ : ByteArray).size = 1 := rfl; have q3 : (⟨#[61]⟩ : ByteArray).size = 1 := rfl; unfold maxLen; (try dsimp only); (try simp only [q1, q2, q3]); omega) ?_ | refine Gs.id ?_ | with_reducible refine Brn.F rfl ?_ | refine Brn.T (by (try simp only [smT]); first | rfl | omega | fail) ?_ | refine Rng.mk (by (try simp only [smT]); omega) ?_ | refine Ixo.mk ⟨_, rfl, (by (try simp only [smT]); omega), ?_⟩ | (refine CL.mk (Or.inr (Raw.callI [77] [77] rfl rfl rfl rfl rfl rfl rfl (hw1) ?_)); rintro _ _ ⟨rfl, rfl⟩; refine Bk.mk rfl rfl ?_))
        all_goals (conv => whnf)
        all_goals exact ⟨(q + 1, b ++ (spB ++ an), R1.set R.length (buRow (.m 77 R.length 0) (b ++ (spB ++ an)))), ⟨by dsimp only; omega, hb1, by simp only [attB] at hsz; dsimp only; omega, by simp only [attB] at hsz; dsimp only; omega, hRR2⟩, by dsimp only; omega, [(3, .k 3), (906, .k 906), (77, .k 77), (1, .k 1), (2, .k 2)], ⟨by (try dsimp only); (repeat (refine LeT.cons rfl (by first | exact LeS.d (by first | exact LeD.u rfl | exact LeD.p rfl | exact LeD.ow rfl rfl | exact LeD.r rfl | fail) | fail) ?_)); exact LeT.nil, by (try dsimp only); repeat (first | exact LeO.nil | refine LeO.bx rfl rfl (by repeat (first | exact LeL.nil | refine LeL.cons (by first | exact LeD.u rfl | fail) ?_)) ?_ | refine LeO.ar rfl rfl (by first | rfl | fail) ?_ | refine LeO.fm rfl (by first | rfl | fail) ?_ | fail)⟩⟩
      · have htz := hpa t rfl
        obtain ⟨⟨tn, tr, ta⟩, htm⟩ : ∃ m, zm[t]? = some m := ⟨_, List.getElem?_eq_getElem htz⟩
        have hnt : nameM zm t = tn := by simp [nameM, nmOf, htm]
        have htns := hnm t
        rw [hnt] at htns
        simp only [attB, hnt] at hb1 hsz
        have hw2 := wrOld_T _ R.length (b ++ (spB ++ an)) (eqsB ++ tn) (by simp only [ByteArray.size_append, e1]; omega) (by simp only [ByteArray.size_append, e2]; omega) hRR2
        have hRR3 := set_at (b := buRow (.m 77 R.length 0) (b ++ (spB ++ an) ++ (eqsB ++ tn))) hRR2
        repeat' ((conv => whnf); first | refine Rw_md hjm ?_ | refine Rw_md htm ?_ | refine Rw_at hqa ?_ | refine Cat.mk (by have q1 : (⟨#[58]⟩ : ByteArray).size = 1 := rfl; have q2 : (⟨#[32]⟩ : ByteArray).size = 1 := rfl; have q3 : (⟨#[61]⟩ : ByteArray).size = 1 := rfl; unfold maxLen; (try dsimp only); (try simp only [q1, q2, q3]); omega) ?_ | refine Gs.id ?_ | with_reducible refine Brn.T rfl ?_ | refine Brn.T (by (try simp only [smT]); first | rfl | omega | fail) ?_ | refine Rng.mk (by (try simp only [smT]); omega) ?_ | refine Ixo.mk ⟨_, rfl, (by (try simp only [smT]); omega), ?_⟩ | (refine CL.mk (Or.inr (Raw.callI [77] [77] rfl rfl rfl rfl rfl rfl rfl (hw1) ?_)); rintro _ _ ⟨rfl, rfl⟩; refine Bk.mk rfl rfl ?_) | (refine CL.mk (Or.inr (Raw.callI [77] [77] rfl rfl rfl rfl rfl rfl rfl (hw2) ?_)); rintro _ _ ⟨rfl, rfl⟩; refine Bk.mk rfl rfl ?_))
        all_goals (conv => whnf)
        all_goals exact ⟨(q + 1, b ++ (spB ++ an) ++ (eqsB ++ tn), _), ⟨by dsimp only; omega, hb1, by dsimp only; omega, by dsimp only; omega, hRR3⟩, by dsimp only; omega, [(3, .k 3), (906, .k 906), (77, .k 77), (1, .k 1), (2, .k 2)], ⟨by (try dsimp only); (repeat (refine LeT.cons rfl (by first | exact LeS.d (by first | exact LeD.u rfl | exact LeD.p rfl | exact LeD.ow rfl rfl | exact LeD.r rfl | fail) | fail) ?_)); exact LeT.nil, by (try dsimp only); repeat (first | exact LeO.nil | refine LeO.bx rfl rfl (by repeat (first | exact LeL.nil | refine LeL.cons (by first | exact LeD.u rfl | fail) ?_)) ?_ | refine LeO.ar rfl rfl (by first | rfl | fail) ?_ | refine LeO.fm rfl (by first | rfl | fail) ?_ | fail)⟩⟩
    · obtain rfl : q = ja.length := by omega
      rw [List.drop_length, attsB] at hb1
      subst hb1
      have hlen := len_T R1 R.length _ b hRR
      have hstr := str_T R1 R.length _ b (by omega) hRR
      by_cases h4 : 4000 < (b.size : Int)
      · rw [if_pos h4] at he
        repeat' ((conv => whnf); first | refine Gs.id ?_ | refine Brn.T (by (try simp only [smT]); first | rfl | assumption | fail) ?_ | refine Brn.F (by (try simp only [smT]); first | rfl | omega | fail) ?_ | (refine CL.mk (Or.inr (Raw.callI [77] [77] rfl rfl rfl rfl rfl rfl rfl (hlen) ?_)); rintro _ _ ⟨rfl, rfl⟩; refine Bk.mk rfl rfl ?_))
        all_goals (conv => whnf)
        all_goals exact RetO.mk ⟨[], _, _, (by exact LeS.ts (by repeat (first | exact LeCs.nil | refine LeCs.cons (by first | exact LeC.d (by first | exact LeD.u rfl | fail) | exact LeC.a (by repeat (first | exact LeL.nil | refine LeL.cons (by first | exact LeD.u rfl | fail) ?_))) ?_))), .nil, rfl, rfl⟩
      · rw [if_neg h4] at he
        repeat' ((conv => whnf); first | refine Gs.id ?_ | refine Brn.F (by (try simp only [smT]); first | rfl | omega | fail) ?_ | refine Rng.mk (by (try simp only [smT]); omega) ?_ | refine Apd.mk (by first | rfl | simp) (by first | rfl | fail) (by (try simp only [smT]); first | omega | fail) (by unfold maxLen; first | (simp; omega) | fail) ?_ | (refine CL.mk (Or.inr (Raw.callI [77] [77] rfl rfl rfl rfl rfl rfl rfl (hlen) ?_)); rintro _ _ ⟨rfl, rfl⟩; refine Bk.mk rfl rfl ?_) | (refine CL.mk (Or.inr (Raw.callI [77] [77] rfl rfl rfl rfl rfl rfl rfl (hstr) ?_)); rintro _ _ ⟨rfl, rfl⟩; refine Bk.mk rfl rfl ?_))
        all_goals (conv => whnf)
        all_goals exact ⟨(i + 1, out ++ [b], R1.set R.length [.v (.m 77 R.length 0), .hl]), ⟨by dsimp only; omega, he, by simp; omega⟩, by dsimp only; omega, [(3, .k 3), (906, .k 66), (77, .k 77), (1, .k 1), (2, .k 2)], ⟨by (try dsimp only); (repeat (refine LeT.cons rfl (by first | exact LeS.d (by first | exact LeD.u rfl | exact LeD.p rfl | exact LeD.ow rfl (by simp) | exact LeD.r rfl | fail) | fail) ?_)); exact LeT.nil, by (try dsimp only); repeat (first | exact LeO.nil | refine LeO.bx rfl rfl (by repeat (first | exact LeL.nil | refine LeL.cons (by first | exact LeD.u rfl | fail) ?_)) ?_ | refine LeO.ar rfl rfl (by first | rfl | simp) ?_ | refine LeO.fm rfl (by first | rfl | fail) ?_ | fail)⟩⟩
  · obtain rfl : i = zt.length := by omega
    rw [List.drop_length, namesW] at he
    cases he
end Go.Proofs.YtgloielnnakknaaDoor
namespace Go.Proofs.YtgloielnnakknaaDoor
open Go.RowKit
theorem nm_uns (l : List Un) : Nm (uns l) := .sl fun r hr x hx => by
  obtain ⟨u, _, rfl⟩ := List.mem_map.1 hr
  simp only [Un.row, List.mem_cons, List.not_mem_nil, or_false] at hx
  rcases hx with rfl | rfl
  · exact .str
  · refine .sl fun r hr x hx => ?_
    obtain ⟨t, _, rfl⟩ := List.mem_map.1 hr
    simp only [Stp.row, List.mem_cons, List.not_mem_nil, or_false] at hx
    rcases hx with rfl | rfl | rfl
    · exact .int
    · exact .str
    · exact .str
theorem no_fd (f : Int × Int) : NoC (.a (fd f)) := fun x hx => by
  simp only [fd, List.mem_cons, List.not_mem_nil, or_false] at hx
  rcases hx with rfl | rfl <;> exact .inl ⟨_, rfl, .int⟩
theorem no_own (k n : Nat) (f : Int × Int) : NoS (.t [.d (.ow k n), .a (fd f)]) := fun s hs => by
  simp only [List.mem_cons, List.not_mem_nil, or_false] at hs
  rcases hs with rfl | rfl
  · exact .inr ⟨_, _, rfl⟩
  · exact no_fd f
theorem no_nl (f : Int × Int) : NoS (.t [.d (.u .nl), .a (fd f)]) := fun s hs => by
  simp only [List.mem_cons, List.not_mem_nil, or_false] at hs
  rcases hs with rfl | rfl
  · exact .inl ⟨_, rfl, .nl⟩
  · exact no_fd f
theorem nm_arg (l : List Un) : ∀ s ∈ [(.d (.u (uns l)) : SV)], NmS s := fun s hs => by
  simp at hs; subst hs; exact ⟨_, rfl, nm_uns l⟩
/-- A fault of the loader. -/
def FltOf (l : List Un) (f : Int × Int) : Prop := ((validateM l).1 ≠ 0 ∧ f = validateM l) ∨ ((validateM l).1 = 0 ∧ (finS l).full = true ∧ f = (21, -1))
theorem load_own (l : List Un) (h1 : (validateM l).1 = 0) (h2 : (finS l).full = false) : CallsA Tryd.prog 14 [.d (.u (uns l))] [] (Iso (.t [.d (.ow 905 (finS l).log.length), .a (fd (0, 0))]) [(905, .ar 43 2 ((finS l).log.map Ev.v))]) :=
  CallsA.hideO [(1, 0), (2, 82)] (nm_arg l) (no_own _ _ _) (fun p hp => by
    simp at hp
    subst hp
    refine ⟨_, _, _, rfl, fun r hr x hx => ?_⟩
    obtain ⟨a, _, rfl⟩ := List.mem_map.1 hr
    simp only [Ev.v, List.mem_cons, List.not_mem_nil, or_false] at hx
    rcases hx with rfl | rfl
    · exact .int
    · exact .str) (load_ok l h1 h2)
theorem names_flt (l : List Un) (f : Int × Int) (hf : FltOf l f) : CallsA Tryd.prog 18 [.d (.u (uns l))] [] (Is (.t [.d (.u .nl), .a (fd f)])) :=
  CallsA.hideO [(1, 0), (2, 82), (77, 75)] (nm_arg l) (no_nl f) (fun p hp => by cases hp) (names_bad l f hf)
theorem names_lrg (l : List Un) (h1 : (validateM l).1 = 0) (h2 : (finS l).full = false) (hr : namesW (finS l).mods [] (finS l).table = none) : CallsA Tryd.prog 18 [.d (.u (uns l))] [] (Is (.t [.d (.u .nl), .a (fd (14, -1))])) :=
  CallsA.hideO [(1, 0), (2, 82), (77, 75)] (nm_arg l) (no_nl _) (fun p hp => by cases hp) (names_big l h1 h2 hr)
theorem names_own (l : List Un) (h1 : (validateM l).1 = 0) (h2 : (finS l).full = false) (res : List ByteArray) (hr : namesW (finS l).mods [] (finS l).table = some res) : CallsA Tryd.prog 18 [.d (.u (uns l))] [] (Iso (.t [.d (.ow 906 res.length), .a (fd (0, 0))]) [(906, .ar 9 1 (strs res))]) :=
  CallsA.hideO [(1, 0), (2, 82), (77, 75)] (nm_arg l) (no_own _ _ _) (fun p hp => by
    simp at hp
    subst hp
    refine ⟨_, _, _, rfl, fun r hr x hx => ?_⟩
    obtain ⟨a, _, rfl⟩ := List.mem_map.1 hr
    simp only [List.mem_cons, List.not_mem_nil, or_false] at hx
    subst hx
    exact .str) (names_ok l h1 h2 res hr)
/-- The two units of the check. -/
def circL : List Un := [⟨⟨#[109, 97, 105, 110]⟩, [⟨3, ⟨#[97]⟩, emp⟩]⟩, ⟨⟨#[97]⟩, [⟨3, ⟨#[109, 97, 105, 110]⟩, emp⟩]⟩]
theorem circle_T : CallsA Tryd.prog 25 [] [] (Is (.d (.u (uns circL)))) := by
  refine callsA_of_vc (T := tt) Tryd.func25 rfl rfl rfl rfl rfl ?_
  repeat' ((conv => whnf); first | refine Gs.go (i := 3) ((Ghost.frzA 4 rfl (by repeat ((conv => whnf); first | exact trivial | refine Len.mk (by first | rfl | fail) ?_))).trans (Ghost.frzA 6 rfl (by repeat ((conv => whnf); first | exact trivial | refine Len.mk (by first | rfl | fail) ?_)))) ?_ | refine Gs.id ?_ | refine Len.mk (by first | rfl | fail) ?_ | fail)
  all_goals (conv => whnf)
  · exact Ret.is (by rfl)
theorem circ_ok : (validateM circL).1 = 0 := by decide +kernel
theorem circ_full : (finS circL).full = false := by decide +kernel
theorem circ_log : (finS circL).log.map (fun e => (e.kind, e.name)) = [(1, mainB), (1, ⟨#[97]⟩), (5, mainB), (2, ⟨#[97]⟩), (2, mainB)] := by decide +kernel
def circN : List ByteArray := [⟨#[109, 97, 105, 110, 58, 32, 97, 61, 97]⟩, ⟨#[97, 58, 32, 109, 97, 105, 110, 61, 109, 97, 105, 110]⟩]
theorem circ_names : namesW (finS circL).mods [] (finS circL).table = some circN := by decide +kernel
end Go.Proofs.YtgloielnnakknaaDoor
namespace Go.Proofs.YtgloielnnakknaaDoor
open Go.RowKit
abbrev circR : List (List V) := [[.int .i64 1, .str mainB], [.int .i64 1, .str ⟨#[97]⟩], [.int .i64 5, .str mainB], [.int .i64 2, .str ⟨#[97]⟩], [.int .i64 2, .str mainB]]
theorem circ_rows : (finS circL).log.map Ev.v = circR := by
  have h : (finS circL).log.map Ev.v = ((finS circL).log.map fun e => (e.kind, e.name)).map fun p => [V.int .i64 p.1, V.str p.2] := by rw [List.map_map]; rfl
  rw [h, circ_log]; rfl
theorem circ_len : (finS circL).log.length = 5 := by
  have := congrArg List.length circ_log
  simpa using this
theorem circLoad_T : CallsA Tryd.prog 14 [.d (.u (uns circL))] [] (Iso (.t [.d (.ow 905 5), .a (fd (0, 0))]) [(905, .ar 43 2 circR)]) := by
  have h := load_own circL circ_ok circ_full
  rw [circ_rows, circ_len] at h
  exact h
theorem circNames_T : CallsA Tryd.prog 18 [.d (.u (uns circL))] [] (Iso (.t [.d (.ow 906 2), .a (fd (0, 0))]) [(906, .ar 9 1 (strs circN))]) := names_own circL circ_ok circ_full circN circ_names
def abB : ByteArray := ⟨#[97, 46, 98]⟩
def abL : List ByteArray := [⟨#[97]⟩, ⟨#[97, 46, 98]⟩]
theorem ab_chain : dottedM abB = true ∧ chainM abB = abL := by decide +kernel
theorem abChain_T : CallsA Tryd.prog 8 [.d (.u (.str ⟨#[97, 46, 98]⟩))] [] (Is (.t [.d (.u (strs' abL)), .a (fd (0, 0))])) := by
  have h := chainOk_T abB ab_chain.1
  rw [ab_chain.2] at h
  exact h
theorem imported_T : CallsA Tryd.prog 11 [] [] (Is (db true)) := by
  have h1 := strings_R circN circN
  have h2 := strings_R abL abL
  rw [decide_eq_true rfl] at h1 h2
  refine callsA_of_vc (T := tt) Tryd.func11 rfl rfl rfl rfl rfl ?_
  repeat' ((conv => whnf); first | refine Gs.id ?_ | with_reducible refine Brn.T rfl ?_ | with_reducible refine Brn.F rfl ?_ | refine Brn.T (by (try simp only [smT]); first | rfl | assumption | fail) ?_ | refine Brn.F (by (try simp only [smT]); first | rfl | assumption | fail) ?_ | (refine Brn.mk (fun hb => ?_) (fun hb => ?_) <;> (try simp only [smT] at hb) <;> (try (exact absurd trivial hb)) <;> (try (exfalso; omega))) | (refine Bnd.mk (fun hm => ?_); (try simp only [smT] at hm)) | refine Ixo.mk ⟨_, rfl, (by (try simp only [smT]); omega), ?_⟩ | refine Rw.lit rfl ?_ | refine Eqv.mk (by kernel_rfl) ?_ | (refine CL.mk (Or.inl ?_); (conv => whnf); first | refine Cl.is (circle_T) rfl (by first | (intro e; cases e; done) | fail) ?_ | refine Cl.is (abChain_T) rfl (by first | (intro e; cases e; done) | fail) ?_ | fail) | (refine CL.mk (Or.inl ?_); (conv => whnf); refine ClO.mk (Or.inl ?_); (repeat ((conv => whnf); refine Len.mk (by first | rfl | fail) ?_)); (conv => whnf); first | refine Cl.is (h1) rfl (by first | exact fun _ => rfl | fail) ?_ | refine Cl.is (h2) rfl (by first | exact fun _ => rfl | fail) ?_) | (refine CL.mk (Or.inr (Raw.callI [] [905] rfl rfl rfl rfl rfl rfl rfl (circLoad_T) ?_)); rintro _ _ ⟨rfl, rfl⟩; refine Bk.mk rfl rfl ?_) | (refine CL.mk (Or.inr (Raw.callI [] [906] rfl rfl rfl rfl rfl rfl rfl (circNames_T) ?_)); rintro _ _ ⟨rfl, rfl⟩; refine Bk.mk rfl rfl ?_))
  all_goals (conv => whnf)
  all_goals first | exact Ret.is rfl | (exfalso; have q : (mainB.toList == (⟨#[109, 97, 105, 110]⟩ : ByteArray).toList) = true := (by decide +kernel); simp_all)
end Go.Proofs.YtgloielnnakknaaDoor
namespace Go.Proofs.YtgloielnnakknaaDoor
open Go.RowKit
def hlL (l : List UInt8) : Nat → List (List UInt8)
  | 0 => []
  | i + 1 => if l[i]? = some 46 then hlL l i ++ [l.take i] else hlL l i
def chainL : List UInt8 → List (List UInt8)
  | [] => [[]]
  | b :: l => (if b = 46 then [[]] else []) ++ (chainL l).map (b :: ·)
theorem hlL_cons (b : UInt8) (l : List UInt8) : ∀ i, hlL (b :: l) (i + 1) = (if b = 46 then [[]] else []) ++ (hlL l i).map (b :: ·)
  | 0 => by
    simp only [hlL, List.getElem?_cons_zero, Option.some.injEq, List.map_nil, List.append_nil, List.take_zero, List.nil_append]
  | i + 1 => by
    rw [hlL, hlL_cons b l i, hlL]
    simp only [List.getElem?_cons_succ]
    split
    · simp
    · rfl
theorem hlL_chainL : ∀ l : List UInt8, hlL l l.length ++ [l] = chainL l
  | [] => rfl
  | b :: l => by
    rw [List.length_cons, hlL_cons, chainL, ← hlL_chainL l]
    simp
theorem heads_tl (s : ByteArray) : ∀ i, tl (headsB s i) = hlL s.data.toList i
  | 0 => rfl
  | i + 1 => by
    have ih := heads_tl s i
    have e : s.data[i]? = s.data.toList[i]? := by simp
    rw [headsB, hlL, e]
    split
    · have h2 := extract_tl s 0 i
      simp only [tl, List.map_append, List.map_cons, List.map_nil] at ih ⊢
      rw [ih, h2]; simp
    · exact ih
theorem chainM_tl (s : ByteArray) : tl (chainM s) = chainL s.data.toList := by
  have h := heads_tl s s.size
  have e : s.size = s.data.toList.length := by simp
  rw [← hlL_chainL, ← e, ← h]
  simp [tl, chainM]
def chainP : List (List UInt8) → List (List UInt8)
  | [] => []
  | x :: r => x :: (chainP r).map (x ++ 46 :: ·)
theorem chainP_dotL : ∀ l : List UInt8, chainP (dotL l) = chainL l
  | [] => rfl
  | b :: l => by
    have ih := chainP_dotL l
    rw [chainL, ← ih]
    by_cases hb : b = 46
    · subst hb
      rw [dotL, if_pos rfl, chainP, if_pos rfl]
      rfl
    · rw [dotL_cons hb, if_neg hb]
      cases h : dotL l with
      | nil => exact absurd h (dotL_ne l)
      | cons x r =>
        simp [preL, chainP]
def joinL : List (List UInt8) → List UInt8
  | [] => []
  | [x] => x
  | x :: y :: r => x ++ 46 :: joinL (y :: r)
theorem chainP_len : ∀ D, (chainP D).length = D.length
  | [] => rfl
  | x :: r => by simp [chainP, chainP_len r]
theorem chainP_get : ∀ (D : List (List UInt8)) (q : Nat), q < D.length → (chainP D)[q]? = some (joinL (D.take (q + 1)))
  | [], q, h => by simp at h
  | x :: r, 0, _ => by simp [chainP, joinL]
  | x :: r, q + 1, h => by
    have hq : q < r.length := by simpa using h
    have ih := chainP_get r q hq
    rw [chainP, List.getElem?_cons_succ, List.getElem?_map, ih]
    cases r with
    | nil => simp at hq
    | cons y t => simp [joinL]
theorem joinL_snoc (x : List UInt8) : ∀ (a : List (List UInt8)), a ≠ [] → joinL (a ++ [x]) = joinL a ++ 46 :: x
  | [], h => absurd rfl h
  | [y], _ => by simp [joinL]
  | y :: z :: r, _ => by
    have ih := joinL_snoc x (z :: r) (by simp)
    simp only [List.cons_append, joinL] at ih ⊢
    rw [ih]; simp
theorem joinB_tl (l : List ByteArray) : ∀ n, n ≤ l.length → (joinB l dot n).data.toList = joinL (tl (l.take n))
  | 0, _ => by simp [joinB, joinL]
  | n + 1, h => by
    have ih := joinB_tl l n (by omega)
    have hn : n < l.length := by omega
    have e : l.take (n + 1) = l.take n ++ [l[n]] := List.take_succ_eq_append_getElem hn
    have ed : dot.data.toList = [46] := rfl
    rw [joinB, e]
    simp only [List.getElem?_eq_getElem hn, Option.getD_some, tl, List.map_append, List.map_cons, List.map_nil, ByteArray.data_append, Array.toList_append] at ih ⊢
    by_cases h0 : 0 < n
    · rw [if_pos h0, joinL_snoc _ _ (by intro e; have h9 := congrArg List.length e; rw [List.length_map, List.length_take, List.length_nil] at h9; omega)]
      simp only [ByteArray.data_append, Array.toList_append, ih, ed]
      simp
    · have : n = 0 := by omega
      subst this
      rw [if_neg h0]
      simp [joinB, joinL]
theorem chain_parts_len (s : ByteArray) : (chainM s).length = (parts s).length := by
  have h1 := congrArg List.length (chainM_tl s)
  have h2 := congrArg List.length (parts_dotL s)
  rw [← chainP_dotL, chainP_len, ← h2] at h1
  simpa [tl] using h1
/-- The names of the reference's chain. -/
theorem chain_join (s : ByteArray) (q : Nat) (hq : q < (parts s).length) : (chainM s)[q]? = some (joinB ((parts s).take (q + 1)) dot (q + 1)) := by
  have hl := chain_parts_len s
  have hq' : q < (chainM s).length := by omega
  rw [List.getElem?_eq_getElem hq']
  congr 1
  have h1 : (tl (chainM s))[q]? = some ((chainM s)[q]).data.toList := by simp [tl, hq']
  rw [chainM_tl, ← chainP_dotL, chainP_get _ q (by rw [← parts_dotL]; simpa [tl] using hq), ← parts_dotL] at h1
  have h2 := joinB_tl ((parts s).take (q + 1)) (q + 1) (by simp; omega)
  injection h1 with h1
  have h3 : tl (((parts s).take (q + 1)).take (q + 1)) = (tl (parts s)).take (q + 1) := by simp [tl, List.map_take, List.take_take]
  rw [h3, h1] at h2
  have : [(chainM s)[q]] = [joinB ((parts s).take (q + 1)) dot (q + 1)] := tl_inj (by simp [tl, h2])
  simpa using this
end Go.Proofs.YtgloielnnakknaaDoor
namespace Go.Proofs.YtgloielnnakknaaDoor
open Go.RowKit
theorem dotL_mid (b : List UInt8) : ∀ a : List UInt8, dotL (a ++ 46 :: b) = dotL a ++ dotL b
  | [] => by simp [dotL]
  | x :: a => by
    by_cases hx : x = 46
    · subst hx; rw [List.cons_append, dotL, if_pos rfl, dotL_mid b a, dotL, if_pos rfl]; rfl
    · rw [List.cons_append, dotL_cons hx, dotL_cons hx, dotL_mid b a]
      cases h : dotL a with
      | nil => exact absurd h (dotL_ne a)
      | cons y r => simp [preL]
theorem idx_none : ∀ l : List UInt8, l.count 46 = 0 → Go.Lib.indexByte l 46 = -1
  | [], _ => rfl
  | b :: l, h => by
    have hb : b ≠ 46 := fun e => by subst e; simp at h
    rw [List.count_cons] at h
    have h2 := idx_none l (by omega)
    rw [Go.Lib.indexByte, h2]
    simp [hb]
theorem parts_first (s : ByteArray) : (parts s)[0]? = some (cutM s) := by
  have h := parts_dotL s
  have hl : (tl (parts s))[0]? = some (cutM s).data.toList := by
    rw [h]
    by_cases hc : 0 < s.data.toList.count 46
    · obtain ⟨h1, h2, _⟩ := idx_cnt s.data.toList hc
      have h1' : 0 ≤ cutI s := h1
      rw [dotL_idx _ hc, cutM, if_pos h1']
      simp [cutI]
    · have hc : s.data.toList.count 46 = 0 := by omega
      rw [dotL_none _ hc, cutM, if_neg (by rw [cutI, idx_none _ hc]; decide)]
      rfl
  cases hp : (parts s)[0]? with
  | none => simp [tl, hp] at hl
  | some x =>
    simp only [tl, List.getElem?_map, hp, Option.map_some, Option.some.injEq] at hl
    congr 1
    exact ByteArray.ext (Array.toList_inj.1 hl)
theorem lastB_spec (s : ByteArray) : ∀ i, i ≤ s.size → (lastB s 46 i = -1 ∧ (s.data.toList.take i).count 46 = 0) ∨ ∃ k : Nat, lastB s 46 i = k ∧ k < i ∧ s.data.toList[k]? = some 46 ∧ ((s.data.toList.take i).drop (k + 1)).count 46 = 0
  | 0, _ => .inl ⟨rfl, by simp⟩
  | i + 1, hi => by
    have hlt : i < s.data.toList.length := by have h9 : s.data.toList.length = s.size := by simp
                                              omega
    have e : s.data.toList.take (i + 1) = s.data.toList.take i ++ [s.data.toList[i]] := List.take_succ_eq_append_getElem hlt
    have hg : s.data[i]? = some s.data.toList[i] := by rw [← Array.getElem?_toList]; exact List.getElem?_eq_getElem hlt
    rw [lastB]
    by_cases hb : s.data.toList[i] = 46
    · rw [if_pos (by rw [hg, hb])]
      refine .inr ⟨i, rfl, by omega, by rw [List.getElem?_eq_getElem hlt, hb], ?_⟩
      rw [List.drop_eq_nil_of_le (by simp; omega)]; rfl
    · rw [if_neg (by rw [hg]; intro h; injection h with h; exact hb h)]
      have hc1 : List.count 46 [s.data.toList[i]] = 0 := List.count_eq_zero.2 fun hm => by simp only [List.mem_singleton] at hm; exact hb hm.symm
      rcases lastB_spec s i (by omega) with ⟨h1, h2⟩ | ⟨k, h1, h2, h3, h4⟩
      · exact .inl ⟨h1, by rw [e, List.count_append, h2, hc1]⟩
      · refine .inr ⟨k, h1, by omega, h3, ?_⟩
        rw [e, List.drop_append_of_le_length (by simp; omega), List.count_append, h4, hc1]
theorem parts_last (s : ByteArray) : ∃ l, parts s = l ++ [lastP s] := by
  have h := parts_dotL s
  have key : ∃ a, dotL s.data.toList = a ++ [(lastP s).data.toList] := by
    have hall : s.data.toList.take s.size = s.data.toList := List.take_of_length_le (by simp)
    rcases lastB_spec s s.size (Nat.le_refl _) with ⟨h1, h2⟩ | ⟨k, h1, h2, h3, h4⟩
    · rw [hall] at h2
      refine ⟨[], ?_⟩
      rw [dotL_none _ h2, lastP, if_neg (by rw [dotAt, h1]; decide)]; rfl
    · rw [hall] at h4
      have hk := (List.getElem?_eq_some_iff.1 h3)
      obtain ⟨hk1, hk2⟩ := hk
      have e : s.data.toList = s.data.toList.take k ++ 46 :: s.data.toList.drop (k + 1) := by
        rw [← hk2, ← List.drop_eq_getElem_cons hk1, List.take_append_drop]
      have hlp : (lastP s).data.toList = s.data.toList.drop (k + 1) := by
        have hd : dotAt s = (k : Int) := h1
        unfold lastP
        rw [if_pos (by omega), hd, Int.toNat_natCast, extract_tl, List.take_of_length_le (by simp)]
      refine ⟨dotL (s.data.toList.take k), ?_⟩
      rw [hlp, ← dotL_none _ h4, ← dotL_mid, ← e]
  obtain ⟨a, ha⟩ := key
  have hne : parts s ≠ [] := fun e => by rw [e] at h; rw [ha] at h; simp [tl] at h
  refine ⟨(parts s).dropLast, ?_⟩
  have e1 := (List.dropLast_concat_getLast hne).symm
  rw [e1] at h
  rw [ha] at h
  simp only [tl, List.map_append, List.map_cons, List.map_nil] at h
  have h2 := (List.append_inj' h rfl).2
  simp only [List.cons.injEq, and_true] at h2
  have h3 : (parts s).getLast hne = lastP s := ByteArray.ext (Array.toList_inj.1 h2)
  rw [h3] at e1
  exact e1
theorem Ix_last {s : ByteArray} {K : List V → Prop} (k : K [V.str (lastP s)]) : Ix (strs (parts s)) (((strs (parts s)).length : Int) - 1) K := by
  obtain ⟨l, e⟩ := parts_last s
  rw [e]
  have hz : (((strs (l ++ [lastP s])).length : Nat) : Int) - 1 = ((l.length : Nat) : Int) := by simp [strs]
  rw [hz]
  exact Ix.map rfl (by simp) (by simpa using k)
theorem Ix_first {s : ByteArray} {K : List V → Prop} (k : K [V.str (cutM s)]) : Ix (strs (parts s)) 0 K := by
  have h := parts_first s
  have := Ix_get (f := fun s : ByteArray => [V.str s]) (i := 0) h k
  simpa using this
end Go.Proofs.YtgloielnnakknaaDoor
namespace Go.Proofs.YtgloielnnakknaaDoor
open Go.RowKit
theorem at_R (c i : Int) : CallsA Tryd.prog 10 [di c, di i] [] (Is (.a (fd (c, i)))) := by
  refine callsA_of_vc (T := tt) Tryd.func10 rfl rfl rfl rfl rfl ?_
  repeat' ((conv => whnf); first | refine Gs.id ?_ | fail)
  all_goals (conv => whnf)
  all_goals exact Ret.is rfl
theorem parts_len (s : ByteArray) : (parts s).length ≤ s.size + 1 := by
  rw [← chain_parts_len]; exact chain_len s
theorem parts_size (s : ByteArray) : ∀ y ∈ parts s, y.size ≤ s.size := by
  have h : ∀ l : List UInt8, ∀ y ∈ dotL l, y.length ≤ l.length := by
    intro l
    induction l with
    | nil => intro y hy; simp [dotL] at hy; subst hy; simp
    | cons b l ih =>
      intro y hy
      by_cases hb : b = 46
      · subst hb
        rw [dotL, if_pos rfl] at hy
        rcases List.mem_cons.1 hy with rfl | hy
        · simp
        · have := ih y hy; simp; omega
      · rw [dotL_cons hb] at hy
        cases hd : dotL l with
        | nil => exact absurd hd (dotL_ne l)
        | cons x r =>
          rw [hd] at hy ih
          simp only [preL, List.singleton_append, List.mem_cons] at hy
          rcases hy with rfl | hy
          · have := ih x (by simp); simp; omega
          · have := ih y (by simp [hy]); simp; omega
  intro y hy
  have h1 : y.data.toList ∈ tl (parts s) := List.mem_map.2 ⟨y, hy, rfl⟩
  rw [parts_dotL] at h1
  have := h _ _ h1
  simpa using this
theorem total_le (l : List ByteArray) (c : Nat) (h : ∀ y ∈ l, y.size ≤ c) : ∀ n, total l dot n ≤ n * (c + 1)
  | 0 => by simp [total]
  | n + 1 => by
    have ih := total_le l c h n
    have hd : dot.size = 1 := rfl
    have : (l[n]?.getD (ByteArray.mk #[])).size ≤ c := by
      cases e : l[n]? with
      | none => simp; exact Nat.zero_le _
      | some y => exact h y (List.mem_of_getElem? e)
    rw [total, Nat.succ_mul, hd]
    omega
theorem chain_R (s : ByteArray) (hs : s.size ≤ 1000) : CallsA Tryd.prog 13 [dsr s] [] (Is (.d (.u (strs' (chainM s))))) := by
  have hsp := split46_R s (by omega)
  have hcl := chain_parts_len s
  have hpl := parts_len s
  have hps := parts_size s
  have hcj := chain_join s
  generalize chainM s = C at *
  generalize parts s = D at *
  refine callsA_of_vc (T := tt) Tryd.func13 rfl rfl rfl rfl rfl ?_
  repeat' ((conv => whnf); first | refine Gs.go (i := 3) (Ghost.nlOw 4 906 9 1 rfl rfl) ?_ | refine Gs.id ?_ | (refine CL.mk (Or.inl ?_); (conv => whnf); refine Cl.is (hsp) rfl (by first | (intro e; cases e; done) | fail) ?_) | fail)
  all_goals (conv => whnf)
  refine ⟨⟨Nat, fun i => i ≤ D.length, fun i => D.length - i, fun i => ⟨[(3, .d (.u (strs' D))), (4, .d (.ow 906 (C.take i).length)), (5, di i)], [(906, .ar 9 1 (strs (C.take i)))]⟩, 0, Nat.zero_le _, ⟨[(906, .k 906)], ⟨by (try dsimp only); (repeat (refine LeT.cons rfl (by first | exact LeS.d (by first | exact LeD.u rfl | exact LeD.ow rfl rfl | fail) | fail) ?_)); exact LeT.nil, by (try dsimp only); repeat (first | exact LeO.nil | refine LeO.ar rfl rfl (by first | rfl | fail) ?_ | fail)⟩⟩, fun i hi => ?_⟩⟩
  dsimp only at hi ⊢
  by_cases h9 : i < D.length
  · have hj : ∀ r, r = strs (D.take (i + 1)) → CallsA Tryd.prog 26 [.d (.u (.sl 1 r)), dsr dot] [] (Is (dsr (joinB (D.take (i + 1)) dot (i + 1)))) := fun r e => by
      have h1 : (D.take (i + 1)).length = i + 1 := by simp; omega
      have h2 := total_le (D.take (i + 1)) 1000 (fun y hy => by have := hps y (List.mem_of_mem_take hy); omega) (i + 1)
      have h3 := join_R (D.take (i + 1)) dot (by rw [h1]; omega)
      rw [h1] at h3
      rw [e]; exact h3
    have hci := hcj i h9
    have htk : C.take (i + 1) = C.take i ++ [joinB (D.take (i + 1)) dot (i + 1)] := by rw [List.take_add_one, hci]; rfl
    have hlen : (C.take i).length ≤ 1001 := by simp; omega
    generalize joinB (D.take (i + 1)) dot (i + 1) = y at *
    generalize hC1 : C.take i = C1 at *
    repeat' ((conv => whnf); first | refine Gs.id ?_ | refine Brn.T (by (try simp only [smT]); first | rfl | omega | fail) ?_ | (refine Bnd.mk (fun hm => ?_); (try simp only [smT] at hm)) | refine Rng.mk (by (try simp only [smT]); omega) ?_ | refine Apd.mk (by first | rfl | simp) (by first | rfl | fail) (by (try simp only [smT]); first | omega | fail) (by unfold maxLen; first | (simp; omega) | fail) ?_ | refine Slc.mk ⟨_, _, rfl, rfl, (by (try simp only [smT]); omega), (by (try simp only [smT]); omega), ?_⟩ | (refine CL.mk (Or.inl ?_); (conv => whnf); refine Cl.is (hj _ (by simp [List.map_take])) rfl (by first | exact fun _ => rfl | fail) ?_) | fail)
    all_goals (conv => whnf)
    all_goals
      refine ⟨i + 1, by omega, by omega, [(906, .k 21)], ?_⟩
      rw [htk]
      exact ⟨by (try dsimp only); (repeat (refine LeT.cons rfl (by first | exact LeS.d (by first | exact LeD.u rfl | exact LeD.ow rfl (by simp) | fail) | fail) ?_)); exact LeT.nil, by (try dsimp only); repeat (first | exact LeO.nil | refine LeO.ar rfl rfl (by first | simp) ?_ | fail)⟩
  · obtain rfl : i = D.length := by omega
    rw [← hcl, List.take_length]
    repeat' ((conv => whnf); first | refine Gs.id ?_ | refine Brn.F (by (try simp only [smT]); first | rfl | omega | fail) ?_ | (refine Bnd.mk (fun hm => ?_); (try simp only [smT] at hm)) | refine Len.mk (by first | rfl | (simp; done) | fail) ?_ | fail)
    all_goals (conv => whnf)
    all_goals exact Ret.is (by rfl)
end Go.Proofs.YtgloielnnakknaaDoor
namespace Go.Proofs.YtgloielnnakknaaDoor
open Go.RowKit
def prv (l : List ByteArray) : Nat → Option ByteArray
  | 0 => none
  | q + 1 => l[q]?
def LoaCR (us : List Un) (R : Wd → Nat → Wd) (n : Nat) : Prop := ∀ (ms : List Rm) (log : List Ev) (name : ByteArray) (zm : List Rm) (zl : List Ev) (zk : Bool), InvR us ⟨ms, log, true⟩ → M1 ⟨ms, log, true⟩ → RunBR ⟨ms, log, true⟩ n → 5001 - log.length ≤ n → name.size ≤ 1000 → loadR R us ⟨ms, log, true⟩ none (chainM name) = ⟨zm, zl, zk⟩ → CallsA Tryd.prog 54 [wdA us ⟨ms, log, true⟩, dsr name] (wdO ⟨ms, log, true⟩) (Iso (wdA us ⟨zm, zl, zk⟩) (wdO ⟨zm, zl, zk⟩))
theorem loadR_next {R : Wd → Nat → Wd} {us : List Un} {w : Wd} {l : List ByteArray} {q : Nat} {n : ByteArray} (h : l[q]? = some n) (p : Option ByteArray) : loadR R us w p (l.drop q) = if w.ok = true then (if 0 ≤ modR w n then loadR R us (sayR w (if 0 < actR w (modR w n).toNat then 5 else 4) n) (prv l (q + 1)) (l.drop (q + 1))
      else if hasU us n = true then loadR R us (makeR R w p n) (prv l (q + 1)) (l.drop (q + 1)) else failW (sayR w 6 n)) else w := by
  rw [drop_get h, loadR, prv, h]
theorem Ix_pred {α : Type} {f : α → List V} {l : List α} {q : Nat} {a : α} {K : List V → Prop} (h0 : 0 < q) (h : l[q - 1]? = some a) (k : K (f a)) : Ix (l.map f) ((q : Int) - 1) K := by
  have e : (q : Int) - 1 = ((q - 1 : Nat) : Int) := by omega
  rw [e]; exact Ix_get h k
abbrev wdB (us : List Un) (k : Nat) (w : Wd) : Nat × Ob := (k, .bx 39 [.u (uns us), .ow 900 w.mods.length, .ow 901 w.log.length, .u (.bool w.ok)])
abbrev loS (us : List Un) (L : List ByteArray) (w : Wd) (q : Nat) : St := ⟨[(2, .d (.p 2 0)), (4, .d (.p 4 0)), (5, .d (.u (strs' L))), (6, di q)], (4, wdNl) :: wdB us 2 w :: wdO w⟩
theorem InvR.nlen {us : List Un} (hU : Uok us) {w : Wd} (h : InvR us w) (m : Rm) (hm : m ∈ w.mods) : m.nms.length ≤ 1000000 := by
  have h1 := nd_len (h.nd m hm) (h.sub m hm)
  have := namesA_len hU
  omega
set_option maxHeartbeats 4000000 in
theorem load_R {us : List Un} (hU : Uok us) {R : Wd → Nat → Wd} (hR : RPR us R) (n : Nat) (hn : n ≤ 6000) (hC : RunCR us R n) : LoaCR us R n := by
  intro ms log name zm zl zk hI hM hB hL hsz hr
  have hul : us.length ≤ 1000000 := by have := hU.len; omega
  have hlog := hI.okl rfl
  have hch := chain_R name hsz
  have hsz2 : ∀ x ∈ chainM name, x.size ≤ 1000 := fun x hx => Nat.le_trans (chain_size name x hx) hsz
  have hLn : (chainM name).length ≤ 1001 := Nat.le_trans (chain_len name) (by omega)
  generalize chainM name = L at hr hch hsz2 hLn
  refine callsA_of_vcO (T := tt) Tryd.func54 rfl rfl rfl rfl rfl ?_
  repeat' ((conv => whnf); first | refine Gs.id ?_ | (refine CL.mk (Or.inl ?_); (conv => whnf); refine Cl.is (hch) rfl (by first | (intro e; cases e; done) | fail) ?_) | fail)
  all_goals (conv => whnf)
  refine ⟨⟨Wd × Nat, fun x => x.2 ≤ L.length ∧ loadR R us ⟨ms, log, true⟩ none L = loadR R us x.1 (prv L x.2) (L.drop x.2) ∧ x.1.log.length ≤ 20000 ∧ GoodR us ⟨ms, log, true⟩ x.1 ∧ (∀ p, prv L x.2 = some p → x.1.ok = true → 0 ≤ modR x.1 p), fun x => L.length - x.2, fun x => loS us L x.1 x.2, (⟨ms, log, true⟩, 0), ⟨Nat.zero_le _, rfl, by dsimp only at hlog ⊢; omega, .refl hI hM, fun p h => by cases h⟩, ⟨[(2, .k 2), (4, .k 4), (900, .k 900), (901, .k 901)], ⟨by (try dsimp only); (repeat (refine LeT.cons rfl (by first | exact LeS.d (by first | exact LeD.u rfl | exact LeD.p rfl | fail) | fail) ?_)); exact LeT.nil, by (try dsimp only); repeat (first | exact LeO.nil | refine LeO.bx rfl rfl (by repeat (first | exact LeL.nil | refine LeL.cons (by first | exact LeD.u rfl | exact LeD.ow rfl rfl | fail) ?_)) ?_ | refine LeO.ar rfl rfl (by first | rfl | fail) ?_ | refine LeO.fa rfl rfl (by first | rfl | fail) ?_ | fail)⟩⟩, fun x hx => ?_⟩⟩
  obtain ⟨⟨m3, l3, o3⟩, q⟩ := x
  obtain ⟨hq, he, hl3, hG, hp⟩ := hx
  dsimp only at hq he hl3 hG hp hlog ⊢
  have hL3 : log.length ≤ l3.length := hG.keep.log
  have hml : m3.length ≤ l3.length + 1 := hG.m1
  have hB3 : RunBR ⟨m3, l3, o3⟩ n := hG.keep.runB hB (by omega)
  clear hch
  by_cases h9 : q < L.length ∧ o3 = true
  · obtain ⟨h9, rfl⟩ := h9
    obtain ⟨s, hs⟩ : ∃ s, L[q]? = some s := ⟨_, List.getElem?_eq_getElem h9⟩
    have hss := hsz2 s (List.mem_of_getElem? hs)
    rw [loadR_next hs, if_pos rfl] at he
    have hmod := module_V us ⟨m3, l3, true⟩ s (by dsimp only; omega)
    dsimp only at hmod
    by_cases hj : 0 ≤ modR ⟨m3, l3, true⟩ s
    · rw [if_pos hj] at he
      obtain ⟨⟨c1, c2, c3, c4, c5⟩, j1, _, _, j4⟩ := modR_get hj
      generalize (modR ⟨m3, l3, true⟩ s).toNat = j at j1 j4 he
      have j5 : mix s m3 0 = (j : Int) := j4
      rw [j5] at hmod
      dsimp only at j1
      have hjl := lt_get j1
      have hact : actR ⟨m3, l3, true⟩ j = c2 := by simp [actR, j1]
      rw [hact] at he
      have hGn : GoodR us ⟨ms, log, true⟩ (sayR ⟨m3, l3, true⟩ (if 0 < c2 then 5 else 4) s) := hG.trans (fun _ => .say hG.inv hG.m1 _ _) fun h => by cases h
      have hpn : ∀ p, prv L (q + 1) = some p → (sayR ⟨m3, l3, true⟩ (if 0 < c2 then 5 else 4) s).ok = true → 0 ≤ modR (sayR ⟨m3, l3, true⟩ (if 0 < c2 then 5 else 4) s) p := fun p h ho => by
        rw [prv, hs] at h
        injection h with h
        subst h
        exact (KeepR.say _ _ _).modR hj ho
      have hln : (sayR ⟨m3, l3, true⟩ (if 0 < c2 then 5 else 4) s).log.length ≤ 20000 := by
        have := hG.inv.okl rfl
        dsimp only at this
        simp only [sayR, List.length_append, List.length_cons, List.length_nil]; omega
      have hsay := fun k => say_R us ⟨m3, l3, true⟩ k s (by dsimp only; omega)
      by_cases hc : 0 < c2
      · rw [if_pos hc] at he hGn hpn hln
        have hsay := hsay 5
        repeat' ((conv => whnf); first | refine Ix_get hs ?_ | refine Rw_rm j1 ?_ | refine Gs.id ?_ | with_reducible refine Brn.T rfl ?_ | refine Brn.T (by (try simp only [smT]); first | rfl | assumption | omega | fail) ?_ | (refine Bnd.mk (fun hm => ?_); (try simp only [smT] at hm)) | refine Rng.mk (by (try simp only [smT]); omega) ?_ | refine Ixo.mk ⟨_, rfl, (by (try simp only [smT]); omega), ?_⟩ | refine Drw.of (T := tt) (i := 5) [5, 6] [] [(0, true), (1, true), (2, true), (3, true), (4, true), (5, false), (6, false)] (by kernel_rfl) ?_ | refine Drw.of (T := tt) (i := 8) [5, 6] [] [(0, true), (1, true), (2, true), (3, true), (4, true), (5, false), (6, false)] (by kernel_rfl) ?_ | (refine CL.mk (Or.inr (Raw.callR (by repeat (first | exact ArgR.nil | refine ArgR.d rfl (by first | exact BorR.u | fail) ?_ | refine ArgR.a rfl (by repeat (first | exact BorLR.nil | refine BorLR.cons (by first | exact BorR.u | exact BorR.ar rfl (by first | rfl | (simp; done)) | exact BorR.fa rfl (by first | rfl | (simp; done)) (by exact FrR.map (fun _ => by repeat (first | exact FrL.nil | refine FrL.v ?_ | refine FrL.os ?_))) | fail) ?_)) ?_)) rfl (hmod) ⟨_, rfl, rfl⟩ rfl ?_)); refine Bk.mk rfl rfl ?_) | (refine CL.mk (Or.inr (Raw.callI [900,901] [900,901] rfl rfl rfl rfl rfl rfl rfl (hsay) ?_)); rintro _ _ ⟨rfl, rfl⟩; refine Bk.mk rfl rfl ?_)) --D
        all_goals (conv => whnf)
        all_goals exact ⟨(sayR ⟨m3, l3, true⟩ 5 s, q + 1), ⟨by dsimp only; omega, he, hln, hGn, hpn⟩, by dsimp only; omega, [(2, .k 2), (4, .k 4), (900, .k 900), (901, .k 901)], ⟨by (try dsimp only); (repeat (refine LeT.cons rfl (by first | exact LeS.d (by first | exact LeD.u rfl | exact LeD.p rfl | fail) | fail) ?_)); exact LeT.nil, by (try dsimp only); repeat (first | exact LeO.nil | refine LeO.bx rfl rfl (by repeat (first | exact LeL.nil | refine LeL.cons (by first | exact LeD.u rfl | exact LeD.ow rfl rfl | fail) ?_)) ?_ | refine LeO.ar rfl rfl (by first | rfl | fail) ?_ | refine LeO.fa rfl rfl (by first | rfl | fail) ?_ | fail)⟩⟩
      · rw [if_neg hc] at he hGn hpn hln
        have hsay := hsay 4
        repeat' ((conv => whnf); first | refine Ix_get hs ?_ | refine Rw_rm j1 ?_ | refine Gs.id ?_ | with_reducible refine Brn.T rfl ?_ | refine Brn.T (by (try simp only [smT]); first | rfl | omega | fail) ?_ | refine Brn.F (by (try simp only [smT]); first | rfl | omega | fail) ?_ | (refine Bnd.mk (fun hm => ?_); (try simp only [smT] at hm)) | refine Rng.mk (by (try simp only [smT]); omega) ?_ | refine Ixo.mk ⟨_, rfl, (by (try simp only [smT]); omega), ?_⟩ | refine Drw.of (T := tt) (i := 5) [5, 6] [] [(0, true), (1, true), (2, true), (3, true), (4, true), (5, false), (6, false)] (by kernel_rfl) ?_ | refine Drw.of (T := tt) (i := 9) [5, 6] [] [(0, true), (1, true), (2, true), (3, true), (4, true), (5, false), (6, false)] (by kernel_rfl) ?_ | (refine CL.mk (Or.inr (Raw.callR (by repeat (first | exact ArgR.nil | refine ArgR.d rfl (by first | exact BorR.u | fail) ?_ | refine ArgR.a rfl (by repeat (first | exact BorLR.nil | refine BorLR.cons (by first | exact BorR.u | exact BorR.ar rfl (by first | rfl | (simp; done)) | exact BorR.fa rfl (by first | rfl | (simp; done)) (by exact FrR.map (fun _ => by repeat (first | exact FrL.nil | refine FrL.v ?_ | refine FrL.os ?_))) | fail) ?_)) ?_)) rfl (hmod) ⟨_, rfl, rfl⟩ rfl ?_)); refine Bk.mk rfl rfl ?_) | (refine CL.mk (Or.inr (Raw.callI [900,901] [900,901] rfl rfl rfl rfl rfl rfl rfl (hsay) ?_)); rintro _ _ ⟨rfl, rfl⟩; refine Bk.mk rfl rfl ?_)) --D
        all_goals (conv => whnf)
        all_goals exact ⟨(sayR ⟨m3, l3, true⟩ 4 s, q + 1), ⟨by dsimp only; omega, he, hln, hGn, hpn⟩, by dsimp only; omega, [(2, .k 2), (4, .k 4), (900, .k 900), (901, .k 901)], ⟨by (try dsimp only); (repeat (refine LeT.cons rfl (by first | exact LeS.d (by first | exact LeD.u rfl | exact LeD.p rfl | fail) | fail) ?_)); exact LeT.nil, by (try dsimp only); repeat (first | exact LeO.nil | refine LeO.bx rfl rfl (by repeat (first | exact LeL.nil | refine LeL.cons (by first | exact LeD.u rfl | exact LeD.ow rfl rfl | fail) ?_)) ?_ | refine LeO.ar rfl rfl (by first | rfl | fail) ?_ | refine LeO.fa rfl rfl (by first | rfl | fail) ?_ | fail)⟩⟩
    · rw [if_neg hj] at he
      have j5 : mix s m3 0 = -1 := by
        rcases mix_cases s m3 0 with h | ⟨j, _, _, _, _, h, _⟩
        · exact h.1
        · exact absurd (show 0 ≤ modR ⟨m3, l3, true⟩ s by rw [modR]; dsimp only; rw [h]; omega) hj
      rw [j5] at hmod
      have hua := unitAt_V us s hul
      by_cases hu : hasU us s = true
      · rw [if_pos hu] at he
        obtain ⟨ku, _, _, hu2, _⟩ := (uix_cases s us 0).resolve_left fun h => by rw [hu] at h; exact absurd h.2 (by simp)
        rw [hu2, Nat.zero_add] at hua
        have hk := link_R hG.inv hu (prv L q)
        obtain ⟨hGm, hpm⟩ := makeR_P hR hG.inv rfl hG.m1 hu (prv L q)
        have fin : ∀ X : Wd, makeR R ⟨m3, l3, true⟩ (prv L q) s = X → (q + 1 ≤ L.length ∧ loadR R us ⟨ms, log, true⟩ none L = loadR R us X (prv L (q + 1)) (L.drop (q + 1)) ∧ X.log.length ≤ 20000 ∧ GoodR us ⟨ms, log, true⟩ X ∧ ∀ p, prv L (q + 1) = some p → X.ok = true → 0 ≤ modR X p) := fun X e => by
          rw [e] at he hGm hpm
          refine ⟨by omega, he, by have := hGm.lb rfl; dsimp only at this; omega, hG.trans (fun _ => hGm) fun h => (by cases h), fun p h ho => ?_⟩
          rw [prv, hs] at h
          injection h with h
          subst h
          exact hpm ho
        have hsp := split46_R s (by omega)
        have hkb : RunBR (linkW ⟨m3, l3, true⟩ (prv L q) s) n := hk.keep.runB hB3 (by omega)
        have hmk : mkE [(3, (9, 1)), (4, (3, 1))] 0 [V.str s, .int .i64 0, .bool false, .nl, .nl] = Rm.row ⟨s, 0, false, [], []⟩ := rfl
        refine' cutR (fun z : Bool => z = true) (fun z => ⟨[(2, .d (.p 2 0)), (4, .d (.p 4 0)), (5, .d (.u (strs' L))), (6, di q), (8, di m3.length)], [(4, wdNl), (2, .bx 39 [.u (uns us), .ow 900 (m3 ++ [(⟨s, 0, false, [], []⟩ : Rm)]).length, .ow 901 l3.length, .u (.bool z)]), (900, .fa 69 5 ((m3 ++ [(⟨s, 0, false, [], []⟩ : Rm)]).map Rm.row)), (901, .ar 43 2 (l3.map Ev.v))]⟩) _ (fun hR' => ?_) ?_
        rotate_left
        · repeat' ((conv => whnf); first | refine Ix_get hs ?_ | exact Gs.cut (i := 16) (by assumption) _ [(2, .k 2), (4, .k 4), (900, .k 900), (901, .k 901)] rfl ⟨by (try dsimp only); (repeat (refine LeT.cons rfl (by first | exact LeS.d (by first | exact LeD.u rfl | exact LeD.p rfl | fail) | fail) ?_)); (first | exact LeT.nil | fail), by (try dsimp only); (repeat (first | exact LeO.nil | refine LeO.bx rfl rfl (by repeat (first | exact LeL.nil | refine LeL.cons (by first | exact LeD.u rfl | exact LeD.ow rfl rfl | exact LeD.ow rfl (by simp [hmk]; done) | fail) ?_)) ?_ | refine LeO.ar rfl rfl (by first | rfl | fail) ?_ | refine LeO.fa rfl rfl (by first | (simp [hmk]; done) | fail) ?_ | fail)); done⟩ (by first | rfl | fail) | refine Gs.id ?_ | with_reducible refine And.intro ?_ ?_ | with_reducible refine Brn.T rfl ?_ | with_reducible refine Brn.F rfl ?_ | refine Brn.T (by (try simp only [smT]); first | rfl | omega | fail) ?_ | (refine Bnd.mk (fun hm => ?_); (try simp only [smT] at hm)) | refine Apd.mk (by first | rfl | simp) (by first | rfl | simp) (by (try simp only [smT]); first | omega | fail) (by unfold maxLen; first | (simp; omega) | fail) ?_ | refine Raw.faCopy (T := tt) rfl rfl rfl rfl rfl rfl rfl rfl rfl rfl rfl rfl rfl rfl ?_ | refine Drw.of (T := tt) (i := 5) [5, 6] [] [(0, true), (1, true), (2, true), (3, true), (4, true), (5, false), (6, false)] (by kernel_rfl) ?_ | refine Drw.of (T := tt) (i := 10) [] [] [(0, true), (1, true), (2, true), (3, true), (4, true), (5, true), (6, false), (7, true)] (by kernel_rfl) ?_ | refine Drw.ofT (T := tt) (i := 15) [0, 2, 3, 9, 10, 12] [1, 4, 5, 6, 7, 8, 11] (OF.fst 1 (OF.fst 4 (OF.fst 5 (OF.fst 6 (OF.fst 7 (OF.fst 8 (OF.alt 0 (OF.alt 2 (OF.alt 3 (OF.alt 9 (OF.alt 10 (OF.fst 11 (OF.alt 12 OF.nil OF.nil)) OF.nil) OF.nil) (OF.alt 9 (OF.alt 3 (OF.alt 10 (OF.fst 11 (OF.alt 12 OF.nil OF.nil)) OF.nil) OF.nil) OF.nil)) (OF.alt 9 (OF.alt 2 (OF.alt 3 (OF.alt 10 (OF.fst 11 (OF.alt 12 OF.nil OF.nil)) OF.nil) OF.nil) OF.nil) OF.nil)) (OF.alt 2 (OF.alt 0 (OF.alt 3 (OF.alt 9 (OF.alt 10 (OF.fst 11 (OF.alt 12 OF.nil OF.nil)) OF.nil) OF.nil) (OF.alt 9 (OF.alt 3 (OF.alt 10 (OF.fst 11 (OF.alt 12 OF.nil OF.nil)) OF.nil) OF.nil) OF.nil)) (OF.alt 9 (OF.alt 0 (OF.alt 3 (OF.alt 10 (OF.fst 11 (OF.alt 12 OF.nil OF.nil)) OF.nil) OF.nil) OF.nil) OF.nil)) (OF.alt 9 (OF.alt 0 (OF.alt 2 (OF.alt 3 (OF.alt 10 (OF.fst 11 (OF.alt 12 OF.nil OF.nil)) OF.nil) OF.nil) OF.nil) (OF.alt 2 (OF.alt 0 (OF.alt 3 (OF.alt 10 (OF.fst 11 (OF.alt 12 OF.nil OF.nil)) OF.nil) OF.nil) OF.nil) OF.nil)) OF.nil))))))))) (by kernel_rfl) ?_ | (refine CL.mk (Or.inl ?_); (conv => whnf); refine Cl.is (hua _ rfl) rfl (by first | exact fun _ => rfl | fail) ?_) | (refine CL.mk (Or.inr (Raw.callR (by repeat (first | exact ArgR.nil | refine ArgR.d rfl (by first | exact BorR.u | fail) ?_ | refine ArgR.a rfl (by repeat (first | exact BorLR.nil | refine BorLR.cons (by first | exact BorR.u | exact BorR.ar rfl (by first | rfl | (simp; done)) | exact BorR.fa rfl (by first | rfl | (simp; done)) (by exact FrR.map (fun _ => by repeat (first | exact FrL.nil | refine FrL.v ?_ | refine FrL.os ?_))) | fail) ?_)) ?_)) rfl (hmod) ⟨_, rfl, rfl⟩ rfl ?_)); refine Bk.mk rfl rfl ?_) | refine Raw.faPush (T := tt) [((3,(9,1))), ((4,(3,1)))] rfl rfl rfl rfl rfl rfl rfl rfl rfl rfl rfl rfl rfl rfl rfl ?_)
          all_goals (conv => whnf)
        · intro z hz
          subst hz
          dsimp only
          obtain ⟨km, hkm⟩ : ∃ km, linkW ⟨m3, l3, true⟩ (prv L q) s = ⟨km, l3, true⟩ := ⟨(linkW ⟨m3, l3, true⟩ (prv L q) s).mods, by cases prv L q <;> rfl⟩
          obtain ⟨zp, hzp⟩ : ∃ zp, parW ⟨m3, l3, true⟩ (prv L q) s = zp := ⟨_, rfl⟩
          have hzl : zp = -1 ∨ ∃ j : Nat, zp = (j : Int) ∧ j < km.length := by
            have hlen := hk.len
            rw [hkm] at hlen
            dsimp only at hlen
            rw [← hzp]
            cases hpv : prv L q with
            | none => exact .inl rfl
            | some p =>
              rcases mix_cases p (pushW ⟨m3, l3, true⟩ s).mods 0 with ⟨h, _⟩ | ⟨j, a, h, _, _, h2, _⟩
              · exact .inl h
              · refine .inr ⟨j, by simp only [parW, modR]; rw [h2]; omega, ?_⟩
                have := lt_get h
                simp only [pushW, List.length_append, List.length_cons, List.length_nil] at this
                omega
          obtain ⟨⟨k1, k2, k3, k4, k5⟩, hkn, hkn1, hkn2, hkn3⟩ := hk.new
          rw [hkm] at hkn
          dsimp only at hkn hkn1 hkn2 hkn3
          have hkl := lt_get hkn
          have hki := hk.inv
          have hkg : KeepR ⟨m3, l3, true⟩ ⟨km, l3, true⟩ := by rw [← hkm]; exact hk.keep
          have hkln := hk.len
          rw [hkm] at hki hkb hkln
          dsimp only at hkln
          refine' cutR (fun z : Int => z = zp) (fun z => ⟨[(2, .d (.p 2 0)), (4, .d (.p 4 0)), (5, .d (.u (strs' L))), (6, di q), (8, di m3.length), (9, di z), (11, dsr (lastP s))], [(4, wdNl), (2, .bx 39 [.u (uns us), .ow 900 km.length, .ow 901 l3.length, .u (.bool true)]), (900, .fa 69 5 (km.map Rm.row)), (901, .ar 43 2 (l3.map Ev.v))]⟩) _ (fun hR2 => ?_) ?_
          rotate_left
          · by_cases h0 : 0 < q
            · obtain ⟨q0, hq0⟩ : ∃ q0, q = q0 + 1 := ⟨q - 1, by omega⟩
              obtain ⟨p, hps⟩ : ∃ p, L[q - 1]? = some p := ⟨_, List.getElem?_eq_getElem (by omega)⟩
              have hpv : prv L q = some p := by rw [hq0] at hps ⊢; exact hps
              rw [hpv] at hkm hzp
              have hpm0 := hp p hpv rfl
              have hpm1 : 0 ≤ modR (pushW ⟨m3, l3, true⟩ s) p := (KeepR.push ⟨m3, l3, true⟩ s).modR hpm0 rfl
              obtain ⟨mp, hmp, _, _, hmp4⟩ := modR_get hpm1
              have hpi := hG.inv.push hu
              have hmod2 := module_V us (pushW ⟨m3, l3, true⟩ s) p (by simp only [pushW, List.length_append, List.length_cons, List.length_nil]; omega)
              simp only [linkW, setW, updW] at hkm
              simp only [parW] at hzp
              rw [hmp4] at hzp
              have hmod3 : mix p (pushW ⟨m3, l3, true⟩ s).mods 0 = ((modR (pushW ⟨m3, l3, true⟩ s) p).toNat : Int) := hmp4
              rw [hmod3] at hmod2
              generalize (modR (pushW ⟨m3, l3, true⟩ s) p).toNat = j at hmp hkm hzp hmod2
              rw [updR_at hmp] at hkm
              injection hkm with hkm
              have hkm := hkm.symm
              have hset := set_R us (pushW ⟨m3, l3, true⟩ s).mods l3 true j mp _ (lastP s) (m3.length : Int) hmp (hpi.nlen hU _ (List.mem_of_getElem? hmp)) (hpi.len _ (List.mem_of_getElem? hmp)) rfl
              dsimp only [pushW] at hset hmod2 hkm
              repeat' ((conv => whnf); first | refine Ix_get hs ?_ | refine Ix_pred h0 hps ?_ | refine Ix_last ?_ | exact Gs.cut (i := 22) (by assumption) _ [(2, .k 2), (4, .k 4), (900, .k 900), (901, .k 901)] rfl ⟨by (try dsimp only); (repeat (refine LeT.cons rfl (by first | exact LeS.d (by first | exact LeD.u rfl | exact LeD.p rfl | fail) | fail) ?_)); (first | exact LeT.nil | fail), by (try dsimp only); (repeat (first | exact LeO.nil | refine LeO.bx rfl rfl (by repeat (first | exact LeL.nil | refine LeL.cons (by first | exact LeD.u rfl | exact LeD.ow rfl rfl | exact LeD.ow rfl (by simp [hmk, hkm]; done) | fail) ?_)) ?_ | refine LeO.ar rfl rfl (by first | rfl | fail) ?_ | refine LeO.fa rfl rfl (by first | (simp [hmk, hkm]; done) | fail) ?_ | fail)); done⟩ (by assumption) | refine Gs.id ?_ | refine Brn.T (by (try simp only [smT]); first | rfl | omega | fail) ?_ | (refine Bnd.mk (fun hm => ?_); (try simp only [smT] at hm)) | refine Rng.mk (by (try simp only [smT]); omega) ?_ | refine Drw.of (T := tt) (i := 20) [6, 7] [] [(0, true), (1, true), (2, true), (3, true), (4, true), (5, true), (6, false), (7, false)] (by kernel_rfl) ?_ | (refine CL.mk (Or.inl ?_); (conv => whnf); refine Cl.is (hsp) rfl (by first | (intro e; cases e; done) | fail) ?_) | (refine CL.mk (Or.inr (Raw.callR (by repeat (first | exact ArgR.nil | refine ArgR.d rfl (by first | exact BorR.u | fail) ?_ | refine ArgR.a rfl (by repeat (first | exact BorLR.nil | refine BorLR.cons (by first | exact BorR.u | exact BorR.ar rfl (by first | (simp; done)) | exact BorR.fa rfl (by first | (simp; done)) (by exact FrR.map (fun _ => by repeat (first | exact FrL.nil | refine FrL.v ?_ | refine FrL.os ?_))) | fail) ?_)) ?_)) rfl (hmod2) ⟨_, rfl, rfl⟩ rfl ?_)); refine Bk.mk rfl rfl ?_) | (refine CL.mk (Or.inr (Raw.callI [900,901] [900,901] rfl rfl rfl rfl rfl rfl rfl (hset) ?_)); rintro _ _ ⟨rfl, rfl⟩; refine Bk.mk rfl rfl ?_))
              all_goals (conv => whnf)
            · have hq0 : q = 0 := by omega
              have hpv : prv L q = none := by rw [hq0]; rfl
              rw [hpv] at hkm hzp
              simp only [linkW, parW, pushW] at hkm hzp
              injection hkm with hkm
              have hkm := hkm.symm
              repeat' ((conv => whnf); first | refine Ix_get hs ?_ | refine Ix_last ?_ | exact Gs.cut (i := 22) (by assumption) _ [(2, .k 2), (4, .k 4), (900, .k 900), (901, .k 901)] rfl ⟨by (try dsimp only); (repeat (refine LeT.cons rfl (by first | exact LeS.d (by first | exact LeD.u rfl | exact LeD.p rfl | fail) | fail) ?_)); (first | exact LeT.nil | fail), by (try dsimp only); (repeat (first | exact LeO.nil | refine LeO.bx rfl rfl (by repeat (first | exact LeL.nil | refine LeL.cons (by first | exact LeD.u rfl | exact LeD.ow rfl rfl | exact LeD.ow rfl (by simp [hmk, hkm]; done) | fail) ?_)) ?_ | refine LeO.ar rfl rfl (by first | rfl | fail) ?_ | refine LeO.fa rfl rfl (by first | (simp [hmk, hkm]; done) | fail) ?_ | fail)); done⟩ (by assumption) | refine Gs.id ?_ | refine Brn.F (by (try simp only [smT]); first | rfl | omega | fail) ?_ | (refine Bnd.mk (fun hm => ?_); (try simp only [smT] at hm)) | refine Rng.mk (by (try simp only [smT]); omega) ?_ | (refine CL.mk (Or.inl ?_); (conv => whnf); refine Cl.is (hsp) rfl (by first | (intro e; cases e; done) | fail) ?_) | fail)
              all_goals (conv => whnf)
          · intro z hz
            rw [hz]
            clear hz
            dsimp only
            obtain ⟨ym, yl, yk, hrz⟩ : ∃ ym yl yk, R ⟨km, l3, true⟩ m3.length = ⟨ym, yl, yk⟩ := ⟨_, _, _, rfl⟩
            have hcon := hC km l3 m3.length ym yl yk hki (by omega) hkb (by omega) (by omega) hrz
            have hgr := hR ⟨km, l3, true⟩ m3.length hki rfl (by dsimp only; omega) (by dsimp only; omega)
            rw [hrz] at hgr
            have hmr : makeR R ⟨m3, l3, true⟩ (prv L q) s = if yk = true then ⟨ym, yl, yk⟩ else goneW ⟨ym, yl, yk⟩ m3.length zp (lastP s) := by
              unfold makeR; rw [hkm, hrz, hzp]
            have hyk : km.length ≤ ym.length := hgr.keep.len
            have hyl : m3.length < ym.length := by omega
            cases yk
            · rw [if_neg (by simp)] at hmr
              obtain ⟨⟨n1, n2, n3, n4, n5⟩, hny⟩ : ∃ m, ym[m3.length]? = some m := ⟨_, List.getElem?_eq_getElem hyl⟩
              have hIk := hgr.inv.kill m3.length
              have hkw : killW ⟨ym, yl, false⟩ m3.length = ⟨ym.set m3.length ⟨n1, n2, true, n4, n5⟩, yl, false⟩ := by simp only [killW, updW, updR_at hny]
              have hnr : (ym.map Rm.row)[m3.length]? = some (Rm.row ⟨n1, n2, n3, n4, n5⟩) := by simp [hny]
              have hns : (ym.set m3.length ⟨n1, n2, true, n4, n5⟩).map Rm.row = (ym.map Rm.row).set m3.length [.v (.str n1), .v (.int .i64 n2), .v (.bool true), .os 9 1 (n4.map sv1), .os 3 1 (n5.map iv1)] := by simp [List.map_set, Rm.row]
              have hll : (ym.set m3.length ⟨n1, n2, true, n4, n5⟩).length = ym.length := by simp
              rw [hkw] at hIk
              unfold goneW at hmr
              rw [hkw] at hmr
              generalize ym.set m3.length ⟨n1, n2, true, n4, n5⟩ = ym2 at *
              refine' cutR (fun z : Int => z = zp) (fun z => ⟨[(2, .d (.p 2 0)), (4, .d (.p 4 0)), (5, .d (.u (strs' L))), (6, di q), (8, di m3.length), (9, di z), (11, dsr (lastP s))], [(4, wdNl), (2, .bx 39 [.u (uns us), .ow 900 ym2.length, .ow 901 yl.length, .u (.bool false)]), (900, .fa 69 5 (ym2.map Rm.row)), (901, .ar 43 2 (yl.map Ev.v))]⟩) _ (fun hR3 => ?_) ?_
              rotate_left
              · repeat' ((conv => whnf); first | exact Gs.cut (i := 25) (by assumption) _ [(2, .k 2), (4, .k 4), (900, .k 900), (901, .k 901)] rfl ⟨by (try dsimp only); (repeat (refine LeT.cons rfl (by first | exact LeS.d (by first | exact LeD.u rfl | exact LeD.p rfl | fail) | fail) ?_)); (first | exact LeT.nil | fail), by (try dsimp only); (repeat (first | exact LeO.nil | refine LeO.bx rfl rfl (by repeat (first | exact LeL.nil | refine LeL.cons (by first | exact LeD.u rfl | exact LeD.ow rfl rfl | exact LeD.ow rfl (by simp [hns, hll, Rm.row]; done) | fail) ?_)) ?_ | refine LeO.ar rfl rfl (by first | rfl | fail) ?_ | refine LeO.fa rfl rfl (by first | (simp [hns, hll, Rm.row]; done) | fail) ?_ | fail)); done⟩ (by first | rfl | fail) | refine Gs.id ?_ | with_reducible refine Brn.T rfl ?_ | refine Ixo.mk ⟨_, rfl, (by (try simp only [smT]); omega), ?_⟩ | refine Raw.faStoreV (T := tt) rfl rfl rfl rfl rfl rfl (by first | assumption | fail) rfl (by first | exact .inl ⟨_, rfl⟩ | exact .inr rfl) ?_ | (refine CL.mk (Or.inr (Raw.callI [900,901] [900,901] rfl rfl rfl rfl rfl rfl rfl (hcon) ?_)); rintro _ _ ⟨rfl, rfl⟩; refine Bk.mk rfl rfl ?_))
                all_goals (conv => whnf)
              · intro z hz
                rw [hz]
                clear hz hcon hny hnr hns
                dsimp only
                rcases hzl with hz1 | ⟨j, hz1, hj⟩
                · rw [hz1] at hmr ⊢
                  rw [if_neg (by omega)] at hmr
                  repeat' ((conv => whnf); first | refine Gs.id ?_ | with_reducible refine Brn.F rfl ?_ | refine Rng.mk (by (try simp only [smT]); omega) ?_ | fail)
                  all_goals (conv => whnf)
                  all_goals exact ⟨(⟨ym2, yl, false⟩, q + 1), fin _ hmr, by dsimp only; omega, [(2, .k 2), (4, .k 4), (900, .k 900), (901, .k 901)], ⟨by (try dsimp only); (repeat (refine LeT.cons rfl (by first | exact LeS.d (by first | exact LeD.u rfl | exact LeD.p rfl | fail) | fail) ?_)); exact LeT.nil, by (try dsimp only); repeat (first | exact LeO.nil | refine LeO.bx rfl rfl (by repeat (first | exact LeL.nil | refine LeL.cons (by first | exact LeD.u rfl | exact LeD.ow rfl rfl | fail) ?_)) ?_ | refine LeO.ar rfl rfl (by first | rfl | fail) ?_ | refine LeO.fa rfl rfl (by first | rfl | fail) ?_ | fail)⟩⟩
                · rw [hz1] at hmr ⊢
                  obtain ⟨⟨p1, p2, p3, p4, p5⟩, hmp⟩ : ∃ m, ym2[j]? = some m := ⟨_, List.getElem?_eq_getElem (by omega)⟩
                  have hmm := List.mem_of_getElem? hmp
                  have hjl := lt_get hmp
                  have hmpr : (ym2.map Rm.row)[j]? = some (Rm.row ⟨p1, p2, p3, p4, p5⟩) := by simp [hmp]
                  have hat := attribute_V ⟨p1, p2, p3, p4, p5⟩ (lastP s) (hIk.nlen hU _ hmm)
                  have hpl := hIk.len _ hmm
                  dsimp only at hat hpl
                  have hsx : sixR ⟨ym2, yl, false⟩ (j : Int).toNat (lastP s) = six (lastP s) p4 0 := by simp [sixR, nmsR, hmp]
                  rw [hsx] at hmr
                  rcases six_cases (lastP s) p4 0 with ⟨h1, _⟩ | ⟨kk, h1, h2, _⟩
                  · rw [h1] at hat
                    rw [h1, if_neg (by omega)] at hmr
                    repeat' ((conv => whnf); first | refine Rw_rm hmp ?_ | refine Gs.id ?_ | with_reducible refine Brn.T rfl ?_ | with_reducible refine Brn.F rfl ?_ | refine Rng.mk (by (try simp only [smT]); omega) ?_ | refine Ixo.mk ⟨_, rfl, (by (try simp only [smT]); omega), ?_⟩ | (refine CL.mk (Or.inr (Raw.callR (by repeat (first | exact ArgR.nil | refine ArgR.d rfl (by first | exact BorR.u | fail) ?_ | refine ArgR.a rfl (by repeat (first | exact BorLR.nil | refine BorLR.cons (by first | exact BorR.u | exact BorR.rf rfl (by first | assumption | fail) rfl (by first | rfl | fail)) ?_)) ?_)) rfl (hat) ⟨_, rfl, rfl⟩ rfl ?_)); refine Bk.mk rfl rfl ?_))
                    all_goals (conv => whnf)
                    all_goals exact ⟨(⟨ym2, yl, false⟩, q + 1), fin _ hmr, by dsimp only; omega, [(2, .k 2), (4, .k 4), (900, .k 900), (901, .k 901)], ⟨by (try dsimp only); (repeat (refine LeT.cons rfl (by first | exact LeS.d (by first | exact LeD.u rfl | exact LeD.p rfl | fail) | fail) ?_)); exact LeT.nil, by (try dsimp only); repeat (first | exact LeO.nil | refine LeO.bx rfl rfl (by repeat (first | exact LeL.nil | refine LeL.cons (by first | exact LeD.u rfl | exact LeD.ow rfl rfl | fail) ?_)) ?_ | refine LeO.ar rfl rfl (by first | rfl | fail) ?_ | refine LeO.fa rfl rfl (by first | rfl | fail) ?_ | fail)⟩⟩
                  · rw [h2, Nat.zero_add] at hat
                    have hkk := lt_get h1
                    obtain ⟨vv, hvv⟩ : ∃ v, p5[kk]? = some v := ⟨_, List.getElem?_eq_getElem (by omega)⟩
                    have hvl : valR ⟨ym2, yl, false⟩ (j : Int).toNat ((kk : Nat) : Int) = vv := by simp [valR, valsR, hmp, hvv]
                    rw [h2, Nat.zero_add, hvl] at hmr
                    by_cases hve : vv = (m3.length : Int)
                    · rw [if_pos ⟨by omega, by omega, hve⟩] at hmr
                      simp only [dropW, updW, Int.toNat_natCast, updR_at hmp] at hmr
                      have hdr := drop_R us ym2 yl false j kk ⟨p1, p2, p3, p4, p5⟩ _ hmp (hIk.nlen hU _ hmm) hpl hkk rfl
                      repeat' ((conv => whnf); first | refine Rw_rm hmp ?_ | refine Rw_i1 hvv ?_ | refine Gs.id ?_ | with_reducible refine Brn.T rfl ?_ | refine Brn.T (by (try simp only [smT]); first | rfl | assumption | fail) ?_ | refine Rng.mk (by (try simp only [smT]); omega) ?_ | refine Ixo.mk ⟨_, rfl, (by (try simp only [smT]); omega), ?_⟩ | (refine CL.mk (Or.inr (Raw.callR (by repeat (first | exact ArgR.nil | refine ArgR.d rfl (by first | exact BorR.u | fail) ?_ | refine ArgR.a rfl (by repeat (first | exact BorLR.nil | refine BorLR.cons (by first | exact BorR.u | exact BorR.rf rfl (by first | assumption | fail) rfl (by first | rfl | fail)) ?_)) ?_)) rfl (hat) ⟨_, rfl, rfl⟩ rfl ?_)); refine Bk.mk rfl rfl ?_) | (refine CL.mk (Or.inr (Raw.callI [900,901] [900,901] rfl rfl rfl rfl rfl rfl rfl (hdr) ?_)); rintro _ _ ⟨rfl, rfl⟩; refine Bk.mk rfl rfl ?_))
                      all_goals (conv => whnf)
                      all_goals exact ⟨(⟨ym2.set j (dropRm ⟨p1, p2, p3, p4, p5⟩ kk), yl, false⟩, q + 1), fin _ hmr, by dsimp only; omega, [(2, .k 2), (4, .k 4), (900, .k 900), (901, .k 901)], ⟨by (try dsimp only); (repeat (refine LeT.cons rfl (by first | exact LeS.d (by first | exact LeD.u rfl | exact LeD.p rfl | fail) | fail) ?_)); exact LeT.nil, by (try dsimp only); repeat (first | exact LeO.nil | refine LeO.bx rfl rfl (by repeat (first | exact LeL.nil | refine LeL.cons (by first | exact LeD.u rfl | exact LeD.ow rfl rfl | fail) ?_)) ?_ | refine LeO.ar rfl rfl (by first | rfl | fail) ?_ | refine LeO.fa rfl rfl (by first | rfl | fail) ?_ | fail)⟩⟩
                    · rw [if_neg (fun h => hve h.2.2)] at hmr
                      repeat' ((conv => whnf); first | refine Rw_rm hmp ?_ | refine Rw_i1 hvv ?_ | refine Gs.id ?_ | with_reducible refine Brn.T rfl ?_ | refine Brn.F (by (try simp only [smT]); first | rfl | assumption | fail) ?_ | refine Rng.mk (by (try simp only [smT]); omega) ?_ | refine Ixo.mk ⟨_, rfl, (by (try simp only [smT]); omega), ?_⟩ | (refine CL.mk (Or.inr (Raw.callR (by repeat (first | exact ArgR.nil | refine ArgR.d rfl (by first | exact BorR.u | fail) ?_ | refine ArgR.a rfl (by repeat (first | exact BorLR.nil | refine BorLR.cons (by first | exact BorR.u | exact BorR.rf rfl (by first | assumption | fail) rfl (by first | rfl | fail)) ?_)) ?_)) rfl (hat) ⟨_, rfl, rfl⟩ rfl ?_)); refine Bk.mk rfl rfl ?_))
                      all_goals (conv => whnf)
                      all_goals exact ⟨(⟨ym2, yl, false⟩, q + 1), fin _ hmr, by dsimp only; omega, [(2, .k 2), (4, .k 4), (900, .k 900), (901, .k 901)], ⟨by (try dsimp only); (repeat (refine LeT.cons rfl (by first | exact LeS.d (by first | exact LeD.u rfl | exact LeD.p rfl | fail) | fail) ?_)); exact LeT.nil, by (try dsimp only); repeat (first | exact LeO.nil | refine LeO.bx rfl rfl (by repeat (first | exact LeL.nil | refine LeL.cons (by first | exact LeD.u rfl | exact LeD.ow rfl rfl | fail) ?_)) ?_ | refine LeO.ar rfl rfl (by first | rfl | fail) ?_ | refine LeO.fa rfl rfl (by first | rfl | fail) ?_ | fail)⟩⟩
            · rw [if_pos rfl] at hmr
              repeat' ((conv => whnf); first | refine Gs.id ?_ | with_reducible refine Brn.F rfl ?_ | refine Rng.mk (by (try simp only [smT]); omega) ?_ | (refine CL.mk (Or.inr (Raw.callI [900,901] [900,901] rfl rfl rfl rfl rfl rfl rfl (hcon) ?_)); rintro _ _ ⟨rfl, rfl⟩; refine Bk.mk rfl rfl ?_)) --D
              all_goals (conv => whnf)
              all_goals exact ⟨(⟨ym, yl, true⟩, q + 1), fin _ hmr, by dsimp only; omega, [(2, .k 2), (4, .k 4), (900, .k 900), (901, .k 901)], ⟨by (try dsimp only); (repeat (refine LeT.cons rfl (by first | exact LeS.d (by first | exact LeD.u rfl | exact LeD.p rfl | fail) | fail) ?_)); exact LeT.nil, by (try dsimp only); repeat (first | exact LeO.nil | refine LeO.bx rfl rfl (by repeat (first | exact LeL.nil | refine LeL.cons (by first | exact LeD.u rfl | exact LeD.ow rfl rfl | fail) ?_)) ?_ | refine LeO.ar rfl rfl (by first | rfl | fail) ?_ | refine LeO.fa rfl rfl (by first | rfl | fail) ?_ | fail)⟩⟩
      · rw [if_neg hu] at he
        obtain ⟨hu2, _⟩ := (uix_cases s us 0).resolve_right fun ⟨_, _, _, _, h, _⟩ => hu h
        rw [hu2] at hua
        have hsay := say_R us ⟨m3, l3, true⟩ 6 s (by dsimp only; omega)
        rw [he, failW] at hr
        injection hr with r1 r2 r3
        simp only [sayR] at hsay r1 r2
        subst r1 r2 r3
        repeat' ((conv => whnf); first | refine Ix_get hs ?_ | refine Gs.id ?_ | with_reducible refine Brn.T rfl ?_ | with_reducible refine Brn.F rfl ?_ | refine Brn.T (by (try simp only [smT]); first | rfl | omega | fail) ?_ | (refine Bnd.mk (fun hm => ?_); (try simp only [smT] at hm)) | refine Drw.of (T := tt) (i := 5) [5, 6] [] [(0, true), (1, true), (2, true), (3, true), (4, true), (5, false), (6, false)] (by kernel_rfl) ?_ | refine Drw.of (T := tt) (i := 10) [] [] [(0, true), (1, true), (2, true), (3, true), (4, true), (5, true), (6, false), (7, true)] (by kernel_rfl) ?_ | refine Drw.of (T := tt) (i := 11) [5, 6] [] [(0, true), (1, true), (2, true), (3, true), (4, true), (5, false), (6, false)] (by kernel_rfl) ?_ | (refine CL.mk (Or.inl ?_); (conv => whnf); refine Cl.is (hua _ rfl) rfl (by first | exact fun _ => rfl | fail) ?_) | (refine CL.mk (Or.inr (Raw.callR (by repeat (first | exact ArgR.nil | refine ArgR.d rfl (by first | exact BorR.u | fail) ?_ | refine ArgR.a rfl (by repeat (first | exact BorLR.nil | refine BorLR.cons (by first | exact BorR.u | exact BorR.ar rfl (by first | rfl | (simp; done)) | exact BorR.fa rfl (by first | rfl | (simp; done)) (by exact FrR.map (fun _ => by repeat (first | exact FrL.nil | refine FrL.v ?_ | refine FrL.os ?_))) | fail) ?_)) ?_)) rfl (hmod) ⟨_, rfl, rfl⟩ rfl ?_)); refine Bk.mk rfl rfl ?_) | (refine CL.mk (Or.inr (Raw.callI [900,901] [900,901] rfl rfl rfl rfl rfl rfl rfl (hsay) ?_)); rintro _ _ ⟨rfl, rfl⟩; refine Bk.mk rfl rfl ?_)) --D
        all_goals (conv => whnf)
        all_goals refine RetO.mk ⟨[(900, .k 900), (901, .k 901)], _, _, (by first | exact LeS.a (by repeat (first | exact LeL.nil | refine LeL.cons (by first | exact LeD.u rfl | exact LeD.ow rfl rfl | fail) ?_)) | fail), (by repeat (first | exact LeO.nil | refine LeO.ar rfl rfl (by first | rfl | fail) ?_ | refine LeO.fa rfl rfl (by first | rfl | fail) ?_ | fail)), rfl, rfl⟩
  · have hst : loadR R us ⟨m3, l3, o3⟩ (prv L q) (L.drop q) = ⟨m3, l3, o3⟩ := by
      cases o3
      · exact loadR_fail rfl _ _
      · have : q = L.length := by have : ¬ q < L.length := fun h => h9 ⟨h, rfl⟩; omega
        subst this
        rw [List.drop_length, loadR]
    rw [he, hst] at hr
    injection hr with r1 r2 r3
    subst r1 r2 r3
    cases o3
    · repeat' ((conv => whnf); first | refine Gs.id ?_ | with_reducible refine Brn.F rfl ?_ | refine Brn.T (by (try simp only [smT]); first | rfl | assumption | fail) ?_ | refine Brn.F (by (try simp only [smT]); first | rfl | assumption | fail) ?_ | (refine Brn.mk (fun hb => ?_) (fun hb => ?_) <;> (try simp only [smT] at hb) <;> (try (exact absurd trivial hb)) <;> (try (exfalso; omega))) | (refine Bnd.mk (fun hm => ?_); (try simp only [smT] at hm)) | fail) --D
      all_goals (conv => whnf)
      all_goals refine RetO.mk ⟨[(900, .k 900), (901, .k 901)], _, _, (by first | exact LeS.a (by repeat (first | exact LeL.nil | refine LeL.cons (by first | exact LeD.u rfl | exact LeD.ow rfl rfl | fail) ?_)) | fail), (by repeat (first | exact LeO.nil | refine LeO.ar rfl rfl (by first | rfl | fail) ?_ | refine LeO.fa rfl rfl (by first | rfl | fail) ?_ | fail)), rfl, rfl⟩
    · obtain rfl : q = L.length := by have : ¬ q < L.length := fun h => h9 ⟨h, rfl⟩; omega
      repeat' ((conv => whnf); first | refine Gs.id ?_ | with_reducible refine Brn.F rfl ?_ | refine Brn.F (by (try simp only [smT]); first | rfl | omega | fail) ?_ | (refine Bnd.mk (fun hm => ?_); (try simp only [smT] at hm)) | fail) --D
      all_goals (conv => whnf)
      all_goals refine RetO.mk ⟨[(900, .k 900), (901, .k 901)], _, _, (by first | exact LeS.a (by repeat (first | exact LeL.nil | refine LeL.cons (by first | exact LeD.u rfl | exact LeD.ow rfl rfl | fail) ?_)) | fail), (by repeat (first | exact LeO.nil | refine LeO.ar rfl rfl (by first | rfl | fail) ?_ | refine LeO.fa rfl rfl (by first | rfl | fail) ?_ | fail)), rfl, rfl⟩
end Go.Proofs.YtgloielnnakknaaDoor
namespace Go.Proofs.YtgloielnnakknaaDoor
open Go.RowKit
set_option maxHeartbeats 4000000 in
theorem stepA_R {us : List Un} (hU : Uok us) {R : Wd → Nat → Wd} (n : Nat) (hC : RunCR us R n) (ms : List Rm) (log : List Ev) (i : Nat) (tk : Int) (tn tp : ByteArray) (zm : List Rm) (zl : List Ev) (zk : Bool) (hI : InvR us ⟨ms, log, true⟩) (h1 : M1 ⟨ms, log, true⟩) (hB : RunBR ⟨ms, log, true⟩ n) (hi : i < ms.length) (hL : 5001 - log.length ≤ n) (hk : tk = 1 ∨ tk = 2 ∨ tk = 5) (hr : stepR R us ⟨ms, log, true⟩ i ⟨tk, tn, tp⟩ = ⟨zm, zl, zk⟩) :
    CallsA Tryd.prog 43 [wdA us ⟨ms, log, true⟩, di i, .a [.u (.int .i64 tk), .u (.str tn), .u (.str tp)]] (wdO ⟨ms, log, true⟩) (Iso (wdA us ⟨zm, zl, zk⟩) (wdO ⟨zm, zl, zk⟩)) := by
  have hlog := hI.okl rfl
  have hml : ms.length ≤ log.length + 1 := h1
  dsimp only at hlog
  obtain ⟨⟨a1, a2, a3, a4, a5⟩, hmd⟩ : ∃ m, ms[i]? = some m := ⟨_, List.getElem?_eq_getElem hi⟩
  have hmr : (ms.map Rm.row)[i]? = some (Rm.row ⟨a1, a2, a3, a4, a5⟩) := by simp [hmd]
  have hmem := List.mem_of_getElem? hmd
  have hnl := hI.nlen hU _ hmem
  have hvl := hI.len _ hmem
  dsimp only at hnl hvl
  unfold stepR at hr
  dsimp only at hr
  rcases hk with rfl | rfl | rfl
  · rw [if_pos rfl] at hr
    simp only [setW, updW, updR_at hmd] at hr
    injection hr with r1 r2 r3
    have hset := set_R us ms log true i ⟨a1, a2, a3, a4, a5⟩ _ tn (-1) hmd hnl hvl rfl
    subst r1 r2 r3
    refine callsA_of_vcO (T := tt) Tryd.func43 rfl rfl rfl rfl rfl ?_
    repeat' ((conv => whnf); first | refine Gs.id ?_ | with_reducible refine Brn.T rfl ?_ | (refine CL.mk (Or.inr (Raw.callI [900,901] [900,901] rfl rfl rfl rfl rfl rfl rfl (hset) ?_)); rintro _ _ ⟨rfl, rfl⟩; refine Bk.mk rfl rfl ?_))
    all_goals (conv => whnf)
    all_goals refine RetO.mk ⟨[(900, .k 900), (901, .k 901)], _, _, (by first | exact LeS.a (by repeat (first | exact LeL.nil | refine LeL.cons (by first | exact LeD.u rfl | exact LeD.ow rfl rfl | fail) ?_)) | fail), (by repeat (first | exact LeO.nil | refine LeO.ar rfl rfl (by first | rfl | fail) ?_ | refine LeO.fa rfl rfl (by first | rfl | fail) ?_ | fail)), rfl, rfl⟩
  · rw [if_neg (by decide), if_pos rfl] at hr
    have hat := attribute_V ⟨a1, a2, a3, a4, a5⟩ tn hnl
    dsimp only at hat
    have hsx : sixR ⟨ms, log, true⟩ i tn = six tn a4 0 := by simp [sixR, nmsR, hmd]
    rw [hsx] at hr
    rcases six_cases tn a4 0 with ⟨q1, _⟩ | ⟨kk, q1, q2, _⟩
    · rw [q1] at hat
      rw [q1, if_neg (by omega), failW] at hr
      injection hr with r1 r2 r3
      dsimp only at r1 r2
      subst r1 r2 r3
      refine callsA_of_vcO (T := tt) Tryd.func43 rfl rfl rfl rfl rfl ?_
      repeat' ((conv => whnf); first | refine Rw_rm hmd ?_ | refine Gs.id ?_ | with_reducible refine Brn.T rfl ?_ | with_reducible refine Brn.F rfl ?_ | refine Ixo.mk ⟨_, rfl, (by (try simp only [smT]); omega), ?_⟩ | refine Drw.of (T := tt) (i := 4) [7, 8] [] [(0, true), (1, true), (2, true), (3, true), (4, true), (5, true), (6, true), (7, false), (8, false)] (by kernel_rfl) ?_ | (refine CL.mk (Or.inr (Raw.callR (by repeat (first | exact ArgR.nil | refine ArgR.d rfl (by first | exact BorR.u | fail) ?_ | refine ArgR.a rfl (by repeat (first | exact BorLR.nil | refine BorLR.cons (by first | exact BorR.u | exact BorR.rf rfl (by first | assumption | fail) rfl (by first | rfl | fail)) ?_)) ?_)) rfl (hat) ⟨_, rfl, rfl⟩ rfl ?_)); refine Bk.mk rfl rfl ?_))
      all_goals (conv => whnf)
      all_goals refine RetO.mk ⟨[(900, .k 900), (901, .k 901)], _, _, (by first | exact LeS.a (by repeat (first | exact LeL.nil | refine LeL.cons (by first | exact LeD.u rfl | exact LeD.ow rfl rfl | fail) ?_)) | fail), (by repeat (first | exact LeO.nil | refine LeO.ar rfl rfl (by first | rfl | fail) ?_ | refine LeO.fa rfl rfl (by first | rfl | fail) ?_ | fail)), rfl, rfl⟩
    · rw [q2, Nat.zero_add] at hat
      rw [q2, Nat.zero_add, if_pos (by omega)] at hr
      have hkk := lt_get q1
      simp only [dropW, updW, Int.toNat_natCast, updR_at hmd] at hr
      injection hr with r1 r2 r3
      have hdr := drop_R us ms log true i kk ⟨a1, a2, a3, a4, a5⟩ _ hmd hnl hvl hkk rfl
      subst r1 r2 r3
      refine callsA_of_vcO (T := tt) Tryd.func43 rfl rfl rfl rfl rfl ?_
      repeat' ((conv => whnf); first | refine Rw_rm hmd ?_ | refine Gs.id ?_ | with_reducible refine Brn.T rfl ?_ | with_reducible refine Brn.F rfl ?_ | refine Ixo.mk ⟨_, rfl, (by (try simp only [smT]); omega), ?_⟩ | refine Drw.of (T := tt) (i := 4) [7, 8] [] [(0, true), (1, true), (2, true), (3, true), (4, true), (5, true), (6, true), (7, false), (8, false)] (by kernel_rfl) ?_ | (refine CL.mk (Or.inr (Raw.callR (by repeat (first | exact ArgR.nil | refine ArgR.d rfl (by first | exact BorR.u | fail) ?_ | refine ArgR.a rfl (by repeat (first | exact BorLR.nil | refine BorLR.cons (by first | exact BorR.u | exact BorR.rf rfl (by first | assumption | fail) rfl (by first | rfl | fail)) ?_)) ?_)) rfl (hat) ⟨_, rfl, rfl⟩ rfl ?_)); refine Bk.mk rfl rfl ?_) | (refine CL.mk (Or.inr (Raw.callI [900,901] [900,901] rfl rfl rfl rfl rfl rfl rfl (hdr) ?_)); rintro _ _ ⟨rfl, rfl⟩; refine Bk.mk rfl rfl ?_))
      all_goals (conv => whnf)
      all_goals refine RetO.mk ⟨[(900, .k 900), (901, .k 901)], _, _, (by first | exact LeS.a (by repeat (first | exact LeL.nil | refine LeL.cons (by first | exact LeD.u rfl | exact LeD.ow rfl rfl | fail) ?_)) | fail), (by repeat (first | exact LeO.nil | refine LeO.ar rfl rfl (by first | rfl | fail) ?_ | refine LeO.fa rfl rfl (by first | rfl | fail) ?_ | fail)), rfl, rfl⟩
  · rw [if_neg (by decide), if_neg (by decide), if_pos rfl] at hr
    have hmod := module_V us ⟨ms, log, true⟩ tn (by dsimp only; omega)
    dsimp only at hmod
    by_cases hj : 0 ≤ modR ⟨ms, log, true⟩ tn
    · rw [if_pos hj] at hr
      obtain ⟨mj, j1, _, _, j4⟩ := modR_get hj
      generalize (modR ⟨ms, log, true⟩ tn).toNat = j at j1 j4 hr
      have j5 : mix tn ms 0 = (j : Int) := j4
      rw [j5] at hmod
      have hrun := hC ms log j zm zl zk hI (by omega) hB (lt_get j1) hL hr
      refine callsA_of_vcO (T := tt) Tryd.func43 rfl rfl rfl rfl rfl ?_
      repeat' ((conv => whnf); first | refine Gs.id ?_ | with_reducible refine Brn.T rfl ?_ | with_reducible refine Brn.F rfl ?_ | (refine CL.mk (Or.inr (Raw.callR (by repeat (first | exact ArgR.nil | refine ArgR.d rfl (by first | exact BorR.u | fail) ?_ | refine ArgR.a rfl (by repeat (first | exact BorLR.nil | refine BorLR.cons (by first | exact BorR.u | exact BorR.ar rfl (by first | rfl | (simp; done)) | exact BorR.fa rfl (by first | rfl | (simp; done)) (by exact FrR.map (fun _ => by repeat (first | exact FrL.nil | refine FrL.v ?_ | refine FrL.os ?_))) | fail) ?_)) ?_)) rfl (hmod) ⟨_, rfl, rfl⟩ rfl ?_)); refine Bk.mk rfl rfl ?_) | (refine CL.mk (Or.inr (Raw.callI [900,901] [900,901] rfl rfl rfl rfl rfl rfl rfl (hrun) ?_)); rintro _ _ ⟨rfl, rfl⟩; refine Bk.mk rfl rfl ?_))
      all_goals (conv => whnf)
      all_goals refine RetO.mk ⟨[(900, .k 900), (901, .k 901)], _, _, (by first | exact LeS.a (by repeat (first | exact LeL.nil | refine LeL.cons (by first | exact LeD.u rfl | exact LeD.ow rfl rfl | fail) ?_)) | fail), (by repeat (first | exact LeO.nil | refine LeO.ar rfl rfl (by first | rfl | fail) ?_ | refine LeO.fa rfl rfl (by first | rfl | fail) ?_ | fail)), rfl, rfl⟩
    · rw [if_neg hj, failW] at hr
      have j5 : mix tn ms 0 = -1 := by
        rcases mix_cases tn ms 0 with h | ⟨j, _, _, _, _, h, _⟩
        · exact h.1
        · exact absurd (show 0 ≤ modR ⟨ms, log, true⟩ tn by rw [modR]; dsimp only; rw [h]; omega) hj
      rw [j5] at hmod
      injection hr with r1 r2 r3
      dsimp only at r1 r2
      subst r1 r2 r3
      refine callsA_of_vcO (T := tt) Tryd.func43 rfl rfl rfl rfl rfl ?_
      repeat' ((conv => whnf); first | refine Gs.id ?_ | with_reducible refine Brn.T rfl ?_ | with_reducible refine Brn.F rfl ?_ | (refine CL.mk (Or.inr (Raw.callR (by repeat (first | exact ArgR.nil | refine ArgR.d rfl (by first | exact BorR.u | fail) ?_ | refine ArgR.a rfl (by repeat (first | exact BorLR.nil | refine BorLR.cons (by first | exact BorR.u | exact BorR.ar rfl (by first | rfl | (simp; done)) | exact BorR.fa rfl (by first | rfl | (simp; done)) (by exact FrR.map (fun _ => by repeat (first | exact FrL.nil | refine FrL.v ?_ | refine FrL.os ?_))) | fail) ?_)) ?_)) rfl (hmod) ⟨_, rfl, rfl⟩ rfl ?_)); refine Bk.mk rfl rfl ?_))
      all_goals (conv => whnf)
      all_goals refine RetO.mk ⟨[(900, .k 900), (901, .k 901)], _, _, (by first | exact LeS.a (by repeat (first | exact LeL.nil | refine LeL.cons (by first | exact LeD.u rfl | exact LeD.ow rfl rfl | fail) ?_)) | fail), (by repeat (first | exact LeO.nil | refine LeO.ar rfl rfl (by first | rfl | fail) ?_ | refine LeO.fa rfl rfl (by first | rfl | fail) ?_ | fail)), rfl, rfl⟩
end Go.Proofs.YtgloielnnakknaaDoor
namespace Go.Proofs.YtgloielnnakknaaDoor
open Go.RowKit
abbrev stB (k : Nat) (tk : Int) (tn tp : ByteArray) : Nat × Ob := (k, .bx 51 [.u (.int .i64 tk), .u (.str tn), .u (.str tp)])
set_option maxHeartbeats 8000000 in
theorem stepB_R {us : List Un} (hU : Uok us) {R : Wd → Nat → Wd} (hP : RPR us R) (n : Nat) (hn : n ≤ 6000) (hC : LoaCR us R n) (ms : List Rm) (log : List Ev) (i : Nat) (tk : Int) (tn tp : ByteArray) (zm : List Rm) (zl : List Ev) (zk : Bool) (hI : InvR us ⟨ms, log, true⟩) (h1 : M1 ⟨ms, log, true⟩) (hB : RunBR ⟨ms, log, true⟩ n) (hi : i < ms.length) (hL : 5001 - log.length ≤ n) (hk1 : ¬ tk = 1) (hk2 : ¬ tk = 2) (hk5 : ¬ tk = 5) (ht : tn.size ≤ 60 ∧ tp.size ≤ 60) (hr : stepR R us ⟨ms, log, true⟩ i ⟨tk, tn, tp⟩ = ⟨zm, zl, zk⟩) :
    CallsA Tryd.prog 43 [wdA us ⟨ms, log, true⟩, di i, .a [.u (.int .i64 tk), .u (.str tn), .u (.str tp)]] (wdO ⟨ms, log, true⟩) (Iso (wdA us ⟨zm, zl, zk⟩) (wdO ⟨zm, zl, zk⟩)) := by
  obtain ⟨ht1, ht2⟩ := ht
  have hul : us.length ≤ 1000000 := by have := hU.len; omega
  unfold stepR at hr
  dsimp only at hr
  rw [if_neg hk1, if_neg hk2, if_neg hk5] at hr
  obtain ⟨hgo, hpo⟩ := loadR_C hP hI h1 tn
  have hcut := split46_R tn (by omega)
  obtain ⟨xm, xl, xk, hx⟩ : ∃ xm xl xk, loadR R us ⟨ms, log, true⟩ none (chainM tn) = ⟨xm, xl, xk⟩ := ⟨_, _, _, rfl⟩
  have hload := hC ms log tn xm xl xk hI h1 hB hL (by omega) hx
  rw [hx] at hr hgo hpo
  dsimp only at hr
  have hxl := hgo.lb rfl
  have hxm : xm.length ≤ xl.length + 1 := hgo.m1
  dsimp only at hxl
  cases xk
  · rw [if_neg (by simp)] at hr
    injection hr with r1 r2 r3
    subst r1 r2 r3
    refine callsA_of_vcO (T := tt) Tryd.func43 rfl rfl rfl rfl rfl ?_
    repeat' ((conv => whnf); first | refine Gs.id ?_ | with_reducible refine Brn.T rfl ?_ | refine Brn.F (by (try simp only [smT]); first | rfl | assumption | fail) ?_ | (refine CL.mk (Or.inr (Raw.callI [900,901] [900,901] rfl rfl rfl rfl rfl rfl rfl (hload) ?_)); rintro _ _ ⟨rfl, rfl⟩; refine Bk.mk rfl rfl ?_))
    all_goals (conv => whnf)
    all_goals refine RetO.mk ⟨[(900, .k 900), (901, .k 901)], _, _, (by first | exact LeS.a (by repeat (first | exact LeL.nil | refine LeL.cons (by first | exact LeD.u rfl | exact LeD.ow rfl rfl | fail) ?_)) | fail), (by repeat (first | exact LeO.nil | refine LeO.ar rfl rfl (by first | rfl | fail) ?_ | refine LeO.fa rfl rfl (by first | rfl | fail) ?_ | fail)), rfl, rfl⟩
  · rw [if_pos rfl] at hr
    have hIx := hgo.inv
    have hxo := hIx.okl rfl
    dsimp only at hxo
    have hix : i < xm.length := Nat.lt_of_lt_of_le hi hgo.keep.len
    obtain ⟨⟨a1, a2, a3, a4, a5⟩, hmd⟩ : ∃ m, xm[i]? = some m := ⟨_, List.getElem?_eq_getElem hix⟩
    have hmem := List.mem_of_getElem? hmd
    have hnl := hIx.nlen hU _ hmem
    have hvl := hIx.len _ hmem
    dsimp only at hnl hvl
    refine callsA_of_vcO (T := tt) Tryd.func43 rfl rfl rfl rfl rfl ?_
    refine' cutR (fun z : Bool => z = true) (fun z => ⟨[(1, di i), (3, .d (.p 3 0)), (5, .d (.p 5 0)), (6, .d (.p 6 0))], [(6, wdNl), stB 5 tk tn tp, (3, .bx 39 [.u (uns us), .ow 900 xm.length, .ow 901 xl.length, .u (.bool z)]), (900, .fa 69 5 (xm.map Rm.row)), (901, .ar 43 2 (xl.map Ev.v))]⟩) _ (fun hR => ?_) ?_
    rotate_left
    · repeat' ((conv => whnf); first | exact Gs.cut (i := 18) (by assumption) _ [(3, .k 3), (5, .k 5), (6, .k 6), (900, .k 900), (901, .k 901)] rfl ⟨by (try dsimp only); (repeat (refine LeT.cons rfl (by first | exact LeS.d (by first | exact LeD.u rfl | exact LeD.p rfl | fail) | fail) ?_)); (first | exact LeT.nil | fail), by (try dsimp only); (repeat (first | exact LeO.nil | refine LeO.bx rfl rfl (by repeat (first | exact LeL.nil | refine LeL.cons (by first | exact LeD.u rfl | exact LeD.ow rfl rfl | fail) ?_)) ?_ | refine LeO.ar rfl rfl (by first | rfl | fail) ?_ | refine LeO.fa rfl rfl (by first | rfl | fail) ?_ | fail)); done⟩ (by first | rfl | fail) | refine Gs.id ?_ | with_reducible refine Brn.F rfl ?_ | refine Brn.F (by (try simp only [smT]); first | rfl | assumption | fail) ?_ | (refine CL.mk (Or.inr (Raw.callI [900,901] [900,901] rfl rfl rfl rfl rfl rfl rfl (hload) ?_)); rintro _ _ ⟨rfl, rfl⟩; refine Bk.mk rfl rfl ?_))
      all_goals (conv => whnf)
    intro z hz
    rw [hz]
    clear hz hload
    dsimp only
    by_cases hk3 : tk = 3
    · rw [if_pos hk3] at hr
      simp only [setW, updW, updR_at hmd, modR] at hr
      injection hr with r1 r2 r3
      have hmod := module_V us ⟨xm, xl, true⟩ (cutM tn) (by dsimp only; omega)
      have hset := set_R us xm xl true i ⟨a1, a2, a3, a4, a5⟩ _ (cutM tn) (mix (cutM tn) xm 0) hmd hnl hvl rfl
      dsimp only at hmod
      subst r1 r2 r3
      repeat' ((conv => whnf); first | refine Ix_first ?_ | refine Gs.id ?_ | with_reducible refine And.intro ?_ ?_ | refine Brn.T (by (try simp only [smT]); first | rfl | assumption | fail) ?_ | refine Drw.ofT (T := tt) (i := 20) [0, 3, 5, 6, 7] [1, 2, 4] (OF.fst 1 (OF.fst 2 (OF.fst 4 (OF.alt 0 (OF.alt 3 (OF.alt 5 (OF.alt 6 (OF.alt 7 OF.nil OF.nil) OF.nil) OF.nil) OF.nil) (OF.alt 3 (OF.alt 0 (OF.alt 5 (OF.alt 6 (OF.alt 7 OF.nil OF.nil) OF.nil) OF.nil) (OF.alt 5 (OF.alt 0 (OF.alt 6 (OF.alt 7 OF.nil OF.nil) OF.nil) OF.nil) OF.nil)) OF.nil))))) (by kernel_rfl) ?_ | (refine CL.mk (Or.inl ?_); (conv => whnf); refine Cl.is (hcut) rfl (by first | (intro e; cases e; done) | fail) ?_) | (refine CL.mk (Or.inr (Raw.callR (by repeat (first | exact ArgR.nil | refine ArgR.d rfl (by first | exact BorR.u | fail) ?_ | refine ArgR.a rfl (by repeat (first | exact BorLR.nil | refine BorLR.cons (by first | exact BorR.u | exact BorR.ar rfl (by first | rfl | (simp; done)) | exact BorR.fa rfl (by first | rfl | (simp; done)) (by exact FrR.map (fun _ => by repeat (first | exact FrL.nil | refine FrL.v ?_ | refine FrL.os ?_))) | fail) ?_)) ?_)) rfl (hmod) ⟨_, rfl, rfl⟩ rfl ?_)); refine Bk.mk rfl rfl ?_) | (refine CL.mk (Or.inr (Raw.callI [900,901] [900,901] rfl rfl rfl rfl rfl rfl rfl (hset) ?_)); rintro _ _ ⟨rfl, rfl⟩; refine Bk.mk rfl rfl ?_))
      all_goals (conv => whnf)
      all_goals refine RetO.mk ⟨[(900, .k 900), (901, .k 901)], _, _, (by first | exact LeS.a (by repeat (first | exact LeL.nil | refine LeL.cons (by first | exact LeD.u rfl | exact LeD.ow rfl rfl | fail) ?_)) | fail), (by repeat (first | exact LeO.nil | refine LeO.ar rfl rfl (by first | rfl | fail) ?_ | refine LeO.fa rfl rfl (by first | rfl | fail) ?_ | fail)), rfl, rfl⟩
    · rw [if_neg hk3] at hr
      have hj := hpo rfl
      obtain ⟨⟨b1, b2, b3, b4, b5⟩, j1, _, _, j4⟩ := modR_get hj
      unfold partR at hr
      dsimp only at hr
      generalize (modR ⟨xm, xl, true⟩ tn).toNat = j at j1 j4 hr
      have j5 : mix tn xm 0 = (j : Int) := j4
      dsimp only at j1
      have hmod := module_V us ⟨xm, xl, true⟩ tn (by dsimp only; omega)
      dsimp only at hmod
      rw [j5] at hmod
      have hbm := List.mem_of_getElem? j1
      have hjl := lt_get j1
      have hbn := hIx.nlen hU _ hbm
      have hbv := hIx.len _ hbm
      dsimp only at hbn hbv
      have hbr : (xm.map Rm.row)[j]? = some (Rm.row ⟨b1, b2, b3, b4, b5⟩) := by simp [j1]
      have hat := attribute_V ⟨b1, b2, b3, b4, b5⟩ tp hbn
      dsimp only at hat
      have hsx : sixR ⟨xm, xl, true⟩ j tp = six tp b4 0 := by simp [sixR, nmsR, j1]
      rw [hsx] at hr
      rcases six_cases tp b4 0 with ⟨q1, _⟩ | ⟨kk, q1, q2, _⟩
      · rw [q1] at hat
        rw [q1, if_neg (by omega)] at hr
        have hd1 : dot.size = 1 := rfl
        have hws : (wholeB ⟨tk, tn, tp⟩).size ≤ 121 := by simp only [wholeB, ByteArray.size_append, hd1]; omega
        have hwe : wholeB ⟨tk, tn, tp⟩ = tn ++ dot ++ tp := rfl
        rw [hwe] at hr hws
        have hcat : (tn ++ dot).size ≤ 61 := by simp only [ByteArray.size_append, hd1]; omega
        have hua := unitAt_V us (tn ++ dot ++ tp) hul
        rcases uix_cases (tn ++ dot ++ tp) us 0 with ⟨u1, u2⟩ | ⟨ku, _, _, u1, u2, _⟩
        · rw [u1] at hua
          rw [u2, if_neg (by simp), failW] at hr
          injection hr with r1 r2 r3
          dsimp only at r1 r2
          subst r1 r2 r3
          repeat' ((conv => whnf); first | refine Rw_rm j1 ?_ | refine Cat.mk (by have hd2 : (⟨#[46]⟩ : ByteArray).size = 1 := rfl; unfold maxLen; simp only [ByteArray.size_append, hd2]; omega) ?_ | refine Gs.id ?_ | with_reducible refine Brn.T rfl ?_ | with_reducible refine Brn.F rfl ?_ | refine Brn.F (by (try simp only [smT]); first | rfl | assumption | fail) ?_ | refine Ixo.mk ⟨_, rfl, (by (try simp only [smT]); omega), ?_⟩ | refine Drw.of (T := tt) (i := 22) [7, 8] [] [(0, true), (1, true), (2, true), (3, true), (4, true), (5, true), (6, true), (7, false), (8, false)] (by kernel_rfl) ?_ | (refine CL.mk (Or.inl ?_); (conv => whnf); refine Cl.is (hua _ rfl) rfl (by first | exact fun _ => rfl | fail) ?_) | (refine CL.mk (Or.inr (Raw.callR (by repeat (first | exact ArgR.nil | refine ArgR.d rfl (by first | exact BorR.u | fail) ?_ | refine ArgR.a rfl (by repeat (first | exact BorLR.nil | refine BorLR.cons (by first | exact BorR.u | exact BorR.ar rfl (by first | rfl | (simp; done)) | exact BorR.fa rfl (by first | rfl | (simp; done)) (by exact FrR.map (fun _ => by repeat (first | exact FrL.nil | refine FrL.v ?_ | refine FrL.os ?_))) | fail) ?_)) ?_)) rfl (hmod) ⟨_, rfl, rfl⟩ rfl ?_)); refine Bk.mk rfl rfl ?_) | (refine CL.mk (Or.inr (Raw.callR (by repeat (first | exact ArgR.nil | refine ArgR.d rfl (by first | exact BorR.u | fail) ?_ | refine ArgR.a rfl (by repeat (first | exact BorLR.nil | refine BorLR.cons (by first | exact BorR.u | exact BorR.rf rfl (by first | assumption | fail) rfl (by first | rfl | fail)) ?_)) ?_)) rfl (hat) ⟨_, rfl, rfl⟩ rfl ?_)); refine Bk.mk rfl rfl ?_))
          all_goals (conv => whnf)
          all_goals refine RetO.mk ⟨[(900, .k 900), (901, .k 901)], _, _, (by first | exact LeS.a (by repeat (first | exact LeL.nil | refine LeL.cons (by first | exact LeD.u rfl | exact LeD.ow rfl rfl | fail) ?_)) | fail), (by repeat (first | exact LeO.nil | refine LeO.ar rfl rfl (by first | rfl | fail) ?_ | refine LeO.fa rfl rfl (by first | rfl | fail) ?_ | fail)), rfl, rfl⟩
        · rw [u1, Nat.zero_add] at hua
          rw [u2, if_pos rfl] at hr
          obtain ⟨hg2, hp2⟩ := loadR_C hP hIx hgo.m1 (tn ++ dot ++ tp)
          have hB2 : RunBR ⟨xm, xl, true⟩ n := hgo.keep.runB hB (by omega)
          have hlk : log.length ≤ xl.length := hgo.keep.log
          obtain ⟨ym, yl, yk, hy⟩ : ∃ ym yl yk, loadR R us ⟨xm, xl, true⟩ none (chainM (tn ++ dot ++ tp)) = ⟨ym, yl, yk⟩ := ⟨_, _, _, rfl⟩
          have hload2 := hC xm xl (tn ++ dot ++ tp) ym yl yk hIx hgo.m1 hB2 (by omega) (by omega) hy
          rw [hy] at hr hg2 hp2
          dsimp only at hr
          have hyl := hg2.lb rfl
          have hym : ym.length ≤ yl.length + 1 := hg2.m1
          dsimp only at hyl
          cases yk
          · rw [if_neg (by simp)] at hr
            injection hr with r1 r2 r3
            subst r1 r2 r3
            repeat' ((conv => whnf); first | refine Rw_rm j1 ?_ | refine Cat.mk (by have hd2 : (⟨#[46]⟩ : ByteArray).size = 1 := rfl; unfold maxLen; simp only [ByteArray.size_append, hd2]; omega) ?_ | refine Gs.id ?_ | with_reducible refine Brn.F rfl ?_ | refine Brn.F (by (try simp only [smT]); first | rfl | assumption | fail) ?_ | refine Ixo.mk ⟨_, rfl, (by (try simp only [smT]); omega), ?_⟩ | refine Drw.of (T := tt) (i := 22) [7, 8] [] [(0, true), (1, true), (2, true), (3, true), (4, true), (5, true), (6, true), (7, false), (8, false)] (by kernel_rfl) ?_ | (refine CL.mk (Or.inl ?_); (conv => whnf); refine Cl.is (hua _ rfl) rfl (by first | exact fun _ => rfl | fail) ?_) | (refine CL.mk (Or.inr (Raw.callI [900,901] [900,901] rfl rfl rfl rfl rfl rfl rfl (hload2) ?_)); rintro _ _ ⟨rfl, rfl⟩; refine Bk.mk rfl rfl ?_) | (refine CL.mk (Or.inr (Raw.callR (by repeat (first | exact ArgR.nil | refine ArgR.d rfl (by first | exact BorR.u | fail) ?_ | refine ArgR.a rfl (by repeat (first | exact BorLR.nil | refine BorLR.cons (by first | exact BorR.u | exact BorR.ar rfl (by first | rfl | (simp; done)) | exact BorR.fa rfl (by first | rfl | (simp; done)) (by exact FrR.map (fun _ => by repeat (first | exact FrL.nil | refine FrL.v ?_ | refine FrL.os ?_))) | fail) ?_)) ?_)) rfl (hmod) ⟨_, rfl, rfl⟩ rfl ?_)); refine Bk.mk rfl rfl ?_) | (refine CL.mk (Or.inr (Raw.callR (by repeat (first | exact ArgR.nil | refine ArgR.d rfl (by first | exact BorR.u | fail) ?_ | refine ArgR.a rfl (by repeat (first | exact BorLR.nil | refine BorLR.cons (by first | exact BorR.u | exact BorR.rf rfl (by first | assumption | fail) rfl (by first | rfl | fail)) ?_)) ?_)) rfl (hat) ⟨_, rfl, rfl⟩ rfl ?_)); refine Bk.mk rfl rfl ?_))
            all_goals (conv => whnf)
            all_goals refine RetO.mk ⟨[(900, .k 900), (901, .k 901)], _, _, (by first | exact LeS.a (by repeat (first | exact LeL.nil | refine LeL.cons (by first | exact LeD.u rfl | exact LeD.ow rfl rfl | fail) ?_)) | fail), (by repeat (first | exact LeO.nil | refine LeO.ar rfl rfl (by first | rfl | fail) ?_ | refine LeO.fa rfl rfl (by first | rfl | fail) ?_ | fail)), rfl, rfl⟩
          · rw [if_pos rfl] at hr
            have hiy : i < ym.length := Nat.lt_of_lt_of_le hix hg2.keep.len
            obtain ⟨⟨c1, c2, c3, c4, c5⟩, hmd2⟩ : ∃ m, ym[i]? = some m := ⟨_, List.getElem?_eq_getElem hiy⟩
            have hmem2 := List.mem_of_getElem? hmd2
            have hnl2 := hg2.inv.nlen hU _ hmem2
            have hvl2 := hg2.inv.len _ hmem2
            dsimp only at hnl2 hvl2
            simp only [setW, updW, updR_at hmd2, modR] at hr
            injection hr with r1 r2 r3
            have hmod2 := module_V us ⟨ym, yl, true⟩ (tn ++ dot ++ tp) (by dsimp only; omega)
            have hset2 := set_R us ym yl true i ⟨c1, c2, c3, c4, c5⟩ _ tp (mix (tn ++ dot ++ tp) ym 0) hmd2 hnl2 hvl2 rfl
            dsimp only at hmod2
            subst r1 r2 r3
            refine' cutR (fun z : Bool => z = true) (fun z => ⟨[(1, di i), (3, .d (.p 3 0)), (5, .d (.p 5 0)), (6, .d (.p 6 0)), (12, dsr (tn ++ dot ++ tp))], [(6, wdNl), stB 5 tk tn tp, (3, .bx 39 [.u (uns us), .ow 900 ym.length, .ow 901 yl.length, .u (.bool z)]), (900, .fa 69 5 (ym.map Rm.row)), (901, .ar 43 2 (yl.map Ev.v))]⟩) _ (fun hR2 => ?_) ?_
            rotate_left
            · repeat' ((conv => whnf); first | refine Rw_rm j1 ?_ | refine Cat.mk (by have hd2 : (⟨#[46]⟩ : ByteArray).size = 1 := rfl; unfold maxLen; simp only [ByteArray.size_append, hd2]; omega) ?_ | exact Drw.cut (i := 31) (by assumption) _ [(3, .k 3), (5, .k 5), (6, .k 6), (900, .k 900), (901, .k 901)] rfl ⟨by (try dsimp only); (repeat (refine LeT.cons rfl (by first | exact LeS.d (by first | exact LeD.u rfl | exact LeD.p rfl | fail) | fail) ?_)); (first | exact LeT.nil | fail), by (try dsimp only); (repeat (first | exact LeO.nil | refine LeO.bx rfl rfl (by repeat (first | exact LeL.nil | refine LeL.cons (by first | exact LeD.u rfl | exact LeD.ow rfl rfl | fail) ?_)) ?_ | refine LeO.ar rfl rfl (by first | rfl | fail) ?_ | refine LeO.fa rfl rfl (by first | rfl | fail) ?_ | fail)); done⟩ (by first | rfl | fail) | refine Gs.id ?_ | with_reducible refine Brn.T rfl ?_ | with_reducible refine Brn.F rfl ?_ | refine Brn.F (by (try simp only [smT]); first | rfl | assumption | fail) ?_ | refine Ixo.mk ⟨_, rfl, (by (try simp only [smT]); omega), ?_⟩ | refine Drw.of (T := tt) (i := 22) [7, 8] [] [(0, true), (1, true), (2, true), (3, true), (4, true), (5, true), (6, true), (7, false), (8, false)] (by kernel_rfl) ?_ | (refine CL.mk (Or.inl ?_); (conv => whnf); refine Cl.is (hua _ rfl) rfl (by first | exact fun _ => rfl | fail) ?_) | (refine CL.mk (Or.inr (Raw.callI [900,901] [900,901] rfl rfl rfl rfl rfl rfl rfl (hload2) ?_)); rintro _ _ ⟨rfl, rfl⟩; refine Bk.mk rfl rfl ?_) | (refine CL.mk (Or.inr (Raw.callR (by repeat (first | exact ArgR.nil | refine ArgR.d rfl (by first | exact BorR.u | fail) ?_ | refine ArgR.a rfl (by repeat (first | exact BorLR.nil | refine BorLR.cons (by first | exact BorR.u | exact BorR.ar rfl (by first | (simp; done)) | exact BorR.fa rfl (by first | (simp; done)) (by exact FrR.map (fun _ => by repeat (first | exact FrL.nil | refine FrL.v ?_ | refine FrL.os ?_))) | fail) ?_)) ?_)) rfl (hmod) ⟨_, rfl, rfl⟩ rfl ?_)); refine Bk.mk rfl rfl ?_) | (refine CL.mk (Or.inr (Raw.callR (by repeat (first | exact ArgR.nil | refine ArgR.d rfl (by first | exact BorR.u | fail) ?_ | refine ArgR.a rfl (by repeat (first | exact BorLR.nil | refine BorLR.cons (by first | exact BorR.u | exact BorR.rf rfl (by first | assumption | fail) rfl (by first | rfl | fail)) ?_)) ?_)) rfl (hat) ⟨_, rfl, rfl⟩ rfl ?_)); refine Bk.mk rfl rfl ?_))
              all_goals (conv => whnf)
            intro z hz
            rw [hz]
            clear hz hload2 hat hmod
            dsimp only
            repeat' ((conv => whnf); first | refine Gs.id ?_ | with_reducible refine And.intro ?_ ?_ | refine Drw.ofT (T := tt) (i := 31) [0, 3, 4, 6, 7, 8] [1, 2, 5] (OF.fst 1 (OF.fst 2 (OF.fst 5 (OF.alt 0 (OF.alt 3 (OF.alt 4 (OF.alt 6 (OF.alt 7 (OF.alt 8 OF.nil OF.nil) OF.nil) OF.nil) OF.nil) (OF.alt 4 (OF.alt 3 (OF.alt 6 (OF.alt 7 (OF.alt 8 OF.nil OF.nil) OF.nil) OF.nil) (OF.alt 6 (OF.alt 3 (OF.alt 7 (OF.alt 8 OF.nil OF.nil) OF.nil) OF.nil) OF.nil)) OF.nil)) (OF.alt 3 (OF.alt 0 (OF.alt 4 (OF.alt 6 (OF.alt 7 (OF.alt 8 OF.nil OF.nil) OF.nil) OF.nil) OF.nil) (OF.alt 4 (OF.alt 0 (OF.alt 6 (OF.alt 7 (OF.alt 8 OF.nil OF.nil) OF.nil) OF.nil) (OF.alt 6 (OF.alt 0 (OF.alt 7 (OF.alt 8 OF.nil OF.nil) OF.nil) OF.nil) OF.nil)) OF.nil)) (OF.alt 4 (OF.alt 0 (OF.alt 3 (OF.alt 6 (OF.alt 7 (OF.alt 8 OF.nil OF.nil) OF.nil) OF.nil) (OF.alt 6 (OF.alt 3 (OF.alt 7 (OF.alt 8 OF.nil OF.nil) OF.nil) OF.nil) OF.nil)) (OF.alt 3 (OF.alt 0 (OF.alt 6 (OF.alt 7 (OF.alt 8 OF.nil OF.nil) OF.nil) OF.nil) (OF.alt 6 (OF.alt 0 (OF.alt 7 (OF.alt 8 OF.nil OF.nil) OF.nil) OF.nil) OF.nil)) (OF.alt 6 (OF.alt 0 (OF.alt 3 (OF.alt 7 (OF.alt 8 OF.nil OF.nil) OF.nil) OF.nil) (OF.alt 3 (OF.alt 0 (OF.alt 7 (OF.alt 8 OF.nil OF.nil) OF.nil) OF.nil) OF.nil)) OF.nil))) OF.nil)))))) (by kernel_rfl) ?_ | (refine CL.mk (Or.inr (Raw.callR (by repeat (first | exact ArgR.nil | refine ArgR.d rfl (by first | exact BorR.u | fail) ?_ | refine ArgR.a rfl (by repeat (first | exact BorLR.nil | refine BorLR.cons (by first | exact BorR.u | exact BorR.ar rfl (by first | rfl | (simp; done)) | exact BorR.fa rfl (by first | rfl | (simp; done)) (by exact FrR.map (fun _ => by repeat (first | exact FrL.nil | refine FrL.v ?_ | refine FrL.os ?_))) | fail) ?_)) ?_)) rfl (hmod2) ⟨_, rfl, rfl⟩ rfl ?_)); refine Bk.mk rfl rfl ?_) | (refine CL.mk (Or.inr (Raw.callI [900,901] [900,901] rfl rfl rfl rfl rfl rfl rfl (hset2) ?_)); rintro _ _ ⟨rfl, rfl⟩; refine Bk.mk rfl rfl ?_))
            all_goals (conv => whnf)
            all_goals refine RetO.mk ⟨[(900, .k 900), (901, .k 901)], _, _, (by first | exact LeS.a (by repeat (first | exact LeL.nil | refine LeL.cons (by first | exact LeD.u rfl | exact LeD.ow rfl rfl | fail) ?_)) | fail), (by repeat (first | exact LeO.nil | refine LeO.ar rfl rfl (by first | rfl | fail) ?_ | refine LeO.fa rfl rfl (by first | rfl | fail) ?_ | fail)), rfl, rfl⟩
      · rw [q2, Nat.zero_add] at hat
        have hkk := lt_get q1
        obtain ⟨vv, hvv⟩ : ∃ v, b5[kk]? = some v := ⟨_, List.getElem?_eq_getElem (by omega)⟩
        have hvl3 : valR ⟨xm, xl, true⟩ j ((kk : Nat) : Int) = vv := by simp [valR, valsR, j1, hvv]
        rw [q2, Nat.zero_add, if_pos (by omega), hvl3] at hr
        simp only [setW, updW, updR_at hmd] at hr
        injection hr with r1 r2 r3
        have hset := set_R us xm xl true i ⟨a1, a2, a3, a4, a5⟩ _ tp vv hmd hnl hvl rfl
        subst r1 r2 r3
        repeat' ((conv => whnf); first | refine Rw_rm j1 ?_ | refine Rw_i1 hvv ?_ | refine Gs.id ?_ | with_reducible refine Brn.T rfl ?_ | refine Brn.F (by (try simp only [smT]); first | rfl | assumption | fail) ?_ | refine Ixo.mk ⟨_, rfl, (by (try simp only [smT]); omega), ?_⟩ | refine Drw.of (T := tt) (i := 22) [7, 8] [] [(0, true), (1, true), (2, true), (3, true), (4, true), (5, true), (6, true), (7, false), (8, false)] (by kernel_rfl) ?_ | refine Drw.of (T := tt) (i := 24) [13, 14] [] [(0, true), (1, true), (2, true), (3, true), (4, true), (5, true), (6, true), (7, true), (8, true), (9, true), (10, true), (11, true), (12, true), (13, false), (14, false)] (by kernel_rfl) ?_ | (refine CL.mk (Or.inr (Raw.callR (by repeat (first | exact ArgR.nil | refine ArgR.d rfl (by first | exact BorR.u | fail) ?_ | refine ArgR.a rfl (by repeat (first | exact BorLR.nil | refine BorLR.cons (by first | exact BorR.u | exact BorR.ar rfl (by first | rfl | (simp; done)) | exact BorR.fa rfl (by first | rfl | (simp; done)) (by exact FrR.map (fun _ => by repeat (first | exact FrL.nil | refine FrL.v ?_ | refine FrL.os ?_))) | fail) ?_)) ?_)) rfl (hmod) ⟨_, rfl, rfl⟩ rfl ?_)); refine Bk.mk rfl rfl ?_) | (refine CL.mk (Or.inr (Raw.callR (by repeat (first | exact ArgR.nil | refine ArgR.d rfl (by first | exact BorR.u | fail) ?_ | refine ArgR.a rfl (by repeat (first | exact BorLR.nil | refine BorLR.cons (by first | exact BorR.u | exact BorR.rf rfl (by first | assumption | fail) rfl (by first | rfl | fail)) ?_)) ?_)) rfl (hat) ⟨_, rfl, rfl⟩ rfl ?_)); refine Bk.mk rfl rfl ?_) | (refine CL.mk (Or.inr (Raw.callI [900,901] [900,901] rfl rfl rfl rfl rfl rfl rfl (hset) ?_)); rintro _ _ ⟨rfl, rfl⟩; refine Bk.mk rfl rfl ?_))
        all_goals (conv => whnf)
        all_goals refine RetO.mk ⟨[(900, .k 900), (901, .k 901)], _, _, (by first | exact LeS.a (by repeat (first | exact LeL.nil | refine LeL.cons (by first | exact LeD.u rfl | exact LeD.ow rfl rfl | fail) ?_)) | fail), (by repeat (first | exact LeO.nil | refine LeO.ar rfl rfl (by first | rfl | fail) ?_ | refine LeO.fa rfl rfl (by first | rfl | fail) ?_ | fail)), rfl, rfl⟩
theorem step_R {us : List Un} (hU : Uok us) {R : Wd → Nat → Wd} (hP : RPR us R) (n : Nat) (hn : n ≤ 6000) (hC : RunCR us R n) : SteCR us (stepR R us) n := by
  intro ms log i t zm zl zk hI h1 hB hi ht hL hz
  obtain ⟨u, hu, htu⟩ := ht
  have hs := hU.step u hu t htu
  obtain ⟨tk, tn, tp⟩ := t
  by_cases hk : tk = 1 ∨ tk = 2 ∨ tk = 5
  · exact stepA_R hU n hC ms log i tk tn tp zm zl zk hI h1 hB hi hL hk hz
  · exact stepB_R hU hP n hn (load_R hU hP n hn hC) ms log i tk tn tp zm zl zk hI h1 hB hi hL (fun e => hk (.inl e)) (fun e => hk (.inr (.inl e))) (fun e => hk (.inr (.inr e))) hs hz
theorem runMR_C {us : List Un} (hU : Uok us) : ∀ n, n ≤ 6000 → RunCR us (runMR us n) n
  | 0, _ => fun ms log i zm zl zk hI h2 hB hi hL hr => by
    have := hI.okl rfl
    dsimp only at this
    omega
  | n + 1, hn => run_R hU (stepR_P (runMR_P us n)) n (by omega) (step_R hU (runMR_P us n) n (by omega) (runMR_C hU n (by omega)))
end Go.Proofs.YtgloielnnakknaaDoor
namespace Go.Proofs.YtgloielnnakknaaDoor
open Go.RowKit
section
variable {P : Program} {T : List (Nat × Ty)} [hT : Tys P T] {nt : Nat} {K : Kt} {c : Cx} {st : St} {tm : List (Nat × Value)} {ρ : Rho} {G : FG}
omit hT in
theorem DenL.put {ρ : Rho} {z : Fz} {ds : List D} {us : List Value} {i : Nat} {d : D} (h : DenL ρ z ds us) (hd : ∀ u, us[i]? = some u → Den ρ z d u) : DenL ρ z (ds.set i d) us :=
  ⟨by rw [List.length_set]; exact h.len, h.one, fun j d' u h1 h2 => by
    rw [List.getElem?_set] at h1
    by_cases hij : i = j
    · subst hij
      rw [if_pos rfl] at h1
      split at h1
      · injection h1 with h1; subst h1; exact hd u h2
      · cases h1
    · rw [if_neg hij] at h1
      exact h.den j d' u h1 h2⟩
omit hT in
theorem Ghost.nlOwA {tmT : List (Nat × SV)} {ob : List (Nat × Ob)} (t i K0 e sz : Nat) {ds : List D} (hx : lk t tmT = some (.a ds)) (hi : ds[i]? = some (.u .nl)) (hn : newN K0 tmT ob = true) : Ghost tmT ob ((t, .a (ds.set i (.ow K0 0))) :: tmT) ((K0, .ar e sz []) :: ob) := ⟨fun c tm h ρ G w g hw => by
  obtain ⟨F, w0, hp⟩ := h
  obtain ⟨vx, x1, x2⟩ := g.tm t _ hx
  have ho : ObOk (upd ρ K0 ⟨none, 0, sz⟩) ⟨G, w0⟩ K0 (.ar e sz []) [] := ⟨none, 0, [], rfl, upd_self, OkA.nil sz, .nil, by simp⟩
  have g1 := g.new hn ho
  obtain ⟨vy, y1, y2⟩ := g1.tm t _ hx
  rw [x1] at y1
  injection y1 with y1
  subst y1
  cases x2 with | a x2 =>
  cases y2 with | a y2 =>
  refine ⟨⟨F, w0, hp⟩, _, G, g1.slot x1 (.a (y2.put fun u hu => ?_)), hw⟩
  have q := x2.den i _ u hi hu
  cases q with | u q => cases q with | nl =>
  exact .ow (l := ⟨none, 0, sz⟩) upd_self (fun _ => rfl) (Nat.zero_le _)⟩
omit hT in
theorem Ghost.toFaA {tmT tmK : List (Nat × SV)} {ob obF : List (Nat × Ob)} (k0 t i : Nat) (sp : List (Nat × (Nat × Nat))) {ds : List D} {k n e sz : Nat} {rs : List (List V)} (hx : lk t tmT = some (.a ds)) (hi : ds[i]? = some (.ow k n)) (hds : okL (nB2 k k0) (ds.set i (.u .nl)) = true) (hk : lk k ob = some (.ar e sz rs)) (hTm : keepTm (nB2 k k0) [] tmT = tmK) (hO : cleanOb (nB2 k k0) (obr k ob) = obF) (hok : okO (nB2 k k0) obF = true) :
    Ghost tmT ob ((t, .a (ds.set i (.ow k0 n))) :: tmK) ((k0, .fa e sz (rs.map (mkE sp 0))) :: obF) := ⟨fun c tm h ρ G w g hw => by
  subst hTm hO
  obtain ⟨F, w0, hp⟩ := h
  obtain ⟨vx, q1, q2⟩ := g.tm t _ hx
  obtain ⟨X1, f1, ⟨A, cc, us, rfl, b2, b3, b4, b5⟩, b6, _, b8⟩ := g.ob.set hk
  have hp1 : hp.Perm (hbA A e us cc sz ++ f1 []) := by have := b6.perm (hbA A e us cc sz); rwa [b6.eq] at this
  cases q2 with | @a _ us2 q2 =>
  have hob : ObOk (upd (newOsA ρ k0 sp) k0 ⟨A, cc, sz⟩) ⟨G, w0⟩ k0 (.fa e sz (rs.map (mkE sp 0))) (hbA A e us cc sz) :=
    ⟨A, cc, us, [], by simp, upd_self, by rw [List.length_map]; exact b3, (rows_mkE b4 b5).congr fun _ _ => rfl, fun r hr => by
      obtain ⟨r', h1, rfl⟩ := List.mem_map.1 hr
      rw [mkE_len]; exact b5 r' h1⟩
  have e1 : ∀ j, nB2 k k0 j = true → (upd (newOsA ρ k0 sp) k0 ⟨A, cc, sz⟩) j = ρ j := fun j hj => (upd_ne (nB2_ne' hj)).trans rfl
  have e2 : ∀ j, nB2 k k0 j = true → ∀ i o, (upd (newOsA ρ k0 sp) k0 ⟨A, cc, sz⟩).os j i o = ρ.os j i o := fun j hj i o => by show (newOsA ρ k0 sp).os j i o = _; simp [newOsA, (nB2_ne hj).2]
  have hden : DenL (upd (newOsA ρ k0 sp) k0 ⟨A, cc, sz⟩) ⟨G, w0⟩ (ds.set i (.ow k0 n)) us2 := by
    refine ⟨by rw [List.length_set]; exact q2.len, q2.one, fun j d' u h1 h2 => ?_⟩
    rw [List.getElem?_set] at h1
    by_cases hij : i = j
    · subst hij
      rw [if_pos rfl] at h1
      split at h1
      · injection h1 with h1
        subst h1
        have q := q2.den i _ u hi h2
        cases q with | @ow _ _ l h0 hA hnc =>
        rw [h0] at b2
        injection b2 with b2; subst b2
        exact .ow (l := ⟨A, cc, sz⟩) upd_self hA hnc
      · cases h1
    · rw [if_neg hij] at h1
      have hd : d'.okP (nB2 k k0) = true := okL_get hds j d' (by rw [List.getElem?_set, if_neg hij]; exact h1)
      exact (q2.den j d' u h1 h2).okP e1 e2 hd
  have g1 := (Gd.anew (st := ⟨tmT, obr k ob⟩) (hp := f1 []) ⟨g.fF, g.fw, g.gF, g.gx, g.fm, g.tm, b8⟩ (p := nB2 k k0) (ρ' := upd (newOsA ρ k0 sp) k0 ⟨A, cc, sz⟩) e1 e2 hok hob).slot (t := t) (s := .a (ds.set i (.ow k0 n))) q1 (.a hden)
  exact ⟨_, _, G, g1, hw.perm hp1⟩⟩
end
end Go.Proofs.YtgloielnnakknaaDoor
namespace Go.Proofs.YtgloielnnakknaaDoor
open Go.RowKit
def initR : Wd := ⟨[⟨mainB, 0, false, [], []⟩], [], true⟩
def finR (l : List Un) : Wd := runMR l 5001 initR 0
theorem initR_inv {l : List Un} (h : (validateM l).1 = 0) : InvR l initR ∧ RunBR initR 5001 := by
  obtain ⟨_, _, h3, h4, _⟩ := valid_Uok h
  obtain ⟨u, hu⟩ : ∃ u, l[0]? = some u := ⟨_, List.getElem?_eq_getElem h3⟩
  have hm := hasU_of (List.mem_of_getElem? hu)
  rw [h4 u hu] at hm
  refine ⟨⟨fun _ => by simp [initR], fun m hm' => ?_, fun m hm' => ?_, fun m hm' => ?_, fun m hm' => ?_⟩, fun m hm' => ?_⟩ <;> simp only [initR, List.mem_singleton] at hm' <;> subst hm'
  · exact hm
  · simp
  · simp
  · rfl
  · dsimp only; omega
set_option maxHeartbeats 2000000 in
theorem loaded_R (l : List Un) (h : (validateM l).1 = 0) (zm : List Rm) (zl : List Ev) (zk : Bool) (hz : finR l = ⟨zm, zl, zk⟩) : CallsA Tryd.prog 17 [.d (.u (uns l))] [] (Iso (.t [.a [.u (uns l), .ow 900 zm.length, .ow 901 zl.length, .u (.bool zk)], .d (.u (.bool (decide ((zl.length : Int) ≤ 5000))))]) (wdO ⟨zm, zl, zk⟩)) := by
  obtain ⟨hU, _⟩ := valid_Uok h
  obtain ⟨hI, hB⟩ := initR_inv h
  have hrun := runMR_C hU 5001 (by omega) [⟨mainB, 0, false, [], []⟩] [] 0 zm zl zk hI (by simp) hB (by simp) (by simp) hz
  have hg := runMR_P l 5001 initR 0 hI rfl (by simp [initR]) (by simp [initR])
  have hzl : zl.length ≤ 20000 := by
    have h1 := hg.lb rfl
    have h2 : (runMR l 5001 initR 0).log = zl := by rw [show runMR l 5001 initR 0 = finR l from rfl, hz]
    rw [h2] at h1
    simp only [initR, List.length_nil] at h1
    omega
  clear hg hB hI hz
  refine callsA_of_vcO (T := tt) Tryd.func17 rfl rfl rfl rfl rfl ?_
  repeat' ((conv => whnf); first | (refine CL.mk (Or.inr (Raw.ghost (Ghost.nlOwA 9 2 901 43 2 rfl rfl rfl) ?_)); refine Raw.ghost (Ghost.toFaA 900 9 1 [(3, (9, 1)), (4, (3, 1))] rfl rfl rfl rfl rfl rfl rfl) ?_; refine (Raw.callI [900, 901] [900, 901] rfl rfl rfl rfl rfl rfl rfl hrun ?_); rintro _ _ ⟨rfl, rfl⟩; refine Bk.mk rfl rfl ?_) | refine Gs.id ?_ | with_reducible refine And.intro ?_ ?_ | (refine Bnd.mk (fun hm => ?_); (try simp only [smT] at hm)) | refine Drw.ofT (T := tt) (i := 3) [0, 2, 3, 5] [1, 4, 6] (OF.fst 1 (OF.alt 0 (OF.alt 2 (OF.alt 3 (OF.fst 4 (OF.alt 5 (OF.fst 6 OF.nil) OF.nil)) (OF.alt 5 (OF.alt 3 (OF.fst 4 (OF.fst 6 OF.nil)) OF.nil) OF.nil)) (OF.alt 5 (OF.alt 2 (OF.alt 3 (OF.fst 4 (OF.fst 6 OF.nil)) OF.nil) OF.nil) OF.nil)) (OF.alt 2 (OF.alt 0 (OF.alt 3 (OF.fst 4 (OF.alt 5 (OF.fst 6 OF.nil) OF.nil)) (OF.alt 5 (OF.alt 3 (OF.fst 4 (OF.fst 6 OF.nil)) OF.nil) OF.nil)) (OF.alt 3 (OF.fst 4 (OF.alt 0 (OF.alt 5 (OF.fst 6 OF.nil) OF.nil) OF.nil)) OF.nil)) OF.nil))) (by kernel_rfl) ?_)
  all_goals (conv => whnf)
  all_goals refine RetO.mk ⟨[(900, .k 900), (901, .k 901)], _, _, (by exact LeS.ts (by repeat (first | exact LeCs.nil | refine LeCs.cons (by first | exact LeC.d (by first | exact LeD.u rfl | fail) | exact LeC.a (by repeat (first | exact LeL.nil | refine LeL.cons (by first | exact LeD.u rfl | exact LeD.ow rfl rfl | fail) ?_))) ?_))), (by repeat (first | exact LeO.nil | refine LeO.ar rfl rfl (by first | rfl | fail) ?_ | refine LeO.fa rfl rfl (by first | rfl | fail) ?_ | fail)), rfl, rfl⟩
end Go.Proofs.YtgloielnnakknaaDoor
namespace Go.Proofs.YtgloielnnakknaaDoor
open Go.RowKit
def pvR : Option Nat → Int
  | none => -1
  | some j => j
def toR (m : Md) (g : Bool) : Rm := ⟨m.name, m.run, g, m.ats.map At.name, m.ats.map fun a => pvR a.mod⟩
structure RelW (s : Ld) (w : Wd) : Prop where
  get : ∀ i : Nat, w.mods[i]? = (s.mods[i]?).map fun m => toR m (!s.table.contains i)
  srt : s.table.Pairwise (· < ·)
  log : w.log = s.log
def Sim (p : Ld × Bool) (w : Wd) : Prop := (p.1.full = true ∧ 5000 < w.log.length ∧ w.ok = false) ∨ (p.1.full = false ∧ RelW p.1 w ∧ w.ok = p.2)
theorem RelW.len {s : Ld} {w : Wd} (h : RelW s w) : w.mods.length = s.mods.length := by
  have h1 := h.get s.mods.length
  have h2 := h.get w.mods.length
  rw [List.getElem?_eq_none (Nat.le_refl s.mods.length)] at h1
  rw [List.getElem?_eq_none (Nat.le_refl w.mods.length)] at h2
  have h3 := List.getElem?_eq_none_iff.1 h1
  have h4 : s.mods[w.mods.length]? = none := by
    cases e : s.mods[w.mods.length]? with
    | none => rfl
    | some x => rw [e] at h2; cases h2
  have := List.getElem?_eq_none_iff.1 h4
  omega
theorem RelW.at {s : Ld} {w : Wd} (h : RelW s w) {i : Nat} {m : Md} (e : s.mods[i]? = some m) : w.mods[i]? = some (toR m (!s.table.contains i)) := by rw [h.get, e]; rfl
theorem RelW.upd {s : Ld} {w : Wd} (h : RelW s w) {i : Nat} {f : Md → Md} {f' : Rm → Rm} (hf : ∀ m, s.mods[i]? = some m → ∀ g, f' (toR m g) = toR (f m) g) : RelW (updS s i f) (updW w i f') := ⟨fun j => by
  simp only [updS, updW, updR_get, updM_get, h.get]
  cases e : s.mods[j]? with
  | none => rfl
  | some m =>
    simp only [Option.map_some]
    by_cases hj : j = i
    · subst hj; rw [if_pos rfl, if_pos rfl, hf m e]
    · rw [if_neg hj, if_neg hj], h.srt, h.log⟩
theorem six_aix (n : ByteArray) : ∀ (l : List At) (k : Nat), six n (l.map At.name) k = aix n l k
  | [], _ => rfl
  | a :: r, k => by simp only [List.map_cons, six, aix, six_aix n r]
theorem setRm_toR (m : Md) (g : Bool) (n : ByteArray) (v : Option Nat) : setRm (toR m g) n (pvR v) = toR ⟨m.name, m.run, setA m.ats n v⟩ g := by
  have e : six n (toR m g).nms 0 = aix n m.ats 0 := six_aix n m.ats 0
  unfold setRm
  rw [e]
  rcases aix_cases n m.ats 0 with ⟨h1, _, _, h4, _⟩ | ⟨i, a, h1, h2, h3, _, _, h6⟩
  · rw [h1, if_neg (by decide), h4]; simp [toR]
  · rw [h2, if_pos (by omega), h6]
    have hn : (m.ats.set i ⟨n, v⟩).map At.name = m.ats.map At.name := by
      rw [List.map_set]
      apply List.ext_getElem?
      intro j
      rw [List.getElem?_set]
      split
      · rename_i hij
        subst hij
        have h9 : (m.ats.map At.name)[i]? = some n := by rw [List.getElem?_map, h1, Option.map_some, h3]
        rw [h9, if_pos (by simpa using lt_get h1)]
      · rfl
    simp only [toR, hn, List.map_set, Nat.zero_add, Int.toNat_natCast]
theorem RelW.set {s : Ld} {w : Wd} (h : RelW s w) (i : Nat) (n : ByteArray) (v : Option Nat) : RelW (setS s i n v) (setW w i n (pvR v)) := h.upd fun m _ g => setRm_toR m g n v
theorem RelW.run {s : Ld} {w : Wd} (h : RelW s w) (i : Nat) (d : Int) : RelW (runS s i d) (actW w i d) := h.upd fun _ _ _ => rfl
theorem RelW.name {s : Ld} {w : Wd} (h : RelW s w) {i : Nat} (hi : i < s.mods.length) : nmR w i = nameS s i := by
  have e := List.getElem?_eq_getElem hi
  simp [nmR, nameS, nmOf, h.at e, e, toR]
theorem RelW.drop {s : Ld} {w : Wd} (h : RelW s w) {i k : Nat} {n : ByteArray} (hk : aix n (atsS s i) 0 = (k : Int)) : RelW (dropS s i n) (dropW w i k) := h.upd fun m e g => by
  have ha : atsS s i = m.ats := by simp [atsS, e]
  rw [ha] at hk
  rcases aix_cases n m.ats 0 with ⟨h1, _⟩ | ⟨j, a, h1, h2, _, _, h5, _⟩
  · rw [h1] at hk; omega
  · obtain rfl : j = k := by omega
    simp only [dropRm, toR, h5, ← List.map_take, ← List.map_drop, ← List.map_append, ← List.eraseIdx_eq_take_drop_succ]
theorem RelW.nms {s : Ld} {w : Wd} (h : RelW s w) (i : Nat) (n : ByteArray) : sixR w i n = aix n (atsS s i) 0 := by
  unfold sixR nmsR atsS
  rw [h.get]
  cases s.mods[i]? with
  | none => rfl
  | some m => exact six_aix n m.ats 0
theorem RelW.val {s : Ld} {w : Wd} (h : RelW s w) {i k : Nat} {a : At} (ha : (atsS s i)[k]? = some a) : valR w i (k : Int) = pvR a.mod := by
  unfold valR valsR
  rw [h.get]
  unfold atsS at ha
  cases e : s.mods[i]? with
  | none => rw [e] at ha; simp at ha
  | some m => rw [e] at ha; simp [toR, ha]
theorem RelW.act {s : Ld} {w : Wd} (h : RelW s w) {i : Nat} : actR w i = runOf s i := by
  unfold actR runOf
  rw [h.get]
  cases s.mods[i]? <;> rfl
theorem RelW.push {us : List Un} {s : Ld} {w : Wd} (hI : Inv us s) (h : RelW s w) (n : ByteArray) : RelW (pushS s n) (pushW w n) := by
  have hl := h.len
  have hni : ∀ j, j ∈ s.table → j < s.mods.length := hI.tab
  refine ⟨fun i => ?_, ?_, h.log⟩
  · simp only [pushS, pushW]
    rw [List.getElem?_append, List.getElem?_append, hl]
    by_cases hi : i < s.mods.length
    · rw [if_pos hi, if_pos hi, h.get]
      cases s.mods[i]? with
      | none => rfl
      | some m =>
        have hc : (s.table ++ [s.mods.length]).contains i = s.table.contains i := by
          rw [Bool.eq_iff_iff]; simp; omega
        simp only [Option.map_some, hc]
    · rw [if_neg hi, if_neg hi]
      by_cases hi2 : i = s.mods.length
      · subst hi2
        simp [toR]
      · rw [List.getElem?_eq_none (by simp; omega), List.getElem?_eq_none (by simp; omega)]; rfl
  · exact List.pairwise_append.2 ⟨h.srt, by simp, fun a ha b hb => by simp at hb; subst hb; exact hni a ha⟩
theorem RelW.kill {s : Ld} {w : Wd} (h : RelW s w) (i : Nat) : RelW ⟨s.mods, s.table.filter fun j => j != i, s.log, s.full⟩ (killW w i) := by
  refine ⟨fun j => ?_, h.srt.filter _, h.log⟩
  simp only [killW, updW, updR_get, h.get]
  cases s.mods[j]? with
  | none => rfl
  | some m =>
    simp only [Option.map_some]
    by_cases hj : j = i
    · subst hj
      have : (s.table.filter fun x => x != j).contains j = false := by
        rw [Bool.eq_false_iff]; simp
      rw [if_pos rfl, this]; rfl
    · have : (s.table.filter fun x => x != i).contains j = s.table.contains j := by
        rw [Bool.eq_iff_iff]; simp [hj]
      rw [if_neg hj, this]
theorem tfind_min {mods : List Md} {n : ByteArray} : ∀ {l : List Nat} {k : Nat}, tfind mods n l = some k → l.Pairwise (· < ·) → ∀ i ∈ l, nmOf mods i = some n → k ≤ i
  | j :: r, k, h, hs, i, hi, hn => by
    simp only [tfind] at h
    rw [List.pairwise_cons] at hs
    split at h
    · injection h with h
      subst h
      rcases List.mem_cons.1 hi with rfl | hi
      · exact Nat.le_refl _
      · exact Nat.le_of_lt (hs.1 i hi)
    · rename_i hne
      rcases List.mem_cons.1 hi with rfl | hi
      · exact absurd hn hne
      · exact tfind_min h hs.2 i hi hn
theorem RelW.find {s : Ld} {w : Wd} (h : RelW s w) (n : ByteArray) : modR w n = pvR (findS s n) := by
  have key : ∀ (i : Nat) a, w.mods[i]? = some a → ((a.name = n ∧ a.gone = false) ↔ (i ∈ s.table ∧ nmOf s.mods i = some n)) := fun i a e => by
    rw [h.get] at e
    unfold nmOf
    cases hm : s.mods[i]? with
    | none => rw [hm] at e; cases e
    | some m =>
      rw [hm] at e
      simp only [Option.map_some, Option.some.injEq] at e
      subst e
      simp [toR, and_comm]
  unfold modR findS
  rcases mix_cases n w.mods 0 with ⟨q1, q2⟩ | ⟨i, a, q1, q2, q3, q4, q5⟩
  · rw [q1]
    cases hf : tfind s.mods n s.table with
    | none => rfl
    | some j =>
      obtain ⟨r1, r2⟩ := tfind_mem hf
      have hlt : j < w.mods.length := by
        rw [h.len]
        unfold nmOf at r2
        cases e : s.mods[j]? with
        | none => rw [e] at r2; cases r2
        | some m => exact lt_get e
      exact absurd ((key j _ (List.getElem?_eq_getElem hlt)).2 ⟨r1, r2⟩) (q2 j _ (List.getElem?_eq_getElem hlt))
  · obtain ⟨r1, r2⟩ := (key i a q1).1 ⟨q2, q3⟩
    obtain ⟨k, hk⟩ := tfind_some r1 r2
    rw [q4, hk]
    have hle := tfind_min hk h.srt i r1 r2
    obtain ⟨t1, t2⟩ := tfind_mem hk
    by_cases hlt : k < i
    · have hkl : k < w.mods.length := by have := lt_get q1; omega
      exact absurd ((key k _ (List.getElem?_eq_getElem hkl)).2 ⟨t1, t2⟩) (q5 k _ hlt (List.getElem?_eq_getElem hkl))
    · have : k = i := by omega
      subst this
      simp [pvR]
theorem note_sim {us : List Un} {s : Ld} {w : Wd} (hI : Inv us s) (h : RelW s w) (hf : s.full = false) (k : Int) (n : ByteArray) {b : Bool} (hb : w.ok = b) : Sim (noteS s k n, b) (sayR w k n) := by
  have hl := hI.log
  unfold Sim noteS sayR noteLog noteFull
  rw [hf, h.log]
  by_cases h5 : s.log.length = 5000
  · refine .inl ⟨by simp [h5], by simp [h5], by simp [h5]⟩
  · refine .inr ⟨by simp [h5], ⟨h.get, h.srt, by simp [h5]⟩, ?_⟩
    have : ¬ 5000 < s.log.length + 1 := by omega
    simp [this, hb]
def SimR (us : List Un) (R : Ld → Nat → Ld × Bool) (R' : Wd → Nat → Wd) : Prop := ∀ s w i, Inv us s → RelW s w → s.full = false → w.ok = true → i < s.mods.length → Sim (R s i) (R' w i)
def SimS (us : List Un) (St : Ld → Nat → Stp → Ld × Bool) (St' : Wd → Nat → Stp → Wd) : Prop := ∀ s w i t, Inv us s → RelW s w → s.full = false → w.ok = true → i < s.mods.length → (∃ u ∈ us, t ∈ u.steps) → Sim (St s i t) (St' w i t)
theorem stepsW_full {St : Ld → Nat → Stp → Ld × Bool} {i : Nat} {s : Ld} (h : s.full = true) : ∀ l, (stepsW St i s l).1 = s
  | [] => rfl
  | t :: r => by rw [stepsW, if_pos h]
theorem steps_sim {us : List Un} {St : Ld → Nat → Stp → Ld × Bool} {St' : Wd → Nat → Stp → Wd} (hP : SP us St) (hS : SimS us St St') (i : Nat) : ∀ (l : List Stp) (s : Ld) (w : Wd), Inv us s → RelW s w → s.full = false → w.ok = true → i < s.mods.length → (∀ t ∈ l, ∃ u ∈ us, t ∈ u.steps) → Sim (stepsW St i s l) (stepsR St' i w l)
  | [], s, w, _, h, hf, ho, _, _ => .inr ⟨hf, h, ho⟩
  | t :: r, s, w, hI, h, hf, ho, hi, hl => by
    have ht := hl t (by simp)
    have g := hP s i t hI hi ht
    have q := hS s w i t hI h hf ho hi ht
    rw [stepsW, if_neg (by rw [hf]; simp), stepsR, if_pos ho]
    rcases q with ⟨q1, q2, q3⟩ | ⟨q1, q2, q3⟩
    · rw [stepsR_fail q3]
      refine .inl ⟨?_, q2, q3⟩
      split
      · rw [stepsW_full q1]; exact q1
      · exact q1
    · split
      · rename_i e
        exact steps_sim hP hS i r _ _ g.inv q2 q1 (q3.trans e) (Nat.lt_of_lt_of_le hi g.keep.len) fun t ht => hl t (by simp [ht])
      · rename_i e
        have e : (St s i t).2 = false := by simpa using e
        rw [stepsR_fail (q3.trans e)]
        exact .inr ⟨q1, q2, q3.trans e⟩
theorem run_sim {us : List Un} {St : Ld → Nat → Stp → Ld × Bool} {St' : Wd → Nat → Stp → Wd} (hP : SP us St) (hS : SimS us St St') : SimR us (runW St us) (runR St' us) := fun s w i hI h hf ho hi => by
  have hI1 : Inv us (beginS s i) := (hI.note 1 _).run i 1
  have hi1 : i < (beginS s i).mods.length := by simpa [beginS, runS, updS, updM_len, noteS] using hi
  have g := stepsW_P hP i (unitS us (nameS s i)) (beginS s i) hI1 hi1 fun t ht => unitS_mem ht
  have hls : ∀ t ∈ unitS us (nameS s i), ∃ u ∈ us, t ∈ u.steps := fun t ht => unitS_mem ht
  have hnm := h.name hi
  have key : ∀ (x : Ld × Bool) (y : Wd), Sim x y → Inv us x.1 → i < x.1.mods.length → Sim (endS x.1 i x.2, x.2) (endR y i) := fun x y q hx hix => by
    rcases q with ⟨q1, q2, q3⟩ | ⟨q1, q2, q3⟩
    · refine .inl ⟨noteFull_mono (by exact q1), ?_, ?_⟩
      · simp only [endR, sayR, actW, updW, List.length_append]; omega
      · simp only [endR, sayR, actW, updW, q3, Bool.false_and]
    · have r1 := q2.run i (-1)
      have e1 : nmR y i = nameS x.1 i := q2.name hix
      unfold endS endR
      rw [e1, q3]
      exact note_sim (hx.run i (-1)) r1 q1 _ _ (b := x.2) (by simp only [actW, updW]; exact q3)
  unfold runW runR
  rw [hnm]
  refine key _ _ ?_ g.inv (Nat.lt_of_lt_of_le hi1 g.keep.len)
  have hb := note_sim hI h hf 1 (nameS s i) ho
  have eb : beginR w i = actW (sayR w 1 (nameS s i)) i 1 := by unfold beginR; rw [hnm]
  rw [eb]
  rcases hb with ⟨q1, q2, q3⟩ | ⟨q1, q2, q3⟩
  · have q1' : (beginS s i).full = true := q1
    have q3' : (actW (sayR w 1 (nameS s i)) i 1).ok = false := q3
    rw [stepsR_fail q3']
    exact .inl ⟨by rw [stepsW_full q1']; exact q1', q2, q3'⟩
  · exact steps_sim hP hS i _ _ _ hI1 (q2.run i 1) q1 q3 hi1 hls
/-- Each name is the parent of the next one; the first one has none, or the one ahead of it. -/
def ChP : Option ByteArray → List ByteArray → Prop
  | _, [] => True
  | p, x :: r => ((dotAt x < 0 ∧ p = none) ∨ (0 ≤ dotAt x ∧ p = some (parB x))) ∧ ChP (some x) r
theorem chP_of (L : List ByteArray) (h : Chn L) : ∀ (r : List ByteArray) (q : Nat), L.drop q = r → ChP (match q with | 0 => none | p + 1 => L[p]?) r
  | [], _, _ => trivial
  | x :: r, q, e => by
    have hx : L[q]? = some x := by
      have := congrArg (fun l => l[0]?) e
      simpa using this
    have hr : L.drop (q + 1) = r := by
      have := congrArg (List.drop 1) e
      simpa [List.drop_drop, Nat.add_comm] using this
    refine ⟨?_, ?_⟩
    · rcases h q x hx with ⟨h1, rfl⟩ | ⟨h1, p, rfl, h2⟩
      · exact .inl ⟨h1, rfl⟩
      · exact .inr ⟨h1, h2⟩
    · have := chP_of L h r (q + 1) hr
      simp only [hx] at this
      exact this
theorem chP_chain (s : ByteArray) : ChP none (chainM s) := chP_of _ (chn_chain s) _ 0 rfl
theorem loadW_F {us : List Un} {R : Ld → Nat → Ld × Bool} (hR : RP us R) : ∀ (l : List ByteArray) (s : Ld) (p : Option ByteArray), Inv us s → (∀ q, p = some q → ∃ j, findS s q = some j) → (loadW R us s l).2 = true → ∀ q, lastO p l = some q → ∃ j, findS (loadW R us s l).1 q = some j
  | [], s, p, _, hp, _, q, e => hp q e
  | n :: r, s, p, hI, hp, hb, q, e => by
    rw [loadW] at hb ⊢
    cases hf : findS s n with
    | some j =>
      rw [hf] at hb
      exact loadW_F hR r _ (some n) (hI.note _ _) (fun q hq => by injection hq with hq; subst hq; exact ⟨j, hf⟩) hb q e
    | none =>
      rw [hf] at hb
      simp only at hb ⊢
      by_cases hn : hasU us n = true
      · rw [if_pos hn] at hb ⊢
        obtain ⟨g, g2⟩ := makeW_P hR hI hn hf
        cases e2 : (makeW R s n).2
        · rw [e2, if_neg (by simp)] at hb
          cases hb
        · rw [e2, if_pos rfl] at hb
          rw [if_pos rfl]
          exact loadW_F hR r _ (some n) g.inv (fun q hq => by injection hq with hq; subst hq; exact g2 e2) hb q e
      · rw [if_neg hn] at hb
        cases hb
theorem load_full {us : List Un} {R : Ld → Nat → Ld × Bool} (hR : RP us R) {s : Ld} (hI : Inv us s) (hf : s.full = true) (l : List ByteArray) : (loadW R us s l).1.full = true := (loadW_P hR l s hI).keep.full hf
theorem goneW_log (w : Wd) (i : Nat) (p : Int) (n : ByteArray) : (goneW w i p n).log = w.log ∧ (goneW w i p n).ok = w.ok := by
  unfold goneW; split <;> exact ⟨rfl, rfl⟩
theorem goneS_full (s : Ld) (i : Nat) (p : Option Nat) (n : ByteArray) : (goneS s i p n).full = s.full := by
  unfold goneS; split
  · split <;> rfl
  · rfl
theorem make_sim {us : List Un} {R : Ld → Nat → Ld × Bool} {R' : Wd → Nat → Wd} (hP : RP us R) (hS : SimR us R R') {s : Ld} {w : Wd} (hI : Inv us s) (h : RelW s w) (hf : s.full = false) (ho : w.ok = true) {n : ByteArray} (hn : hasU us n = true) (hfn : findS s n = none) (p : Option ByteArray) (hc : (dotAt n < 0 ∧ p = none) ∨ (0 ≤ dotAt n ∧ p = some (parB n))) (hp : ∀ q, p = some q → ∃ j, findS s q = some j) : Sim (makeW R s n) (makeR R' w p n) := by
  obtain ⟨a1, a2, a3, a4, a5, a6, _⟩ := link_P hI hn hfn
  have hl := h.len
  -- the links
  have hpar : parW w p n = pvR (parS s n) ∧ RelW (linkS s n) (linkW w p n) := by
    have hpu := RelW.push hI h n
    rcases hc with ⟨c1, rfl⟩ | ⟨c1, rfl⟩
    · have e : parS s n = none := by rw [parS, if_neg (by omega)]
      refine ⟨by rw [e]; rfl, ?_⟩
      unfold linkS
      rw [e]
      exact hpu
    · obtain ⟨j, hj⟩ := hp _ rfl
      have e := par_push hI c1 hj
      have e2 : findS (pushS s n) (parB n) = some j := by
        have := e; rw [parS, if_pos c1] at this; exact this
      have e3 : modR (pushW w n) (parB n) = (j : Int) := by rw [hpu.find, e2]; rfl
      refine ⟨by rw [e]; exact e3, ?_⟩
      unfold linkS
      rw [e]
      simp only [linkW, e3, Int.toNat_natCast]
      have := hpu.set j (lastP n) (some s.mods.length)
      rw [hl]
      exact this
  obtain ⟨hpar, hlink⟩ := hpar
  have hlo : (linkW w p n).ok = true := by
    cases p <;> exact ho
  have q := hS (linkS s n) (linkW w p n) s.mods.length a1 hlink (a6.trans hf) hlo (by omega)
  have g := hP (linkS s n) s.mods.length a1 (by omega)
  unfold makeW makeR
  rw [hl, hpar]
  generalize R (linkS s n) s.mods.length = x at q g ⊢
  generalize R' (linkW w p n) s.mods.length = y at q ⊢
  rcases q with ⟨q1, q2, q3⟩ | ⟨q1, q2, q3⟩
  · rw [if_neg (c := y.ok = true) (by rw [q3]; simp)]
    obtain ⟨w1, w2⟩ := goneW_log y s.mods.length (pvR (parS s n)) (lastP n)
    refine .inl ⟨?_, by rw [w1]; exact q2, by rw [w2]; exact q3⟩
    split
    · exact q1
    · exact (goneS_full _ _ _ _).trans q1
  · cases hx : x.2
    · rw [if_neg (by simp), if_neg (by rw [q3, hx]; simp)]
      refine .inr ⟨?_, ?_, ?_⟩
      · exact (goneS_full _ _ _ _).trans q1
      · have hk := q2.kill s.mods.length
        unfold goneS goneW
        cases hps : parS s n with
        | none =>
          rw [if_neg (by simp [pvR])]
          exact hk
        | some pj =>
          simp only [pvR, Int.toNat_natCast]
          have hat : atsS ⟨x.1.mods, x.1.table.filter fun j => j != s.mods.length, x.1.log, x.1.full⟩ pj = atsS x.1 pj := rfl
          have hsx := hk.nms pj (lastP n)
          rw [hat] at hsx
          simp only [hsx]
          rcases aix_cases (lastP n) (atsS x.1 pj) 0 with ⟨h1, h2, _⟩ | ⟨k, a, h1, h2, _, h4, _, _⟩
          · simp only [h1, h2]
            rw [if_neg (by simp), if_neg (by simp)]
            exact hk
          · have hv := hk.val (i := pj) (k := k) (a := a) h1
            simp only [h2, h4, Nat.zero_add, hv]
            by_cases hm : a.mod = some s.mods.length
            · rw [if_pos (by rw [hm]), if_pos ⟨by omega, by omega, by rw [hm]; rfl⟩, Int.toNat_natCast]
              exact hk.drop (by rw [hat, h2, Nat.zero_add])
            · rw [if_neg (by simpa using hm), if_neg]
              · exact hk
              · rintro ⟨_, _, e⟩
                apply hm
                cases hme : a.mod with
                | none => rw [hme] at e; simp only [pvR] at e; omega
                | some j => rw [hme] at e; simp only [pvR] at e; congr 1; omega
      · exact (goneW_log _ _ _ _).2.trans (q3.trans hx)
    · rw [if_pos rfl, if_pos (q3.trans hx)]
      exact .inr ⟨q1, q2, q3⟩
theorem load_sim {us : List Un} {R : Ld → Nat → Ld × Bool} {R' : Wd → Nat → Wd} (hP : RP us R) (hS : SimR us R R') : ∀ (l : List ByteArray) (s : Ld) (w : Wd) (p : Option ByteArray), Inv us s → RelW s w → s.full = false → w.ok = true → ChP p l → (∀ q, p = some q → ∃ j, findS s q = some j) → Sim (loadW R us s l) (loadR R' us w p l)
  | [], s, w, p, _, h, hf, ho, _, _ => by rw [loadR]; exact .inr ⟨hf, h, ho⟩
  | n :: r, s, w, p, hI, h, hf, ho, ⟨hc, hcr⟩, hp => by
    have hfd := h.find n
    rw [loadW, loadR, if_pos ho]
    cases hfn : findS s n with
    | some j =>
      rw [hfn] at hfd
      simp only [pvR] at hfd
      rw [if_pos (c := 0 ≤ modR w n) (by omega), hfd, Int.toNat_natCast, h.act]
      rcases note_sim hI h hf (if 0 < runOf s j then 5 else 4) n ho with ⟨q1, q2, q3⟩ | ⟨q1, q2, q3⟩
      · rw [loadR_fail q3]
        exact .inl ⟨load_full hP (hI.note _ _) q1 r, q2, q3⟩
      · exact load_sim hP hS r _ _ (some n) (hI.note _ _) q2 q1 q3 hcr fun q hq => by injection hq with hq; subst hq; exact ⟨j, hfn⟩
    | none =>
      rw [hfn] at hfd
      simp only [pvR] at hfd
      rw [if_neg (c := 0 ≤ modR w n) (by omega)]
      by_cases hn : hasU us n = true
      · rw [if_pos hn]
        simp only [if_pos hn]
        obtain ⟨g, g2⟩ := makeW_P hP hI hn hfn
        rcases make_sim hP hS hI h hf ho hn hfn p hc hp with ⟨q1, q2, q3⟩ | ⟨q1, q2, q3⟩
        · rw [loadR_fail q3]
          refine .inl ⟨?_, q2, q3⟩
          split
          · exact load_full hP g.inv q1 r
          · exact q1
        · cases hb : (makeW R s n).2
          · rw [if_neg (by simp), loadR_fail (q3.trans hb)]
            exact .inr ⟨q1, q2, q3.trans hb⟩
          · rw [if_pos rfl]
            exact load_sim hP hS r _ _ (some n) g.inv q2 q1 (q3.trans hb) hcr fun q hq => by injection hq with hq; subst hq; exact g2 hb
      · rw [if_neg hn]
        simp only [if_neg hn]
        rcases note_sim hI h hf 6 n ho with ⟨q1, q2, q3⟩ | ⟨q1, q2, q3⟩
        · exact .inl ⟨q1, q2, rfl⟩
        · exact .inr ⟨q1, ⟨q2.get, q2.srt, q2.log⟩, rfl⟩
theorem loadC_sim {us : List Un} {R : Ld → Nat → Ld × Bool} {R' : Wd → Nat → Wd} (hP : RP us R) (hS : SimR us R R') {s : Ld} {w : Wd} (hI : Inv us s) (h : RelW s w) (hf : s.full = false) (ho : w.ok = true) (n : ByteArray) : Sim (loadW R us s (chainM n)) (loadR R' us w none (chainM n)) := load_sim hP hS _ s w none hI h hf ho (chP_chain n) fun q e => by cases e
theorem fail_sim {s : Ld} {w : Wd} (h : RelW s w) (hf : s.full = false) : Sim (s, false) (failW w) := .inr ⟨hf, ⟨h.get, h.srt, h.log⟩, rfl⟩
theorem part_sim {us : List Un} {R : Ld → Nat → Ld × Bool} {R' : Wd → Nat → Wd} (hP : RP us R) (hS : SimR us R R') {s : Ld} {w : Wd} (hI : Inv us s) (h : RelW s w) (hf : s.full = false) (ho : w.ok = true) (i : Nat) (t : Stp) (hn : ∃ j, findS s t.name = some j) : Sim (partW R us s i t) (partR R' us w i t) := by
  obtain ⟨j, hj⟩ := hn
  have hfd := h.find t.name
  rw [hj] at hfd
  simp only [pvR] at hfd
  unfold partW partR
  rw [hj, hfd, Int.toNat_natCast, h.nms]
  simp only
  rcases aix_cases t.part (atsS s j) 0 with ⟨h1, h2, _⟩ | ⟨k, a, h1, h2, _, h4, _, _⟩
  · rw [h1, h2, if_neg (c := (0 : Int) ≤ -1) (by omega)]
    simp only
    by_cases hu : hasU us (wholeB t) = true
    · rw [if_pos hu, if_pos hu]
      have q := loadC_sim hP hS hI h hf ho (wholeB t)
      generalize loadW R us s (chainM (wholeB t)) = x at q ⊢
      generalize loadR R' us w none (chainM (wholeB t)) = y at q ⊢
      rcases q with ⟨q1, q2, q3⟩ | ⟨q1, q2, q3⟩
      · rw [if_neg (c := y.ok = true) (by rw [q3]; simp)]
        refine .inl ⟨?_, q2, q3⟩
        split <;> exact q1
      · cases hb : x.2
        · rw [if_neg (by simp), if_neg (by rw [q3, hb]; simp)]
          exact .inr ⟨q1, q2, q3.trans hb⟩
        · rw [if_pos rfl, if_pos (q3.trans hb), q2.find]
          exact .inr ⟨q1, q2.set _ _ _, q3.trans hb⟩
    · rw [if_neg hu, if_neg hu]
      exact fail_sim h hf
  · rw [h2, h4, Nat.zero_add, if_pos (c := (0 : Int) ≤ (k : Int)) (by omega), h.val h1]
    exact .inr ⟨hf, h.set _ _ _, ho⟩
theorem step_sim {us : List Un} {R : Ld → Nat → Ld × Bool} {R' : Wd → Nat → Wd} (hP : RP us R) (hS : SimR us R R') : SimS us (stepW R us) (stepR R' us) := fun s w i t hI h hf ho hi ht => by
  unfold stepW stepR
  split
  · exact .inr ⟨hf, h.set i t.name none, ho⟩
  split
  · rw [h.nms]
    rcases aix_cases t.name (atsS s i) 0 with ⟨h1, h2, _⟩ | ⟨k, a, h1, h2, _, h4, _, _⟩
    · rw [h1, h2, if_neg (by simp), if_neg (by simp)]
      exact fail_sim h hf
    · rw [h2, h4, if_pos (by simp), if_pos (by omega), Nat.zero_add, Int.toNat_natCast]
      exact .inr ⟨hf, h.drop (by rw [h2, Nat.zero_add]), ho⟩
  split
  · have hfd := h.find t.name
    cases hfn : findS s t.name with
    | none =>
      rw [hfn] at hfd
      simp only [pvR] at hfd
      rw [if_neg (c := 0 ≤ modR w t.name) (by omega)]
      exact fail_sim h hf
    | some j =>
      rw [hfn] at hfd
      simp only [pvR] at hfd
      rw [if_pos (c := 0 ≤ modR w t.name) (by omega), hfd, Int.toNat_natCast]
      exact hS s w j hI h hf ho (hI.find j hfn)
  · have q := loadC_sim hP hS hI h hf ho t.name
    have g := loadW_P hP (chainM t.name) s hI
    have hF := loadW_F hP (chainM t.name) s none hI (fun q e => by cases e)
    generalize loadW R us s (chainM t.name) = x at q g hF ⊢
    generalize loadR R' us w none (chainM t.name) = y at q ⊢
    rcases q with ⟨q1, q2, q3⟩ | ⟨q1, q2, q3⟩
    · rw [if_neg (c := y.ok = true) (by rw [q3]; simp)]
      refine .inl ⟨?_, q2, q3⟩
      obtain ⟨u, hu, htu⟩ := ht
      split
      · rename_i hb
        split
        · exact q1
        · unfold partW
          split
          · exact q1
          · split
            · exact q1
            · split
              · have g2 := (loadW_P hP (chainM (wholeB t)) x.1 g.inv).keep.full q1
                split <;> exact g2
              · exact q1
      · exact q1
    · cases hb : x.2
      · rw [if_neg (by simp), if_neg (by rw [q3, hb]; simp)]
        exact .inr ⟨q1, q2, q3.trans hb⟩
      · rw [if_pos rfl, if_pos (q3.trans hb)]
        split
        · rw [q2.find]
          exact .inr ⟨q1, q2.set _ _ _, q3.trans hb⟩
        · exact part_sim hP hS g.inv q2 q1 (q3.trans hb) i t (hF hb t.name (lastO_chain t.name))
theorem runM_sim (us : List Un) : ∀ n, SimR us (runM us n) (runMR us n)
  | 0 => run_sim (fun s i t h _ _ => ⟨h, .refl s, fun e => by cases e⟩) fun s w i t _ h hf _ _ _ => fail_sim h hf
  | n + 1 => run_sim (stepW_P (runM_P us n)) (step_sim (runM_P us n) (runM_sim us n))
end Go.Proofs.YtgloielnnakknaaDoor
namespace Go.Proofs.YtgloielnnakknaaDoor
open Go.RowKit
theorem in_R (n lo hi : Int) : CallsA Tryd.prog 41 [di n, di lo, di hi] [] (Is (db (decide (lo ≤ n ∧ n ≤ hi)))) := by
  by_cases h1 : lo ≤ n
  · by_cases h2 : n ≤ hi
    · rw [show decide (lo ≤ n ∧ n ≤ hi) = true by simp [h1, h2]]
      refine callsA_of_vc (T := tt) Tryd.func41 rfl rfl rfl rfl rfl ?_
      repeat' ((conv => whnf); first | refine Gs.id ?_ | refine Brn.T (by (try simp only [smT]); first | rfl | assumption | fail) ?_ | fail)
      all_goals (conv => whnf)
      all_goals first | exact Ret.is rfl | (refine Ret.is ?_; simp [h1, h2]; rfl)
    · rw [show decide (lo ≤ n ∧ n ≤ hi) = false by simp [h2]]
      refine callsA_of_vc (T := tt) Tryd.func41 rfl rfl rfl rfl rfl ?_
      repeat' ((conv => whnf); first | refine Gs.id ?_ | refine Brn.T (by (try simp only [smT]); first | rfl | assumption | fail) ?_ | fail)
      all_goals (conv => whnf)
      all_goals first | exact Ret.is rfl | (refine Ret.is ?_; simp [h1, h2]; rfl)
  · rw [show decide (lo ≤ n ∧ n ≤ hi) = false by simp [h1]]
    refine callsA_of_vc (T := tt) Tryd.func41 rfl rfl rfl rfl rfl ?_
    repeat' ((conv => whnf); first | refine Gs.id ?_ | refine Brn.F (by (try simp only [smT]); first | rfl | omega | fail) ?_ | fail)
    all_goals (conv => whnf)
    all_goals first | exact Ret.is rfl | (refine Ret.is ?_; simp [h1]; rfl)
theorem stepF_R (s : Stp) (h1 : s.name.size ≤ 1000000000000) : CallsA Tryd.prog 29 [.a [.u (.int .i64 s.kind), .u (.str s.name), .u (.str s.part)]] [] (Is (di (stepM s))) := by
  obtain ⟨k, n, p⟩ := s
  dsimp only at h1
  have hd := dotted_R n h1
  rw [← dottedM_eq] at hd
  have hn := name_R n
  have hp := name_R p
  have hin := in_R k 1 5
  have h4 := emp_beq p
  dsimp only
  by_cases hk : k < 1 ∨ 5 < k
  · have e : stepM ⟨k, n, p⟩ = 5 := by simp only [stepM]; rw [if_pos hk]
    rw [e]
    rw [show decide ((1 : Int) ≤ k ∧ k ≤ 5) = false by simp; omega] at hin
    refine callsA_of_vc (T := tt) Tryd.func29 rfl rfl rfl rfl rfl ?_
    repeat' ((conv => whnf); first | refine Gs.id ?_ | with_reducible refine Brn.T rfl ?_ | (refine CL.mk (Or.inl ?_); (conv => whnf); refine Cl.is (hin) rfl (by first | exact fun _ => rfl | fail) ?_) | fail)
    all_goals (conv => whnf)
    all_goals exact Ret.is rfl
  · rw [show decide ((1 : Int) ≤ k ∧ k ≤ 5) = true by simp; omega] at hin
    by_cases hb0 : badNameM ⟨k, n, p⟩ = true
    · have e : stepM ⟨k, n, p⟩ = 7 := by simp only [stepM]; rw [if_neg hk, if_pos hb0]
      rw [e]
      simp only [badNameM, simpleM] at hb0
      refine callsA_of_vc (T := tt) Tryd.func29 rfl rfl rfl rfl rfl ?_
      repeat' ((conv => whnf); first | refine Gs.id ?_ | with_reducible refine Brn.T rfl ?_ | with_reducible refine Brn.F rfl ?_ | refine Brn.T (by (try simp only [smT]); first | rfl | assumption | omega | fail) ?_ | refine Brn.F (by (try simp only [smT]); first | rfl | assumption | omega | fail) ?_ | (refine Brn.mk (fun hb => ?_) (fun hb => ?_) <;> (try simp only [smT] at hb) <;> (try (exact absurd trivial hb)) <;> (try (exfalso; omega))) | (refine CL.mk (Or.inl ?_); (conv => whnf); first | refine Cl.is (hin) rfl (by first | exact fun _ => rfl | fail) ?_ | refine Cl.is (hd) rfl (by first | exact fun _ => rfl | fail) ?_ | refine Cl.is (hn) rfl (by first | exact fun _ => rfl | fail) ?_ | refine Cl.is (hp) rfl (by first | exact fun _ => rfl | fail) ?_) | fail)
      all_goals (conv => whnf)
      all_goals first | exact Ret.is rfl | (exfalso; simp_all; done) | (exfalso; simp_all; omega)
    · have e : stepM ⟨k, n, p⟩ = if k ≠ 4 ∧ p ≠ emp then 6 else 0 := by simp only [stepM]; rw [if_neg hk, if_neg hb0]
      rw [e]
      simp only [badNameM, simpleM] at hb0
      refine callsA_of_vc (T := tt) Tryd.func29 rfl rfl rfl rfl rfl ?_
      repeat' ((conv => whnf); first | refine Gs.id ?_ | with_reducible refine Brn.T rfl ?_ | with_reducible refine Brn.F rfl ?_ | refine Brn.T (by (try simp only [smT]); first | rfl | assumption | omega | fail) ?_ | refine Brn.F (by (try simp only [smT]); first | rfl | assumption | omega | fail) ?_ | (refine Brn.mk (fun hb => ?_) (fun hb => ?_) <;> (try simp only [smT] at hb) <;> (try (exact absurd trivial hb)) <;> (try (exfalso; omega))) | (refine CL.mk (Or.inl ?_); (conv => whnf); first | refine Cl.is (hin) rfl (by first | exact fun _ => rfl | fail) ?_ | refine Cl.is (hd) rfl (by first | exact fun _ => rfl | fail) ?_ | refine Cl.is (hn) rfl (by first | exact fun _ => rfl | fail) ?_ | refine Cl.is (hp) rfl (by first | exact fun _ => rfl | fail) ?_) | fail)
      all_goals (conv => whnf)
      all_goals first | (exfalso; simp_all; done) | (exfalso; simp_all; omega) | (refine Ret.is ?_; simp_all; rfl) | (refine Ret.is ?_; simp_all; done)
/-- The names of the first units, each once. -/
def seenU (us : List Un) (i : Nat) : List ByteArray := (us.take i).foldl (fun l u => sput l u.name) []
theorem inL_iff (n : ByteArray) (l : List ByteArray) : inL n l = true ↔ n ∈ l := by
  simp [inL]
theorem mem_fold (n : ByteArray) : ∀ (us : List Un) (l : List ByteArray), n ∈ us.foldl (fun l u => sput l u.name) l ↔ n ∈ l ∨ ∃ u ∈ us, u.name = n
  | [], l => by simp
  | u :: r, l => by
    rw [List.foldl_cons, mem_fold n r]
    unfold sput
    split
    · rename_i h
      rw [inL_iff] at h
      constructor
      · rintro (h | ⟨v, h1, h2⟩)
        · exact .inl h
        · exact .inr ⟨v, by simp [h1], h2⟩
      · rintro (h | ⟨v, h1, h2⟩)
        · exact .inl h
        · rcases List.mem_cons.1 h1 with rfl | h1
          · subst h2; exact .inl h
          · exact .inr ⟨v, h1, h2⟩
    · constructor
      · rintro (h | ⟨v, h1, h2⟩)
        · rcases List.mem_append.1 h with h | h
          · exact .inl h
          · simp at h; exact .inr ⟨u, by simp, h.symm⟩
        · exact .inr ⟨v, by simp [h1], h2⟩
      · rintro (h | ⟨v, h1, h2⟩)
        · exact .inl (List.mem_append_left _ h)
        · rcases List.mem_cons.1 h1 with rfl | h1
          · exact .inl (by simp [h2])
          · exact .inr ⟨v, h1, h2⟩
theorem uix_seen (us : List Un) (i : Nat) (n : ByteArray) : uix n (us.take i) 0 = -1 ∧ inL n (seenU us i) = false ∨ 0 ≤ uix n (us.take i) 0 ∧ inL n (seenU us i) = true := by
  have h := mem_fold n (us.take i) []
  rcases uix_cases n (us.take i) 0 with ⟨h1, h2⟩ | ⟨k, u, h1, h2, h3, _⟩
  · refine .inl ⟨h1, ?_⟩
    rw [Bool.eq_false_iff, Ne, inL_iff]
    intro hm
    rcases h.1 hm with hm | ⟨u, hu, e⟩
    · cases hm
    · have := hasU_of hu
      rw [e, h2] at this
      cases this
  · refine .inr ⟨by omega, (inL_iff _ _).2 (h.2 (.inr ?_))⟩
    exact hasU_mem h3
theorem seenU_succ {us : List Un} {i : Nat} {u : Un} (h : us[i]? = some u) : seenU us (i + 1) = sput (seenU us i) u.name := by
  have hl := lt_get h
  unfold seenU
  rw [List.take_succ_eq_append_getElem hl, List.foldl_append, (List.getElem?_eq_some_iff.1 h).2]
  rfl
theorem Ix_zero' {α : Type} {f : α → List V} {l : List α} {a : α} {K : List V → Prop} (h : l[0]? = some a) (k : K (f a)) : Ix (l.map f) 0 K := by
  have := Ix_get (f := f) (i := 0) h k
  simpa using this
def stepsF : List Stp → Int
  | [] => 0
  | s :: r => if stepM s ≠ 0 then stepM s else stepsF r
theorem stepsM_ne {c : Int} (h : c ≠ 0) : ∀ l, stepsM c l = c
  | [] => rfl
  | s :: r => by rw [stepsM, if_neg h]; exact stepsM_ne h r
theorem stepsM_F : ∀ l, stepsM 0 l = stepsF l
  | [] => rfl
  | s :: r => by
    rw [stepsM, if_pos rfl, stepsF]
    split
    · rename_i h; exact stepsM_ne h r
    · rename_i h; rw [show stepM s = 0 by simpa using h]; exact stepsM_F r
set_option maxHeartbeats 2000000 in
theorem units_R (l : List Un) (hl : l.length ≤ 1000000000000) (hs : ∀ u ∈ l, u.name.size ≤ 1000000000000 ∧ u.steps.length ≤ 1000000000000 ∧ ∀ t ∈ u.steps, t.name.size ≤ 1000000000000) : CallsA Tryd.prog 15 [.d (.u (uns l))] [] (Is (.a (fd (validateM l)))) := by
  by_cases h0 : l.length = 0
  · have e : validateM l = (10, -1) := by simp [validateM, h0]
    rw [e]
    refine callsA_of_vc (T := tt) Tryd.func15 rfl rfl rfl rfl rfl ?_
    repeat' ((conv => whnf); first | refine Gs.id ?_ | refine Brn.T (by (try simp only [smT]); first | rfl | omega | fail) ?_ | (refine Bnd.mk (fun hm => ?_); (try simp only [smT] at hm)) | (refine CL.mk (Or.inl ?_); (conv => whnf); refine Cl.is (at_R 10 (-1)) rfl (by first | exact fun _ => rfl | fail) ?_) | fail)
    all_goals (conv => whnf)
    all_goals first | exact Ret.is rfl | (exfalso; simp_all; omega)
  · by_cases h40 : 40 < l.length
    · have e : validateM l = (2, -1) := by simp [validateM, h0, h40]
      rw [e]
      refine callsA_of_vc (T := tt) Tryd.func15 rfl rfl rfl rfl rfl ?_
      repeat' ((conv => whnf); first | refine Gs.id ?_ | refine Brn.T (by (try simp only [smT]); first | rfl | omega | fail) ?_ | refine Brn.F (by (try simp only [smT]); first | rfl | omega | fail) ?_ | (refine Bnd.mk (fun hm => ?_); (try simp only [smT] at hm)) | (refine CL.mk (Or.inl ?_); (conv => whnf); refine Cl.is (at_R 2 (-1)) rfl (by first | exact fun _ => rfl | fail) ?_) | fail)
      all_goals (conv => whnf)
      all_goals first | exact Ret.is rfl | (exfalso; simp_all; omega)
    · have e : validateM l = validM l 0 [] := by simp only [validateM]; rw [if_neg h0, if_neg h40]
      rw [e]
      refine callsA_of_vc (T := tt) Tryd.func15 rfl rfl rfl rfl rfl ?_
      repeat' ((conv => whnf); first | refine Gs.id ?_ | refine Brn.F (by (try simp only [smT]); first | rfl | omega | fail) ?_ | (refine Bnd.mk (fun hm => ?_); (try simp only [smT] at hm)) | fail)
      all_goals (conv => whnf)
      refine ⟨⟨Nat, fun i => i ≤ l.length ∧ validM l 0 [] = validM (l.drop i) i (seenU l i), fun i => l.length - i, fun i => ⟨[(0, .d (.u (uns l))), (2, .d (.p 2 0)), (3, di i)], [(2, .bx 24 [.u (.int .i64 0), .u (.int .i64 0)])]⟩, 0, ⟨Nat.zero_le _, rfl⟩, ⟨[(2, .k 2)], ⟨by (try dsimp only); (repeat (refine LeT.cons rfl (by first | exact LeS.d (by first | exact LeD.u rfl | exact LeD.p rfl | fail) | fail) ?_)); exact LeT.nil, by (try dsimp only); repeat (first | exact LeO.nil | refine LeO.bx rfl rfl (by repeat (first | exact LeL.nil | refine LeL.cons (by first | exact LeD.u rfl | fail) ?_)) ?_ | fail)⟩⟩, fun i hx => ?_⟩⟩
      obtain ⟨hi, he⟩ := hx
      dsimp only at *
      by_cases h9 : i < l.length
      · obtain ⟨⟨n, st⟩, hu⟩ : ∃ u, l[i]? = some u := ⟨_, List.getElem?_eq_getElem h9⟩
        obtain ⟨hs1, hs2, hs3⟩ := hs _ (List.mem_of_getElem? hu)
        dsimp only at hs1 hs2 hs3
        rw [drop_get hu, validM, ← seenU_succ hu] at he
        have hd := dotted_R n hs1
        rw [← dottedM_eq] at hd
        have hua := unitAt_V (l.take i) n (by simp; omega) _ List.map_take.symm
        have hu0 : i = 0 → l[0]? = some (⟨n, st⟩ : Un) := fun e => by rw [← e]; exact hu
        have hst : l.map Un.row = l.map Un.row := rfl
        have hm := main_beq n
        have hU : unitM ⟨n, st⟩ i (seenU l i) = stepsM (unit0M ⟨n, st⟩ i (seenU l i)) st := rfl
        by_cases c1 : dottedM n = false
        · rw [unit0M, if_pos c1, stepsM_ne (by decide)] at hU
          rw [hU, if_pos (by decide)] at he
          rw [c1] at hd
          rw [he]
          repeat' ((conv => whnf); first | refine Ix_get hu ?_ | refine Gs.id ?_ | with_reducible refine Brn.T rfl ?_ | refine Brn.T (by (try simp only [smT]); first | rfl | omega | fail) ?_ | (refine Bnd.mk (fun hm => ?_); (try simp only [smT] at hm)) | (refine CL.mk (Or.inl ?_); (conv => whnf); first | refine Cl.is (hd) rfl (by first | exact fun _ => rfl | fail) ?_ | refine Cl.is (at_R 7 i) rfl (by first | exact fun _ => rfl | fail) ?_) | fail)
          all_goals (conv => whnf)
          all_goals exact Ret.is rfl
        rw [show dottedM n = true by simpa using c1] at hd
        rw [unit0M, if_neg c1] at hU
        rcases uix_seen l i n with ⟨s1, s2⟩ | ⟨s1, s2⟩
        · rw [s2, if_neg (by simp)] at hU
          rw [s1] at hua
          by_cases c3 : i = 0 ∧ n ≠ mainB
          · obtain ⟨rfl, c3⟩ := c3
            rw [if_pos ⟨rfl, c3⟩, stepsM_ne (by decide)] at hU
            rw [hU, if_pos (by decide)] at he
            rw [show decide (n = mainB) = false by simp [c3]] at hm
            rw [he]
            repeat' ((conv => whnf); first | refine Ix_get hu ?_ | refine Gs.id ?_ | with_reducible refine Brn.T rfl ?_ | with_reducible refine Brn.F rfl ?_ | refine Brn.T (by (try simp only [smT]); first | rfl | assumption | omega | fail) ?_ | (refine Bnd.mk (fun hm => ?_); (try simp only [smT] at hm)) | refine Slc.mk ⟨_, _, rfl, rfl, (by (try simp only [smT]); omega), (by (try simp only [smT]); omega), ?_⟩ | refine Drw.of (T := tt) (i := 10) [] [] [(0, true), (1, true), (2, true), (3, true), (4, true), (5, true), (6, true), (7, true), (8, false), (9, true)] (by kernel_rfl) ?_ | (refine CL.mk (Or.inl ?_); (conv => whnf); first | refine Cl.is (hd) rfl (by first | exact fun _ => rfl | fail) ?_ | refine Cl.is (hua) rfl (by first | exact fun _ => rfl | fail) ?_ | refine Cl.is (at_R 19 0) rfl (by first | exact fun _ => rfl | fail) ?_) | fail)
            all_goals (conv => whnf)
            all_goals exact Ret.is rfl
          rw [if_neg c3] at hU
          by_cases c4 : 30 < (st.length : Int)
          · rw [if_pos c4, stepsM_ne (by decide)] at hU
            rw [hU, if_pos (by decide)] at he
            rw [he]
            by_cases hi0 : i = 0
            · have hu1 := hu0 hi0
              have hn : n = mainB := by false_or_by_contra; rename_i h; exact c3 ⟨hi0, h⟩
              rw [show decide (n = mainB) = true by simp [hn]] at hm
              repeat' ((conv => whnf); first | refine Ix_get hu ?_ | refine Ix_zero' hu1 ?_ | refine Gs.id ?_ | with_reducible refine Brn.F rfl ?_ | refine Brn.T (by (try simp only [smT]); first | rfl | assumption | omega | fail) ?_ | refine Brn.F (by (try simp only [smT]); first | rfl | assumption | fail) ?_ | (refine Bnd.mk (fun hm => ?_); (try simp only [smT] at hm)) | refine Slc.mk ⟨_, _, rfl, rfl, (by (try simp only [smT]); omega), (by (try simp only [smT]); omega), ?_⟩ | refine Drw.of (T := tt) (i := 10) [] [] [(0, true), (1, true), (2, true), (3, true), (4, true), (5, true), (6, true), (7, true), (8, false), (9, true)] (by kernel_rfl) ?_ | (refine CL.mk (Or.inl ?_); (conv => whnf); first | refine Cl.is (hd) rfl (by first | exact fun _ => rfl | fail) ?_ | refine Cl.is (hua) rfl (by first | exact fun _ => rfl | fail) ?_ | refine Cl.is (at_R 2 i) rfl (by first | exact fun _ => rfl | fail) ?_) | fail)
              all_goals (conv => whnf)
              all_goals exact Ret.is rfl
            · repeat' ((conv => whnf); first | refine Ix_get hu ?_ | refine Gs.id ?_ | with_reducible refine Brn.F rfl ?_ | refine Brn.T (by (try simp only [smT]); first | rfl | assumption | omega | fail) ?_ | refine Brn.F (by (try simp only [smT]); first | rfl | omega | fail) ?_ | (refine Bnd.mk (fun hm => ?_); (try simp only [smT] at hm)) | refine Slc.mk ⟨_, _, rfl, rfl, (by (try simp only [smT]); omega), (by (try simp only [smT]); omega), ?_⟩ | refine Drw.of (T := tt) (i := 10) [] [] [(0, true), (1, true), (2, true), (3, true), (4, true), (5, true), (6, true), (7, true), (8, false), (9, true)] (by kernel_rfl) ?_ | (refine CL.mk (Or.inl ?_); (conv => whnf); first | refine Cl.is (hd) rfl (by first | exact fun _ => rfl | fail) ?_ | refine Cl.is (hua) rfl (by first | exact fun _ => rfl | fail) ?_ | refine Cl.is (at_R 2 i) rfl (by first | exact fun _ => rfl | fail) ?_) | fail)
              all_goals (conv => whnf)
              all_goals exact Ret.is rfl
          rw [if_neg c4, stepsM_F] at hU
          refine' cutR (fun z : Int => z = (i : Int)) (fun z => ⟨[(0, .d (.u (uns l))), (2, .d (.p 2 0)), (3, di z)], [(2, .bx 24 [.u (.int .i64 0), .u (.int .i64 0)])]⟩) _ (fun hR => ?_) ?_
          rotate_left
          · by_cases hi0 : i = 0
            · have hu1 := hu0 hi0
              have hn : n = mainB := by false_or_by_contra; rename_i h; exact c3 ⟨hi0, h⟩
              rw [show decide (n = mainB) = true by simp [hn]] at hm
              repeat' ((conv => whnf); first | refine Ix_get hu ?_ | refine Ix_zero' hu1 ?_ | exact Gs.cut (i := 16) (by assumption) _ [(2, .k 2)] rfl ⟨by (try dsimp only); (repeat (refine LeT.cons rfl (by first | exact LeS.d (by first | exact LeD.u rfl | exact LeD.p rfl | fail) | fail) ?_)); (first | exact LeT.nil | fail), by (try dsimp only); (repeat (first | exact LeO.nil | refine LeO.bx rfl rfl (by repeat (first | exact LeL.nil | refine LeL.cons (by first | exact LeD.u rfl | fail) ?_)) ?_ | fail)); done⟩ (by first | rfl | fail) | refine Gs.id ?_ | with_reducible refine Brn.F rfl ?_ | refine Brn.T (by (try simp only [smT]); first | rfl | omega | fail) ?_ | refine Brn.F (by (try simp only [smT]); first | rfl | assumption | omega | fail) ?_ | (refine Bnd.mk (fun hm => ?_); (try simp only [smT] at hm)) | refine Slc.mk ⟨_, _, rfl, rfl, (by (try simp only [smT]); omega), (by (try simp only [smT]); omega), ?_⟩ | refine Drw.of (T := tt) (i := 10) [] [] [(0, true), (1, true), (2, true), (3, true), (4, true), (5, true), (6, true), (7, true), (8, false), (9, true)] (by kernel_rfl) ?_ | (refine CL.mk (Or.inl ?_); (conv => whnf); first | refine Cl.is (hd) rfl (by first | exact fun _ => rfl | fail) ?_ | refine Cl.is (hua) rfl (by first | exact fun _ => rfl | fail) ?_) | fail)
              all_goals (conv => whnf)
            · repeat' ((conv => whnf); first | refine Ix_get hu ?_ | exact Gs.cut (i := 16) (by assumption) _ [(2, .k 2)] rfl ⟨by (try dsimp only); (repeat (refine LeT.cons rfl (by first | exact LeS.d (by first | exact LeD.u rfl | exact LeD.p rfl | fail) | fail) ?_)); (first | exact LeT.nil | fail), by (try dsimp only); (repeat (first | exact LeO.nil | refine LeO.bx rfl rfl (by repeat (first | exact LeL.nil | refine LeL.cons (by first | exact LeD.u rfl | fail) ?_)) ?_ | fail)); done⟩ (by first | rfl | fail) | refine Gs.id ?_ | with_reducible refine Brn.F rfl ?_ | refine Brn.T (by (try simp only [smT]); first | rfl | omega | fail) ?_ | refine Brn.F (by (try simp only [smT]); first | rfl | omega | fail) ?_ | (refine Bnd.mk (fun hm => ?_); (try simp only [smT] at hm)) | refine Slc.mk ⟨_, _, rfl, rfl, (by (try simp only [smT]); omega), (by (try simp only [smT]); omega), ?_⟩ | refine Drw.of (T := tt) (i := 10) [] [] [(0, true), (1, true), (2, true), (3, true), (4, true), (5, true), (6, true), (7, true), (8, false), (9, true)] (by kernel_rfl) ?_ | (refine CL.mk (Or.inl ?_); (conv => whnf); first | refine Cl.is (hd) rfl (by first | exact fun _ => rfl | fail) ?_ | refine Cl.is (hua) rfl (by first | exact fun _ => rfl | fail) ?_) | fail)
              all_goals (conv => whnf)
          intro z hz
          rw [hz]
          clear hz hd hua hm
          dsimp only
          repeat' ((conv => whnf); fail)
          all_goals (conv => whnf)
          refine ⟨⟨Nat, fun q => q ≤ st.length ∧ stepsF st = stepsF (st.drop q), fun q => st.length - q, fun q => ⟨[(0, .d (.u (uns l))), (2, .d (.p 2 0)), (3, di i), (4, di q)], [(2, .bx 24 [.u (.int .i64 0), .u (.int .i64 0)])]⟩, 0, ⟨Nat.zero_le _, rfl⟩, ⟨[(2, .k 2)], ⟨by (try dsimp only); (repeat (refine LeT.cons rfl (by first | exact LeS.d (by first | exact LeD.u rfl | exact LeD.p rfl | fail) | fail) ?_)); exact LeT.nil, by (try dsimp only); repeat (first | exact LeO.nil | refine LeO.bx rfl rfl (by repeat (first | exact LeL.nil | refine LeL.cons (by first | exact LeD.u rfl | fail) ?_)) ?_ | fail)⟩⟩, fun q hx => ?_⟩⟩
          obtain ⟨hq, hf⟩ := hx
          dsimp only at *
          by_cases h10 : q < st.length
          · obtain ⟨⟨tk, tn, tp⟩, ht⟩ : ∃ t, st[q]? = some t := ⟨_, List.getElem?_eq_getElem h10⟩
            have htf := stepF_R ⟨tk, tn, tp⟩ (hs3 _ (List.mem_of_getElem? ht))
            dsimp only at htf
            rw [drop_get ht, stepsF] at hf
            by_cases hz : stepM ⟨tk, tn, tp⟩ = 0
            · rw [if_neg (by simpa using hz)] at hf
              rw [hz] at htf
              repeat' ((conv => whnf); first | refine Ix_get hu ?_ | refine Ix_get ht ?_ | refine Gs.id ?_ | with_reducible refine Brn.F rfl ?_ | refine Brn.T (by (try simp only [smT]); first | rfl | omega | fail) ?_ | (refine Bnd.mk (fun hm => ?_); (try simp only [smT] at hm)) | refine Rng.mk (by (try simp only [smT]); omega) ?_ | (refine CL.mk (Or.inl ?_); (conv => whnf); refine Cl.is (htf) rfl (by first | exact fun _ => rfl | fail) ?_) | fail)
              all_goals (conv => whnf)
              all_goals exact ⟨q + 1, ⟨by omega, hf⟩, by omega, [(2, .k 2)], ⟨by (try dsimp only); (repeat (refine LeT.cons rfl (by first | exact LeS.d (by first | exact LeD.u rfl | exact LeD.p rfl | fail) | fail) ?_)); exact LeT.nil, by (try dsimp only); repeat (first | exact LeO.nil | refine LeO.bx rfl rfl (by repeat (first | exact LeL.nil | refine LeL.cons (by first | exact LeD.u rfl | fail) ?_)) ?_ | fail)⟩⟩
            · rw [if_pos hz] at hf
              rw [hf] at hU
              rw [hU, if_pos hz] at he
              rw [he]
              generalize stepM ⟨tk, tn, tp⟩ = C at *
              have hat := at_R C i
              repeat' ((conv => whnf); first | refine Ix_get hu ?_ | refine Ix_get ht ?_ | refine Gs.id ?_ | refine Brn.T (by (try simp only [smT]); first | rfl | assumption | omega | fail) ?_ | (refine Bnd.mk (fun hm => ?_); (try simp only [smT] at hm)) | (refine CL.mk (Or.inl ?_); (conv => whnf); first | refine Cl.is (htf) rfl (by first | exact fun _ => rfl | fail) ?_ | refine Cl.is (hat) rfl (by first | exact fun _ => rfl | fail) ?_) | fail)
              all_goals (conv => whnf)
              all_goals exact Ret.is rfl
          · obtain rfl : q = st.length := by omega
            rw [List.drop_length, stepsF] at hf
            rw [hf] at hU
            rw [hU, if_neg (by simp)] at he
            repeat' ((conv => whnf); first | refine Ix_get hu ?_ | refine Gs.id ?_ | refine Brn.F (by (try simp only [smT]); first | rfl | omega | fail) ?_ | (refine Bnd.mk (fun hm => ?_); (try simp only [smT] at hm)) | refine Rng.mk (by (try simp only [smT]); omega) ?_ | fail)
            all_goals (conv => whnf)
            all_goals exact ⟨i + 1, ⟨by omega, he⟩, by omega, [(2, .k 2)], ⟨by (try dsimp only); (repeat (refine LeT.cons rfl (by first | exact LeS.d (by first | exact LeD.u rfl | exact LeD.p rfl | fail) | fail) ?_)); exact LeT.nil, by (try dsimp only); repeat (first | exact LeO.nil | refine LeO.bx rfl rfl (by repeat (first | exact LeL.nil | refine LeL.cons (by first | exact LeD.u rfl | fail) ?_)) ?_ | fail)⟩⟩
        · rw [s2, if_pos rfl, stepsM_ne (by decide)] at hU
          rw [hU, if_pos (by decide)] at he
          rw [he]
          obtain ⟨k, hk⟩ : ∃ k : Nat, uix n (l.take i) 0 = (k : Int) := ⟨_, (Int.toNat_of_nonneg s1).symm⟩
          rw [hk] at hua
          repeat' ((conv => whnf); first | refine Ix_get hu ?_ | refine Gs.id ?_ | with_reducible refine Brn.T rfl ?_ | with_reducible refine Brn.F rfl ?_ | refine Brn.T (by (try simp only [smT]); first | rfl | omega | fail) ?_ | (refine Bnd.mk (fun hm => ?_); (try simp only [smT] at hm)) | refine Slc.mk ⟨_, _, rfl, rfl, (by (try simp only [smT]); omega), (by (try simp only [smT]); omega), ?_⟩ | refine Drw.of (T := tt) (i := 10) [] [] [(0, true), (1, true), (2, true), (3, true), (4, true), (5, true), (6, true), (7, true), (8, false), (9, true)] (by kernel_rfl) ?_ | (refine CL.mk (Or.inl ?_); (conv => whnf); first | refine Cl.is (hd) rfl (by first | exact fun _ => rfl | fail) ?_ | refine Cl.is (hua) rfl (by first | exact fun _ => rfl | fail) ?_ | refine Cl.is (at_R 8 i) rfl (by first | exact fun _ => rfl | fail) ?_) | fail)
          all_goals (conv => whnf)
          all_goals exact Ret.is rfl
      · obtain rfl : i = l.length := by omega
        rw [List.drop_length, validM] at he
        rw [he]
        repeat' ((conv => whnf); first | refine Gs.id ?_ | refine Brn.F (by (try simp only [smT]); first | rfl | omega | fail) ?_ | (refine Bnd.mk (fun hm => ?_); (try simp only [smT] at hm)) | (refine CL.mk (Or.inl ?_); (conv => whnf); refine Cl.is (at_R 0 0) rfl (by first | exact fun _ => rfl | fail) ?_) | fail)
        all_goals (conv => whnf)
        all_goals exact Ret.is rfl
end Go.Proofs.YtgloielnnakknaaDoor
namespace Go.Proofs.YtgloielnnakknaaDoor
open Go.ChangeShapes Go.WideShapes Go.Deep

section
variable {H : Type} {enc : TypeId × Value → H} {P : Program} {w : World} {base : Nat} {spare : Nat → Bool} {held : Bool}

theorem cell_lt {p : Addr} {v : Value} (h : w.cell? p = some v) : p.block < w.heap.size := by
  by_cases hl : p.block < w.heap.size
  · exact hl
  · have : w.heap[p.block]? = none := by simp; omega
    simp [World.cell?, this] at h

end

section
variable {H : Type} {P : Program} {ts : List TypeId} {ds : List (DataW H)}
/-- What a field of a struct weighs is weighed. -/
theorem weights_field {t u : TypeId} {fs : Array Field} {parts : List (DataW H)} {j : Nat} {d : DataW H} (hu : P.underlying t = some (.struct fs)) (hf : (fs.toList.map (·.type))[j]? = some u) (hd : parts[j]? = some d) {n : Nat} (hn : n ∈ d.weights P u) : n ∈ (DataW.agg parts).weights P t := by
  simp only [DataW.weights, hu]
  exact DataW.weights_mem_each hf hd n hn
theorem weights_slice {t e : TypeId} {el sp : List (DataW H)} (hu : P.underlying t = some (.slice e)) : (el.length + sp.length) * P.bytesOf e ∈ (DataW.slice el sp).weights P t := by
  simp [DataW.weights, hu]
end
end Go.Proofs.YtgloielnnakknaaDoor
namespace Go.Proofs.YtgloielnnakknaaDoor
open Go.ChangeShapes Go.WideShapes Go.Deep Go.RowKit
/-- What a cell of an argument is. -/
inductive Sh where
  | int (k : IntKind)
  | bool
  | str
  | sl (by_ : Nat) (e : List Sh)
abbrev bigB : Nat := 9000000000
inductive HasSh : Sh → V → Prop
  | int {k : IntKind} {n : Int} (h : (Lit.int k n).wf = true) : HasSh (.int k) (.int k n)
  | bool {b : Bool} : HasSh .bool (.bool b)
  | str {s : ByteArray} (h : s.size ≤ bigB) : HasSh .str (.str s)
  | sl {by_ sz : Nat} {e : List Sh} {rs : List (List V)} (hl : rs.length * by_ ≤ bigB) (hm : rs.length ≤ maxLen) (hs : sz = e.length) (hr : ∀ r ∈ rs, r.length = sz) (h : ∀ r ∈ rs, ∀ (j : Nat) s x, e[j]? = some s → r[j]? = some x → HasSh s x) : HasSh (.sl by_ e) (.sl sz rs)
/-- Cells. -/
structure HasL (e : List Sh) (r : List V) : Prop where
  len : r.length = e.length
  has : ∀ (j : Nat) s x, e[j]? = some s → r[j]? = some x → HasSh s x
theorem HasL.nil : HasL [] [] := ⟨rfl, fun _ _ _ h => by simp at h⟩
theorem HasL.app {e f : List Sh} {r q : List V} (h : HasL e r) (k : HasL f q) : HasL (e ++ f) (r ++ q) := ⟨by simp [h.len, k.len], fun j s x h1 h2 => by
  by_cases hj : j < e.length
  · rw [List.getElem?_append_left hj] at h1
    rw [List.getElem?_append_left (by rw [h.len]; exact hj)] at h2
    exact h.has j s x h1 h2
  · rw [List.getElem?_append_right (by omega)] at h1
    rw [List.getElem?_append_right (by rw [h.len]; omega), h.len] at h2
    exact k.has _ s x h1 h2⟩
theorem HasL.one {s : Sh} {x : V} (h : HasSh s x) : HasL [s] [x] := ⟨rfl, fun j a b h1 h2 => by
  cases j with
  | zero => simp at h1 h2; subst h1 h2; exact h
  | succ j => simp at h1⟩
theorem HasL.cons_inv {s : Sh} {e : List Sh} {r : List V} (h : HasL (s :: e) r) : ∃ x q, r = x :: q ∧ HasSh s x ∧ HasL e q := by
  cases r with
  | nil => have := h.len; simp at this
  | cons x q => exact ⟨x, q, rfl, h.has 0 s x rfl rfl, by have := h.len; simpa using this, fun j a b h1 h2 => h.has (j + 1) a b (by simpa using h1) (by simpa using h2)⟩
theorem HasL.nil_inv {r : List V} (h : HasL [] r) : r = [] := List.eq_nil_of_length_eq_zero h.len
def shFs (g : Nat → Option (List Sh)) : List (Nat × TypeId) → Nat → Option (List Sh)
  | [], _ => some []
  | (off, t) :: r, o => bif Nat.beq off o then match g t with
      | none => none
      | some l => match shFs g r (o + l.length) with
        | none => none
        | some m => some (l ++ m)
    else none
/-- The shape of a type. -/
def shT (T : List (Nat × Ty)) : Nat → Nat → Option (List Sh)
  | 0, _ => none
  | f + 1, t => match lk t T with
    | none => none
    | some i => match i.k with
      | .in_ k => bif Nat.beq i.size 1 then some [.int k] else none
      | .bo => bif Nat.beq i.size 1 then some [.bool] else none
      | .sr => bif Nat.beq i.size 1 then some [.str] else none
      | .sl e => match lk e T with
        | none => none
        | some j => match shT T f e with
          | none => none
          | some l => bif Nat.beq l.length j.size && (Nat.blt 0 j.size && Nat.beq i.size 1) then some [.sl j.bytes l] else none
      | .st fs => match shFs (shT T f) fs 0 with
        | none => none
        | some l => bif Nat.beq l.length i.size then some l else none
      | _ => none
section
variable {H : Type} {enc : TypeId × Value → H} {P : Program} {T : List (Nat × Ty)} [hT : Tys P T] {w : World} {base : Nat} {spare : Nat → Bool} {held : Bool}
abbrev zW (w : World) : Fz := ⟨⟨fun b => b < w.heap.size, fun _ => [], fun _ => True⟩, w⟩
omit hT in
theorem weightsAll_mem {e : TypeId} : ∀ {ds : List (DataW H)} {d : DataW H}, d ∈ ds → ∀ m ∈ d.weights P e, m ∈ DataW.weightsAll P e ds
  | x :: r, d, h, m, hm => by
    simp only [DataW.weightsAll, List.mem_append]
    rcases List.mem_cons.1 h with rfl | h
    · exact .inl hm
    · exact .inr (weightsAll_mem h m hm)
/-- What a cell reader of type t tells. -/
def Opn (enc : TypeId × Value → H) (P : Program) (w : World) (base : Nat) (spare : Nat → Bool) (held : Bool) (t : TypeId) (sh : List Sh) : Prop :=
  ∀ (n : Nat) (cs : List Value) (y : DataW H × List MemPlace), DataW.trod enc P w base spare held n t cs = some y → (∀ m ∈ y.1.weights P t, m ≤ bigB) → ∃ xs : List V, HasL sh xs ∧ DenVL (zW w) xs cs
theorem opn_slice {t e : TypeId} {l : List Sh} {i j : Ty} (ht : lk t T = some i) (hi : i.k = .sl e) (hj : lk e T = some j) (hl : l.length = j.size) (hp : 0 < j.size) (ih : Opn enc P w base spare held e l) : Opn enc P w base spare held t [.sl j.bytes l] := by
  intro n cs y h hw
  have ku := (hT.ok t i ht).kind
  rw [hi] at ku
  have ku : P.underlying t = some (.slice e) := ku
  obtain ⟨f, z, q1, q2, q3, _⟩ := (hT.ok e j hj).info
  have hC : P.cellsOf e = j.size := by simp [Program.cellsOf, q1, q2]
  have hBy : P.bytesOf e = j.bytes := by simp [Program.bytesOf, q1, q3]
  rcases open_slice ku h with ⟨rfl, rfl⟩ | ⟨a, len, cap, k, n', D, Pl, rfl, hb, hlc, hmx, hk, hx, hcell⟩
  · exact ⟨[.sl j.size []], .one (.sl (by simp) (by simp) (by rw [hl]) (by simp) (by simp)), ⟨rfl, rfl, fun m d u e1 e2 => by
      cases m with
      | zero => simp at e1 e2; subst e1 e2; exact .sl (b := 0) (o := 0) [] rfl (Nat.le_refl _) (Nat.zero_le _) (by simp) (fun h => absurd rfl h) rfl (by simp) rfl (by simp)
      | succ m => simp at e1⟩⟩
  · have hlk : len ≤ k := by rw [hk]; split <;> omega
    have hwt : (((List.range len).map D).length + ((List.range (k - len)).map fun j => D (len + j)).length) * P.bytesOf e ≤ bigB := hw _ (by rw [hx]; exact weights_slice ku)
    have hwe : ∀ i, i < len → ∀ m ∈ (D i).weights P e, m ≤ bigB := fun i hi m hm => hw m (by
      rw [hx]
      simp only [DataW.weights, ku, List.mem_cons, List.mem_append]
      exact .inr (.inl (weightsAll_mem (List.mem_map.2 ⟨i, List.mem_range.2 hi, rfl⟩) m hm)))
    have hE : ∀ i, i < len → ∃ (xs : List V) (cs : List Value), HasL l xs ∧ DenVL (zW w) xs cs ∧ ∀ m, m < j.size → w.cell? (a.add (i * j.size + m)) = cs[m]? := by
      intro i hil
      obtain ⟨cs', hc, ht'⟩ := hcell i (by omega)
      obtain ⟨xs, h1, h2⟩ := ih _ _ _ ht' (hwe i hil)
      rw [hC] at hc
      obtain ⟨_, hcl, hat⟩ := World.cells?_some hc
      exact ⟨xs, cs', h1, h2, fun m hm => by rw [← add_of_add]; exact hat m hm⟩
    have hL : ∀ k, k ≤ len → ∃ (rs : List (List V)) (us : List Value), rs.length = k ∧ (∀ r ∈ rs, HasL l r) ∧ DenVL (zW w) rs.flatten us ∧ us.length = k * j.size ∧ ∀ m u, us[m]? = some u → w.cell? (a.add m) = some u := by
      intro k
      induction k with
      | zero => intro _; exact ⟨[], [], rfl, by simp, .nil, by simp, by simp⟩
      | succ k ihk =>
        intro hk
        obtain ⟨rs, us, h1, h2, h3, h4, h5⟩ := ihk (by omega)
        obtain ⟨xs, cs, g1, g2, g3⟩ := hE k (by omega)
        have gl : cs.length = j.size := by rw [g2.len, g1.len, hl]
        refine ⟨rs ++ [xs], us ++ cs, by simp [h1], fun r hr => ?_, by rw [List.flatten_append]; simpa using h3.app g2, by rw [List.length_append, h4, gl, Nat.add_mul, Nat.one_mul], fun m u hu => ?_⟩
        · rcases List.mem_append.1 hr with hr | hr
          · exact h2 r hr
          · rw [List.mem_singleton.1 hr]; exact g1
        · by_cases hm : m < k * j.size
          · rw [List.getElem?_append_left (by omega)] at hu
            exact h5 m u hu
          · rw [List.getElem?_append_right (by omega), h4] at hu
            have hlt : m - k * j.size < j.size := by have := (List.getElem?_eq_some_iff.1 hu).1; omega
            have := g3 _ hlt
            rw [show k * j.size + (m - k * j.size) = m by omega] at this
            rw [this, hu]
    obtain ⟨rs, us, h1, h2, h3, h4, h5⟩ := hL len (Nat.le_refl _)
    have hlen : len * j.bytes ≤ bigB := by
      simp only [List.length_map, List.length_range, hBy] at hwt
      exact Nat.le_trans (Nat.mul_le_mul_right _ (Nat.le_add_right _ _)) hwt
    have hr : ∀ r ∈ rs, r.length = j.size := fun r hr => by rw [(h2 r hr).len, hl]
    refine ⟨[.sl j.size rs], .one (.sl (by rw [h1]; exact hlen) (by omega) hl.symm hr (fun r hr => (h2 r hr).has)), ⟨rfl, rfl, fun m d u e1 e2 => ?_⟩⟩
    cases m with
    | succ m => simp at e1
    | zero =>
      simp at e1 e2
      subst e1 e2
      by_cases hrs : rs = []
      · subst hrs
        have : len = 0 := by simpa using h1.symm
        subst this
        exact .sl (b := 0) (o := 0) [] rfl (Nat.zero_le _) (Nat.zero_le _) hr (fun h => absurd rfl h) rfl (by simp) rfl (by simp)
      · have hus : 0 < us.length := by
          rw [h4]
          have : 0 < len := by rw [← h1]; exact List.length_pos_iff.2 hrs
          exact Nat.mul_pos this hp
        obtain ⟨b, off, spot⟩ := a
        have hc0 := h5 0 _ (List.getElem?_eq_getElem hus)
        have hspot : spot = none := by simpa [Addr.add] using World.cell?_spot hc0
        subst hspot
        have hlt := cell_lt hc0
        refine .sl (b := b) (o := off) us h1 hlc (by omega) hr (fun _ => ⟨rfl, by simpa [block_of_add] using hlt⟩) h3.len (fun m u hu => ?_) h3.one h3.den
        have := h5 m u hu
        rwa [add_plain] at this
theorem opn_struct {t : TypeId} {g : Nat → Option (List Sh)} {fs : List (Nat × TypeId)} {sh : List Sh} {i : Ty} (ht : lk t T = some i) (hi : i.k = .st fs) (hs : shFs g fs 0 = some sh) (hl : sh.length = i.size) (ih : ∀ u l, g u = some l → Opn enc P w base spare held u l) (hg : ∀ u l, g u = some l → P.cellsOf u = l.length) : Opn enc P w base spare held t sh := by
  intro n cs y h hw
  have ku := (hT.ok t i ht).kind
  rw [hi] at ku
  obtain ⟨fields, k1, k2⟩ := ku
  obtain ⟨f, z, q1, q2, _⟩ := (hT.ok t i ht).info
  have hC : P.cellsOf t = i.size := by simp [Program.cellsOf, q1, q2]
  obtain ⟨xs, n', _, rfl, hcl, hxl, hf⟩ := DataW.trod_struct k1 h
  rw [hC] at hcl
  have hwf : ∀ (m : Nat) (fd : Field) (x : DataW H × List MemPlace), fields[m]? = some fd → xs[m]? = some x → ∀ q ∈ x.1.weights P fd.type, q ≤ bigB := fun m fd x e1 e2 q hq => hw q (weights_field (j := m) k1 (by rw [List.getElem?_map, Array.getElem?_toList, e1]; rfl) (by rw [List.getElem?_map, e2]; rfl) hq)
  have key : ∀ (l : List (Nat × TypeId)) (m o : Nat) (sh : List Sh), (∀ (q : Nat) p, l[q]? = some p → fs[m + q]? = some p) → shFs g l o = some sh → ∃ vs : List V, HasL sh vs ∧ ((o + sh.length ≤ cs.length) → DenVL (zW w) vs ((cs.drop o).take sh.length)) := by
    intro l
    induction l with
    | nil => intro m o sh _ hs; simp [shFs] at hs; subst hs; exact ⟨[], .nil, fun _ => by simpa using DenVL.nil⟩
    | cons p r ihl =>
      intro m o sh hp hs
      obtain ⟨off, u⟩ := p
      simp only [shFs] at hs
      cases hb : Nat.beq off o <;> rw [hb] at hs
      · cases hs
      · simp only [cond_true] at hs
        have := Nat.eq_of_beq_eq_true hb
        subst this
        cases hgu : g u with
        | none => simp only [hgu] at hs; cases hs
        | some l1 =>
          simp only [hgu] at hs
          cases hr : shFs g r (off + l1.length) with
          | none => simp only [hr] at hs; cases hs
          | some l2 =>
            simp only [hr] at hs
            injection hs with hs
            subst hs
            obtain ⟨vs, v1, v2⟩ := ihl (m + 1) _ l2 (fun q p hq => by have := hp (q + 1) p (by simpa using hq); rwa [show m + (q + 1) = m + 1 + q by omega] at this) hr
            have hfs := hp 0 (off, u) rfl
            rw [Nat.add_zero, ← k2, List.getElem?_map] at hfs
            cases hfd : fields.toList[m]? with
            | none => rw [hfd] at hfs; cases hfs
            | some fd =>
              rw [hfd] at hfs
              simp only [Option.map_some, Option.some.injEq, Prod.mk.injEq] at hfs
              obtain ⟨e1, e2⟩ := hfs
              rw [Array.getElem?_toList] at hfd
              have hrd := hf m fd hfd
              rw [e1, e2, hg u l1 hgu] at hrd
              have hmx : m < xs.length := by rw [hxl]; exact (Array.getElem?_eq_some_iff.1 hfd).1
              have hxm := List.getElem?_eq_getElem hmx
              rw [hxm] at hrd
              have hww := hwf m fd _ hfd hxm
              rw [e2] at hww
              obtain ⟨ws, w1, w2⟩ := ih u l1 hgu _ _ _ hrd hww
              refine ⟨ws ++ vs, w1.app v1, fun ho => ?_⟩
              simp only [List.length_append] at ho
              have h2 := v2 (by omega)
              have hsp : (cs.drop off).take (l1 ++ l2).length = (cs.drop off).take l1.length ++ (cs.drop (off + l1.length)).take l2.length := by
                rw [List.length_append, List.take_add, List.drop_drop]
              rw [hsp]
              exact w2.app h2
  obtain ⟨vs, v1, v2⟩ := key fs 0 0 sh (fun q p h => by rwa [Nat.zero_add]) hs
  refine ⟨vs, v1, ?_⟩
  have := v2 (by omega)
  rwa [List.drop_zero, List.take_of_length_le (by omega)] at this
omit hT in
theorem den_one {x : V} {v : Value} (h : DenV (zW w) x v) : DenVL (zW w) [x] [v] := ⟨rfl, by simp [h.one], fun m d u e1 e2 => by
  cases m with
  | zero => simp at e1 e2; subst e1 e2; exact h
  | succ m => simp at e1⟩
theorem shT_cells : ∀ {f t : Nat} {sh : List Sh}, shT T f t = some sh → P.cellsOf t = sh.length
  | 0, t, sh, h => by cases h
  | f + 1, t, sh, h => by
    simp only [shT] at h
    cases ht : lk t T with
    | none => rw [ht] at h; cases h
    | some i =>
      rw [ht] at h
      simp only at h
      obtain ⟨q, z, q1, q2, _⟩ := (hT.ok t i ht).info
      have hC : P.cellsOf t = i.size := by simp [Program.cellsOf, q1, q2]
      rw [hC]
      split at h
      · cases hb : Nat.beq i.size 1 <;> rw [hb] at h
        · cases h
        · injection h with h; subst h; exact Nat.eq_of_beq_eq_true hb
      · cases hb : Nat.beq i.size 1 <;> rw [hb] at h
        · cases h
        · injection h with h; subst h; exact Nat.eq_of_beq_eq_true hb
      · cases hb : Nat.beq i.size 1 <;> rw [hb] at h
        · cases h
        · injection h with h; subst h; exact Nat.eq_of_beq_eq_true hb
      · rename_i e hk
        split at h
        · cases h
        · rename_i j hj
          split at h
          · cases h
          · rename_i l hl
            cases hb : (Nat.beq l.length j.size && (Nat.blt 0 j.size && Nat.beq i.size 1)) <;> rw [hb] at h
            · cases h
            · injection h with h; subst h
              simp only [Bool.and_eq_true] at hb
              exact Nat.eq_of_beq_eq_true hb.2.2
      · split at h
        · cases h
        · rename_i l hl
          cases hb : Nat.beq l.length i.size <;> rw [hb] at h
          · cases h
          · injection h with h; subst h; exact (Nat.eq_of_beq_eq_true hb).symm
      · cases h
/-- An argument of a readable type is a tree of its shape. -/
theorem opn : ∀ {f t : Nat} {sh : List Sh}, shT T f t = some sh → Opn enc P w base spare held t sh
  | 0, t, sh, h => by cases h
  | f + 1, t, sh, h => by
    simp only [shT] at h
    cases ht : lk t T with
    | none => rw [ht] at h; cases h
    | some i =>
      rw [ht] at h
      simp only at h
      split at h
      · rename_i k hk
        cases hb : Nat.beq i.size 1 <;> rw [hb] at h
        · cases h
        · injection h with h; subst h
          have ku := (hT.ok t i ht).kind
          rw [hk] at ku
          have ku : P.underlying t = some (.int k) := ku
          intro n cs y hy _
          obtain ⟨z, rfl, _, hz⟩ := DataW.trod_int ku hy
          exact ⟨[.int k z], .one (.int hz), den_one (.int _ _)⟩
      · rename_i hk
        cases hb : Nat.beq i.size 1 <;> rw [hb] at h
        · cases h
        · injection h with h; subst h
          have ku := (hT.ok t i ht).kind
          rw [hk] at ku
          have ku : P.underlying t = some .bool := ku
          intro n cs y hy _
          obtain ⟨z, rfl, _⟩ := DataW.trod_bool ku hy
          exact ⟨[.bool z], .one .bool, den_one (.bool _)⟩
      · rename_i hk
        cases hb : Nat.beq i.size 1 <;> rw [hb] at h
        · cases h
        · injection h with h; subst h
          have ku := (hT.ok t i ht).kind
          rw [hk] at ku
          have ku : P.underlying t = some .string := ku
          intro n cs y hy hw
          obtain ⟨z, rfl, rfl, hz⟩ := DataW.trod_string ku hy
          have := hw z.data.toList.length (show _ ∈ [z.data.toList.length] from List.mem_singleton.2 rfl)
          have e : z.data.toList.length = z.size := Array.length_toList
          rw [e] at this
          exact ⟨[.str z], .one (.str this), den_one (.str _ hz)⟩
      · rename_i e hk
        split at h
        · cases h
        · rename_i j hj
          split at h
          · cases h
          · rename_i l hl
            cases hb : (Nat.beq l.length j.size && (Nat.blt 0 j.size && Nat.beq i.size 1)) <;> rw [hb] at h
            · cases h
            · injection h with h; subst h
              simp only [Bool.and_eq_true] at hb
              exact opn_slice ht hk hj (Nat.eq_of_beq_eq_true hb.1) (by simpa [Nat.blt_eq] using hb.2.1) (opn hl)
      · rename_i fs hk
        split at h
        · cases h
        · rename_i l hl
          cases hb : Nat.beq l.length i.size <;> rw [hb] at h
          · cases h
          · injection h with h; subst h
            exact opn_struct ht hk hl (Nat.eq_of_beq_eq_true hb) (fun u l hu => opn hu) (fun u l hu => shT_cells hu)
      · cases h
/-- An argument of one cell. -/
theorem arg_open {f t : Nat} {s : Sh} {v : Value} {d : DataW H} {p : List MemPlace} (hs : shT T f t = some [s]) (h : DataW.Trod enc P w base spare held t v d p) (hz : ∀ n ∈ d.weights P t, n ≤ bigB) (hv : v.cells = #[v]) : ∃ x, HasSh s x ∧ ∀ ρ, DenS ρ (zW w) (.d (.u x)) v := by
  obtain ⟨n, hn⟩ := h
  rw [hv] at hn
  obtain ⟨xs, h1, h2⟩ := opn hs n _ _ hn hz
  obtain ⟨x, q, rfl, h3, h4⟩ := h1.cons_inv
  have := h4.nil_inv
  subst this
  exact ⟨x, h3, fun ρ => .d (.u (h2.den 0 x v rfl rfl))⟩
end
end Go.Proofs.YtgloielnnakknaaDoor
namespace Go.Proofs.YtgloielnnakknaaDoor
open Go.ChangeShapes Go.WideShapes Go.ChangeAt Go.RowKit

section
variable {H : Type} {enc : TypeId × Value → H} {P : Program}

theorem trodAll_stays (hl : laidOutB P = true) {W W' : World} {sp' : Nat → Bool} : ∀ {ts : List TypeId} {vs : List Value} {ds : List (DataW H)} {ps : List MemPlace}, (∀ t ∈ ts, P.readableRec t = true ∧ t < P.types.size) →
    DataW.TrodAll enc P W 0 (fun _ => true) true ts vs ds ps → (∀ p ∈ ps, W.sameAt W' p) → (∀ p ∈ ps, sp' p.block = true) → DataW.TrodAll enc P W' 0 sp' true ts vs ds ps
  | [], [], [], _, _, h, _, _ => h
  | _ :: _, _ :: _, _ :: _, _, hT, ⟨p, q, h1, h2, e⟩, hm, hs =>
    ⟨p, q, WideElems.Trod_stays hl (hT _ (List.mem_cons.2 (Or.inl rfl))).1 (hT _ (List.mem_cons.2 (Or.inl rfl))).2 h1 (fun x hx => hm x (by rw [e]; exact List.mem_append_left _ hx)) (fun x hx => hs x (by rw [e]; exact List.mem_append_left _ hx)),
      trodAll_stays hl (fun t ht => hT t (List.mem_cons.2 (Or.inr ht))) h2 (fun x hx => hm x (by rw [e]; exact List.mem_append_right _ hx)) (fun x hx => hs x (by rw [e]; exact List.mem_append_right _ hx)), e⟩
  | [], [], _ :: _, _, _, h, _, _ => h.elim
  | [], _ :: _, _, _, _, h, _, _ => h.elim
  | _ :: _, [], _, _, _, h, _, _ => h.elim
  | _ :: _, _ :: _, [], _, _, h, _, _ => h.elim

/-- One closed fact: each parameter's type can be read and is a row of the table. -/
def paramsRead (P : Program) (fn : Func) : Bool := fn.params.toList.all fun t => P.readableRec t && decide (t < P.types.size)

theorem post_of_below {f : Func} {s : ChangeSpec} {apart fresh handsOn again : Bool} {W W' : World} {args : Array Value} {ds : List (DataW H)} {before : List MemPlace} {tb : TypeId}
    (hl : laidOutB P = true) (hT : paramsRead P f = true) (hres : f.resultTypes = #[tb]) (htb : P.underlying tb = some .bool) (hvars : s.vars = [])
    (hsp : s.fn H ds = { results := [.lit (.bool true)], args := ds })
    (hW : DataW.Whole enc P f.params.toList s.vars apart W args.toList ds [] before) (hb : Below W.heap.size W W') :
    s.post enc P f apart fresh handsOn again W args (.bool true) W' := by
  have hT' : ∀ t ∈ f.params.toList, P.readableRec t = true ∧ t < P.types.size := fun t ht => by
    have := List.all_eq_true.1 hT t ht
    simpa using this
  have hlt := hW.lt
  have hW' := hW
  obtain ⟨p, q, hA, hV, he, hz, hn⟩ := hW
  have hq : q = [] := by
    rw [hvars] at hV
    exact (trodVars_none hV).2
  subst hq
  rw [List.append_nil] at he
  subst he
  have hR : ∀ (b : Nat) (sp : Nat → Bool) (hd : Bool), DataW.TrodAll enc P W' b sp hd f.resultTypes.toList ((Value.bool true).resultList f.resultTypes.size) (s.fn H (ds ++ [])).results [] := by
    intro b sp hd
    rw [List.append_nil, hsp, hres]
    exact trodAll_mk1 (shut_bool htb _)
  have hG : ∀ sp : Nat → Bool, (∀ p' ∈ before, sp p'.block = true) → DataW.TrodAll enc P W' 0 sp true f.params.toList args.toList (s.fn H (ds ++ [])).args before := by
    intro sp h
    rw [List.append_nil, hsp]
    exact trodAll_stays hl hT' hA (fun x hx => hb.same (hlt x hx)) h
  have hU : ∀ sp : Nat → Bool, DataW.TrodVars enc P W' sp s.vars (s.fn H (ds ++ [])).vars [] := by
    intro sp
    rw [hvars, List.append_nil, hsp]
    rfl
  refine ⟨ds, [], before, [], before, [], hW', hR _ _ _, hG _ (fun x hx => by simpa using hlt x hx), hU _, hb.frame _, fun _ => ?_⟩
  refine ⟨ok_one hres rfl (okWide_bool_mk htb _), _, _, ([] ++ before) ++ [], ⟨[] ++ before, [], trodAll_append (hG _ (fun _ _ => rfl)) (hR _ _ _), hU _, rfl, ?_, ?_⟩, ?_⟩
  · intro b off hp
    have hp' := by simpa using hp
    rw [hb.frozen (hlt _ hp')]
    exact hz b off hp'
  · intro ha
    simpa using hn ha
  · intro x hx _
    simpa using hx
end

end Go.Proofs.YtgloielnnakknaaDoor
namespace Go.Proofs.YtgloielnnakknaaDoor
theorem bulk_one {H : Type} (d : DataW H) : 1 ≤ Rows.uptoBulk d := by
  cases d with
  | lit l => cases l <;> simp [Rows.uptoBulk]
  | nil => simp [Rows.uptoBulk]
  | ptr d => simp [Rows.uptoBulk]
  | slice elems spare => simp [Rows.uptoBulk]
  | agg parts => simp [Rows.uptoBulk]
  | iface t d => simp [Rows.uptoBulk]
  | map entries => simp [Rows.uptoBulk]
  | held h => simp [Rows.uptoBulk]
theorem bulk_len {H : Type} : ∀ (l : List (DataW H)), l.length ≤ Rows.uptoBulkAll l
  | [] => by simp [Rows.uptoBulkAll]
  | x :: r => by have := bulk_one x; have := bulk_len r; simp only [Rows.uptoBulkAll, List.length_cons]; omega
theorem bulk_entry {H : Type} (x : Lit × DataW H) : Rows.uptoBulk x.2 + 1 ≤ Rows.uptoBulkEntry x := by
  obtain ⟨l, d⟩ := x
  cases l <;> simp [Rows.uptoBulkEntry] <;> omega
theorem bulk_entries {H : Type} : ∀ (l : List (Lit × DataW H)), l.length ≤ Rows.uptoBulkEntries l
  | [] => by simp [Rows.uptoBulkEntries]
  | x :: r => by have := bulk_entry x; have := bulk_entries r; simp only [Rows.uptoBulkEntries, List.length_cons]; omega
theorem bulk_mem {H : Type} {d : DataW H} {l : List (DataW H)} (h : d ∈ l) : Rows.uptoBulk d ≤ Rows.uptoBulkAll l := by
  induction l with
  | nil => cases h
  | cons x r ih =>
    simp only [Rows.uptoBulkAll]
    rcases List.mem_cons.1 h with rfl | h
    · omega
    · have := ih h; omega
theorem le_of_mul {m a b C : Nat} (h : m ≤ a * C) (hab : a ≤ b) : m ≤ b * C := Nat.le_trans h (Nat.mul_le_mul_right C hab)
/-- The types of a type's parts are in the table; what they weigh. -/
def closedT (P : Program) : Bool := (List.range P.types.size).all fun t => decide (P.bytesOf t ≤ 4096) && match P.underlying t with
  | some (.slice e) => decide (e < P.types.size)
  | some (.pointer e) => decide (e < P.types.size)
  | some (.array _ e) => decide (e < P.types.size)
  | some (.map k e) => decide (k < P.types.size) && decide (e < P.types.size)
  | some (.struct fs) => (fs.toList.map (·.type)).all fun e => decide (e < P.types.size)
  | _ => true
theorem closed_at {P : Program} (hP : closedT P = true) {t : TypeId} (h : t < P.types.size) : P.bytesOf t ≤ 4096 ∧ (∀ e, P.underlying t = some (.slice e) → e < P.types.size) ∧ (∀ e, P.underlying t = some (.pointer e) → e < P.types.size) ∧ (∀ n e, P.underlying t = some (.array n e) → e < P.types.size) ∧ (∀ k e, P.underlying t = some (.map k e) → k < P.types.size ∧ e < P.types.size) ∧ (∀ fs, P.underlying t = some (.struct fs) → ∀ e ∈ fs.toList.map (·.type), e < P.types.size) := by
  have h1 := List.all_eq_true.1 hP t (List.mem_range.2 h)
  rw [Bool.and_eq_true] at h1
  obtain ⟨h1, h2⟩ := h1
  refine ⟨of_decide_eq_true h1, fun e q => ?_, fun e q => ?_, fun n e q => ?_, fun k e q => ?_, fun fs q => ?_⟩
  · rw [q] at h2; exact of_decide_eq_true h2
  · rw [q] at h2; exact of_decide_eq_true h2
  · rw [q] at h2; exact of_decide_eq_true h2
  · rw [q] at h2
    rw [Bool.and_eq_true] at h2
    exact ⟨of_decide_eq_true h2.1, of_decide_eq_true h2.2⟩
  · rw [q] at h2
    exact fun e he => of_decide_eq_true (List.all_eq_true.1 h2 e he)
theorem one_C {C : Nat} (hC : C = 8192) : 1 ≤ C := by rw [hC]; decide
theorem two_C {P : Program} {C : Nat} (hC : C = 8192) (hP : closedT P = true) {e k : TypeId} (h : e < P.types.size) (h' : k < P.types.size) : P.bytesOf e + P.bytesOf k ≤ C := by
  have h1 := (closed_at hP h).1
  have h2 := (closed_at hP h').1
  rw [hC]
  exact Nat.add_le_add h1 h2
mutual
theorem wb {H : Type} {P : Program} {C : Nat} (hC : C = 8192) (hP : closedT P = true) : ∀ (d : DataW H) (t : TypeId), t < P.types.size → ∀ m ∈ d.weights P t, m ≤ Rows.uptoBulk d * C
  | .lit l, t, hlt, m, h => by
    cases l with
    | string b =>
      simp only [DataW.weights, List.mem_singleton] at h
      subst h
      simp only [Rows.uptoBulk]
      exact Nat.le_trans (Nat.le_succ _) (Nat.le_trans (Nat.le_of_eq (Nat.mul_one _).symm) (Nat.mul_le_mul_left _ (one_C hC)))
    | _ => simp [DataW.weights] at h
  | .nil, t, hlt, m, h => by simp [DataW.weights] at h
  | .ptr d, t, hlt, m, h => by
    simp only [DataW.weights] at h
    simp only [Rows.uptoBulk]
    split at h
    · rename_i e q; exact le_of_mul (wb hC hP d _ ((closed_at hP hlt).2.2.1 e q) m h) (by omega)
    · cases h
  | .slice es sp, t, hlt, m, h => by
    simp only [DataW.weights] at h
    simp only [Rows.uptoBulk]
    split at h
    · rename_i e q
      have he := (closed_at hP hlt).2.1 e q
      rcases List.mem_cons.1 h with rfl | h
      · have h1 := bulk_len es
        have h2 := bulk_len sp
        exact le_of_mul (Nat.mul_le_mul (show es.length + sp.length ≤ Rows.uptoBulkAll es + Rows.uptoBulkAll sp by omega) (Nat.le_trans (Nat.le_add_right _ _) (two_C hC hP he he))) (by omega)
      · rcases List.mem_append.1 h with h | h
        · exact le_of_mul (wbAll hC hP es e he m h) (by omega)
        · exact le_of_mul (wbAll hC hP sp e he m h) (by omega)
    · cases h
  | .agg ps, t, hlt, m, h => by
    simp only [DataW.weights] at h
    simp only [Rows.uptoBulk]
    split at h
    · rename_i fs q; exact le_of_mul (wbEach hC hP ps _ ((closed_at hP hlt).2.2.2.2.2 fs q) m h) (by omega)
    · rename_i n e q; exact le_of_mul (wbAll hC hP ps _ ((closed_at hP hlt).2.2.2.1 n e q) m h) (by omega)
    · cases h
  | .iface n d, t, hlt, m, h => by simp [DataW.weights] at h
  | .map es, t, hlt, m, h => by
    simp only [DataW.weights] at h
    simp only [Rows.uptoBulk]
    split at h
    · rename_i k e q
      obtain ⟨hk, he⟩ := (closed_at hP hlt).2.2.2.2.1 k e q
      rcases List.mem_cons.1 h with rfl | h
      · exact le_of_mul (Nat.mul_le_mul (bulk_entries es) (two_C hC hP hk he)) (by omega)
      · exact le_of_mul (wbEntries hC hP es e he m h) (by omega)
    · cases h
  | .held x, t, hlt, m, h => by simp [DataW.weights] at h
theorem wbAll {H : Type} {P : Program} {C : Nat} (hC : C = 8192) (hP : closedT P = true) : ∀ (l : List (DataW H)) (t : TypeId), t < P.types.size → ∀ m ∈ DataW.weightsAll P t l, m ≤ Rows.uptoBulkAll l * C
  | [], t, hlt, m, h => by simp [DataW.weightsAll] at h
  | d :: r, t, hlt, m, h => by
    simp only [DataW.weightsAll, List.mem_append] at h
    simp only [Rows.uptoBulkAll]
    rcases h with h | h
    · exact le_of_mul (wb hC hP d t (by first | exact hlt | exact hlt _ (by simp)) m h) (by omega)
    · exact le_of_mul (wbAll hC hP r t hlt m h) (by omega)
theorem wbEach {H : Type} {P : Program} {C : Nat} (hC : C = 8192) (hP : closedT P = true) : ∀ (l : List (DataW H)) (ts : List TypeId), (∀ t ∈ ts, t < P.types.size) → ∀ m ∈ DataW.weightsEach P ts l, m ≤ Rows.uptoBulkAll l * C
  | [], ts, hlt, m, h => by cases ts <;> simp [DataW.weightsEach] at h
  | d :: r, [], hlt, m, h => by simp [DataW.weightsEach] at h
  | d :: r, t :: ts, hlt, m, h => by
    simp only [DataW.weightsEach, List.mem_append] at h
    simp only [Rows.uptoBulkAll]
    rcases h with h | h
    · exact le_of_mul (wb hC hP d t (by first | exact hlt | exact hlt _ (by simp)) m h) (by omega)
    · exact le_of_mul (wbEach hC hP r ts (fun t ht => hlt t (by simp [ht])) m h) (by omega)
theorem wbEntries {H : Type} {P : Program} {C : Nat} (hC : C = 8192) (hP : closedT P = true) : ∀ (l : List (Lit × DataW H)) (t : TypeId), t < P.types.size → ∀ m ∈ DataW.weightsEntries P t l, m ≤ Rows.uptoBulkEntries l * C
  | [], t, hlt, m, h => by simp [DataW.weightsEntries] at h
  | x :: r, t, hlt, m, h => by
    simp only [DataW.weightsEntries, List.mem_append] at h
    simp only [Rows.uptoBulkEntries]
    rcases h with h | h
    · exact le_of_mul (wbEntry hC hP x t hlt m h) (by omega)
    · exact le_of_mul (wbEntries hC hP r t hlt m h) (by omega)
theorem wbEntry {H : Type} {P : Program} {C : Nat} (hC : C = 8192) (hP : closedT P = true) : ∀ (x : Lit × DataW H) (t : TypeId), t < P.types.size → ∀ m ∈ DataW.weightsEntry P t x, m ≤ Rows.uptoBulkEntry x * C
  | (l, d), t, hlt, m, h => by
    have hb := wb hC hP d t hlt
    cases l with
    | string b =>
      simp only [DataW.weightsEntry, List.mem_cons] at h
      simp only [Rows.uptoBulkEntry]
      rcases h with rfl | h
      · exact le_of_mul (a := b.length) (Nat.le_trans (Nat.le_of_eq (Nat.mul_one _).symm) (Nat.mul_le_mul_left _ (one_C hC))) (by omega)
      · exact le_of_mul (hb m h) (by omega)
    | _ =>
      simp only [DataW.weightsEntry] at h
      simp only [Rows.uptoBulkEntry]
      exact le_of_mul (hb m h) (by omega)
end
/-- What an argument weighs. -/
theorem bulk_weights {H : Type} {P : Program} {C : Nat} (hC : C = 8192) (hP : closedT P = true) {ds : List (DataW H)} {d : DataW H} {t : TypeId} (h : Rows.uptoBulkAll ds ≤ 1048576) (hlt : t < P.types.size) (hd : d ∈ ds) {m : Nat} (hm : m ∈ d.weights P t) : m ≤ 9000000000 :=
  Nat.le_trans (wb hC hP d t hlt m hm) (Nat.le_trans (Nat.mul_le_mul (Nat.le_trans (bulk_mem hd) h) (Nat.le_of_eq hC)) (by decide))
end Go.Proofs.YtgloielnnakknaaDoor
namespace Go.Proofs.YtgloielnnakknaaDoor
open Go.ChangeShapes Go.WideShapes Go.ChangeAt Go.RowKit
theorem law_liftedU {C : Checked} {os : Os} {f : FuncId} {fn : Func} {s : ChangeSpec} {tb : TypeId} {apart fresh : Bool} {conds : List PathCond} {laid : List (String × DataW Unit)} (started : os.Started) (H : Type) (enc : TypeId × Value → H) (F : Stop.Interp)
    (own : ownKnob C.prog.godebug = none) (noInit : C.prog.inits.idxOf? f = none) (hfn : C.prog.funcs[f]? = some fn)
    (witness : ∃ (w : World) (tape : Tape) (i : Input), w.os = os ∧ (w.forCall tape i).Shaped C.prog ∧ i.vars = [] ∧ Input.okWide C.prog (w.forCall tape i) .any w.heap.size f i ∧
      (Rows.OpenSpec.upto s).preRow enc C.prog fn conds apart laid (w.forCall tape i).memory i.args ∧ ({} : Assume).holds C.prog (lone (Frame.enter C.prog f i.args .normal) [] (w.forCall tape i)))
    (hl : laidOutB C.prog = true) (hT : paramsRead C.prog fn = true) (hres : fn.resultTypes = #[tb]) (htb : C.prog.underlying tb = some .bool) (hvars : s.vars = [])
    (hsp : ∀ ds : List (DataW H), ds.length = fn.params.size → s.fn H ds = { results := [.lit (.bool true)], args := ds })
    (walk : ∀ (W : World) (base : Nat) (args : Array Value) (ds : List (DataW H)) (p : List MemPlace),
      (∀ (j : Nat) t v, fn.params[j]? = some t → args[j]? = some v → Value.okWide C.prog W .any base t v) →
      DataW.TrodAll enc C.prog W 0 (fun _ => true) true fn.params.toList args.toList ds p → (∀ x ∈ p, x.block < W.heap.size) →
      Rows.uptoBulkAll ds ≤ 1048576 →
      Calls C.prog f args W fun e W' => e = .returned (.bool true) ∧ Below W.heap.size W W') :
    ReturnsInHanded {} C os f .any ((Rows.OpenSpec.upto s).preRow enc C.prog fn conds apart laid) (((Rows.OpenSpec.upto s).at F).post enc C.prog fn apart fresh false false) := by
  refine returnsInHanded_of_row (s := Rows.OpenSpec.upto s) own started noInit hfn witness ?_
  intro W base args ds gs before hval hW0 _ hk _ _ _ _
  have hW : DataW.Whole enc C.prog fn.params.toList s.vars apart W args.toList ds gs before := hW0
  have hgs : gs = [] := by
    obtain ⟨p, q, hA, hV, he, _, _⟩ := hW
    rw [hvars] at hV
    exact (trodVars_none hV).1
  subst hgs
  have hlen : ds.length = fn.params.size := by
    obtain ⟨p, q, hA, _⟩ := hW
    have hlt : ∀ {ts : List TypeId} {vs : List Value} {ds : List (DataW H)} {ps : List MemPlace}, DataW.TrodAll enc C.prog W 0 (fun _ => true) true ts vs ds ps → ds.length = ts.length := by
      intro ts
      induction ts with
      | nil => intro vs ds ps h; cases vs <;> cases ds <;> first | rfl | exact h.elim
      | cons t ts ih =>
        intro vs ds ps h
        cases vs with
        | nil => exact h.elim
        | cons v vs =>
          cases ds with
          | nil => exact h.elim
          | cons d ds =>
            obtain ⟨p, q, _, h2, _⟩ := h
            simp [ih h2]
    simpa using hlt hA
  have hb := of_decide_eq_true (hk _ rfl)
  rw [List.append_nil] at hb
  have hlt := hW.lt
  have hp : ∃ p, DataW.TrodAll enc C.prog W 0 (fun _ => true) true fn.params.toList args.toList ds p ∧ ∀ x ∈ p, x.block < W.heap.size := by
    obtain ⟨p, q, hA, hV, he, _, _⟩ := hW
    exact ⟨p, hA, fun x hx => hlt x (by rw [he]; exact List.mem_append_left _ hx)⟩
  obtain ⟨p, hA, hpl⟩ := hp
  refine (walk W base args ds p hval hA hpl hb).mono fun e W' ⟨he, hb⟩ => ?_
  exact ⟨_, he, post_of_below hl hT hres htb hvars (hsp ds hlen) hW hb⟩
end Go.Proofs.YtgloielnnakknaaDoor
namespace Go.Proofs.YtgloielnnakknaaDoor
open Go.ChangeShapes Go.WideShapes Go.ChangeAt Go.RowKit
theorem laid_out : laidOutB Tryd.prog = true := by kernel_rfl
theorem own_knob : ownKnob Tryd.prog.godebug = none := by kernel_rfl
mutual
def cellsD : DataW Unit → List Value
  | .lit (.int k n) => [.int k n]
  | .agg ps => cellsDs ps
  | _ => []
def cellsDs : List (DataW Unit) → List Value
  | [] => []
  | d :: r => cellsD d ++ cellsDs r
end
def setCs (cs : List Value) : Obj → Obj
  | .cells _ t frozen => .cells cs.toArray t frozen
  | o => o
noncomputable def laidWorld (os : Os) : World :=
  { World.holding Tryd.prog os ⟨#[], #[], []⟩ with heap := ((World.holding Tryd.prog os ⟨#[], #[], []⟩).heap.modify 1 (setCs (cellsD Rows.laid_unicode_utf8_first))).modify 2 (setCs (cellsD Rows.laid_unicode_utf8_acceptRanges)) }
abbrev laidL : List (String × DataW Unit) := [("unicode/utf8.acceptRanges", Rows.laid_unicode_utf8_acceptRanges), ("unicode/utf8.first", Rows.laid_unicode_utf8_first)]
theorem laid_met (os : Os) (args : Array Value) : laidMet Tryd.prog laidL ((laidWorld os).forCall (fun _ _ => 0) ⟨#[], args, []⟩).memory :=
  laidMet_of_run' 8 (by kernel_rfl) (by kernel_rfl)
theorem closed_T : closedT Tryd.prog = true := by kernel_rfl
end Go.Proofs.YtgloielnnakknaaDoor
namespace Go.Proofs.YtgloielnnakknaaDoor
open Go.RowKit
end Go.Proofs.YtgloielnnakknaaDoor
namespace Go.Proofs.YtgloielnnakknaaDoor
open Go.RowKit
inductive Rs where
  | go (b o : List ByteArray)
  | stop
  | bad
def inB (n : ByteArray) (l : List ByteArray) : Bool := l.any fun m => decide (m = n)
def beginOk (n : ByteArray) (b : List ByteArray) : Bool := !inB n b && (decide ((chainM n).length ≤ 1) || inB (parB n) b)
def on1 : Rs → Ev → Rs
  | .go b o, e => if e.kind = 3 ∨ e.kind = 6 then .stop else if e.kind = 1 then (if beginOk e.name b = true then .go (b ++ [e.name]) (o ++ [e.name]) else .bad) else if e.kind = 2 then (if o.getLast? = some e.name then .go b o.dropLast else .bad) else .go b o
  | r, _ => r
def onL (r : Rs) (l : List Ev) : Rs := l.foldl on1 r
abbrev onS (s : Ld) : Rs := onL (.go [] []) s.log
abbrev names (s : Ld) : List ByteArray := s.mods.map Md.name
structure Alive (s : Ld) (o : List ByteArray) : Prop where
  on : onS s = .go (names s) o
  all : ∀ j, j < s.mods.length → j ∈ s.table
structure Pre (s : Ld) (i : Nat) (o : List ByteArray) : Prop where
  on : onS s = .go (names s).dropLast o
  all : ∀ j, j < s.mods.length → j ∈ s.table
  last : i + 1 = s.mods.length
  new : beginOk (nameS s i) (names s).dropLast = true
theorem noteS_log {s : Ld} {k : Int} {n : ByteArray} : (noteS s k n).full = true ∨ (s.full = false ∧ (noteS s k n).log = s.log ++ [⟨k, n⟩]) := by
  unfold noteS noteLog
  cases h : noteFull s.log s.full
  · right
    refine ⟨?_, by simp⟩
    unfold noteFull at h
    simp at h; exact h.1
  · exact .inl rfl
theorem onS_note {s : Ld} {k : Int} {n : ByteArray} (h : (noteS s k n).full = false) : onS (noteS s k n) = on1 (onS s) ⟨k, n⟩ := by
  rcases noteS_log (s := s) (k := k) (n := n) with h1 | ⟨_, h2⟩
  · rw [h] at h1; cases h1
  · unfold onS onL; rw [h2, List.foldl_append]; rfl
theorem names_upd {s : Ld} {i : Nat} {f : Md → Md} (hf : ∀ m, (f m).name = m.name) : names (updS s i f) = names s := by
  apply List.ext_getElem?
  intro j
  simp only [names, updS, List.getElem?_map, updM_get]
  cases s.mods[j]? with
  | none => rfl
  | some m =>
    simp only [Option.map_some]
    split
    · rw [hf]
    · rfl
theorem Alive.upd {s : Ld} {o : List ByteArray} (h : Alive s o) {i : Nat} {f : Md → Md} (hf : ∀ m, (f m).name = m.name) : Alive (updS s i f) o :=
  ⟨by rw [names_upd hf]; exact h.on, fun j hj => h.all j (by simpa [updS, updM_len] using hj)⟩
theorem Alive.set {s : Ld} {o : List ByteArray} (h : Alive s o) (i : Nat) (n : ByteArray) (v : Option Nat) : Alive (setS s i n v) o := h.upd fun _ => rfl
theorem Alive.drop {s : Ld} {o : List ByteArray} (h : Alive s o) (i : Nat) (n : ByteArray) : Alive (dropS s i n) o := h.upd fun _ => rfl
theorem Alive.run {s : Ld} {o : List ByteArray} (h : Alive s o) (i : Nat) (d : Int) : Alive (runS s i d) o := h.upd fun _ => rfl
/-- Too many events, or all well so far. -/
def Fa (s : Ld) (o : List ByteArray) : Prop := s.full = true ∨ Alive s o
def Fd (s : Ld) : Prop := s.full = true ∨ onS s = .stop
def RO (us : List Un) (R : Ld → Nat → Ld × Bool) : Prop := ∀ s i o, Inv us s → i < s.mods.length → (s.full = true ∨ Pre s i o) → ((R s i).2 = true → Fa (R s i).1 o) ∧ ((R s i).2 = false → Fd (R s i).1)
def SO (us : List Un) (St : Ld → Nat → Stp → Ld × Bool) : Prop := ∀ s i t o, Inv us s → i < s.mods.length → (∃ u ∈ us, t ∈ u.steps) → Fa s o → ((St s i t).2 = true → Fa (St s i t).1 o) ∧ ((St s i t).2 = false → Fd (St s i t).1 ∨ Fa (St s i t).1 o)
theorem Fd.note {s : Ld} (h : Fd s) (k : Int) (n : ByteArray) : Fd (noteS s k n) := by
  rcases h with h | h
  · exact .inl (noteFull_mono h)
  · cases hf : (noteS s k n).full
    · exact .inr (by rw [onS_note hf, h]; rfl)
    · exact .inl hf
theorem Fa.fail {s : Ld} {o : List ByteArray} (h : Fa s o) {k : Int} (hk : k = 3 ∨ k = 6) (n : ByteArray) : Fd (noteS s k n) := by
  rcases h with h | h
  · exact .inl (noteFull_mono h)
  · cases hf : (noteS s k n).full
    · refine .inr ?_
      rw [onS_note hf, h.on]
      simp only [on1]
      rw [if_pos hk]
    · exact .inl hf
theorem Fa.other {s : Ld} {o : List ByteArray} (h : Fa s o) {k : Int} (hk : k = 4 ∨ k = 5) (n : ByteArray) : Fa (noteS s k n) o := by
  rcases h with h | h
  · exact .inl (noteFull_mono h)
  · cases hf : (noteS s k n).full
    · refine .inr ⟨?_, h.all⟩
      rw [onS_note hf, h.on]
      simp only [on1]
      rw [if_neg (by omega), if_neg (by omega), if_neg (by omega)]
      rfl
    · exact .inl hf
theorem Fa.upd {s : Ld} {o : List ByteArray} (h : Fa s o) (i : Nat) (f : Md → Md) (hf : ∀ m, (f m).name = m.name) : Fa (updS s i f) o := h.imp id fun h => h.upd hf
end Go.Proofs.YtgloielnnakknaaDoor
namespace Go.Proofs.YtgloielnnakknaaDoor
open Go.RowKit
def LI (s : Ld) : Prop := ∀ e ∈ s.log, e.name.size ≤ 200
def LR (us : List Un) (R : Ld → Nat → Ld × Bool) : Prop := ∀ s i, Inv us s → i < s.mods.length → LI s → LI (R s i).1
def LS (us : List Un) (St : Ld → Nat → Stp → Ld × Bool) : Prop := ∀ s i t, Inv us s → i < s.mods.length → (∃ u ∈ us, t ∈ u.steps) → LI s → LI (St s i t).1
theorem LI.note {s : Ld} (h : LI s) (k : Int) {n : ByteArray} (hn : n.size ≤ 200) : LI (noteS s k n) := by
  intro e he
  unfold noteS noteLog at he
  dsimp only at he
  split at he
  · exact h e he
  · rcases List.mem_append.1 he with he | he
    · exact h e he
    · simp at he; subst he; exact hn
end Go.Proofs.YtgloielnnakknaaDoor
namespace Go.Proofs.YtgloielnnakknaaDoor
open Go.RowKit
def no5 (l : List Stp) : Prop := ∀ t ∈ l, t.kind ≠ 5
structure Lb (l : List Un) : Prop where
  len : l.length ≤ 9000000000
  steps : ∀ u ∈ l, u.steps.length ≤ 9000000000
abbrev logA (log : List Ev) : Nat × Ob := (905, .ar 43 2 (log.map Ev.v))
end Go.Proofs.YtgloielnnakknaaDoor
namespace Go.Proofs.YtgloielnnakknaaDoor
open Go.ChangeShapes Go.WideShapes Go.Deep Go.RowKit
abbrev shSteps : Sh := .sl 40 [.int .i64, .str, .str]
abbrev shUnits : Sh := .sl 40 [.str, shSteps]
theorem shUnits_eq : shT tt 6 32 = some [shUnits] := by rfl
structure SOk (t : Stp) : Prop where
  name : t.name.size ≤ 9000000000
  part : t.part.size ≤ 9000000000
structure UOk (u : Un) : Prop where
  name : u.name.size ≤ 9000000000
  len : u.steps.length ≤ 9000000000
  steps : ∀ t ∈ u.steps, SOk t
structure LOk (l : List Un) : Prop where
  len : l.length ≤ 9000000000
  units : ∀ u ∈ l, UOk u
theorem LOk.lb {l : List Un} (h : LOk l) : Lb l := ⟨h.len, fun u hu => (h.units u hu).len⟩
theorem rows_ofP {α β : Type} {f : α → β} {P : α → Prop} : ∀ {rs : List β}, (∀ r ∈ rs, ∃ a, r = f a ∧ P a) → ∃ l : List α, rs = l.map f ∧ ∀ a ∈ l, P a
  | [], _ => ⟨[], rfl, fun _ h => by cases h⟩
  | r :: rs, h => by
    obtain ⟨a, rfl, ha⟩ := h r (by simp)
    obtain ⟨l, rfl, hl⟩ := rows_ofP (rs := rs) fun q hq => h q (by simp [hq])
    exact ⟨a :: l, rfl, fun b hb => by
      rcases List.mem_cons.1 hb with rfl | hb
      · exact ha
      · exact hl b hb⟩
theorem steps_of {x : V} (h : HasSh shSteps x) : ∃ l : List Stp, x = .sl 3 (l.map Stp.row) ∧ l.length ≤ 9000000000 ∧ ∀ t ∈ l, SOk t := by
  cases h with | sl hl hm hs hr h =>
  rename_i rs
  subst hs
  have : ∀ r ∈ rs, ∃ a : Stp, r = a.row ∧ SOk a := fun r hr' => by
    obtain ⟨x0, q, rfl, h0, hq⟩ := HasL.cons_inv ⟨hr r hr', h r hr'⟩
    obtain ⟨x1, q, rfl, h1, hq⟩ := hq.cons_inv
    obtain ⟨x2, q, rfl, h2, hq⟩ := hq.cons_inv
    have := hq.nil_inv
    subst this
    cases h0 with | int =>
    cases h1 with | str h1 =>
    cases h2 with | str h2 =>
    exact ⟨⟨_, _, _⟩, rfl, h1, h2⟩
  obtain ⟨l, rfl, hl2⟩ := rows_ofP this
  refine ⟨l, rfl, ?_, hl2⟩
  rw [List.length_map] at hl
  have : bigB = 9000000000 := rfl
  omega
theorem units_of {x : V} (h : HasSh shUnits x) : ∃ l : List Un, x = uns l ∧ LOk l := by
  cases h with | sl hl hm hs hr h =>
  rename_i rs
  subst hs
  have : ∀ r ∈ rs, ∃ a : Un, r = a.row ∧ UOk a := fun r hr' => by
    obtain ⟨x0, q, rfl, h0, hq⟩ := HasL.cons_inv ⟨hr r hr', h r hr'⟩
    obtain ⟨x1, q, rfl, h1, hq⟩ := hq.cons_inv
    have := hq.nil_inv
    subst this
    cases h0 with | str h0 =>
    obtain ⟨b, rfl, hb1, hb2⟩ := steps_of h1
    exact ⟨⟨_, b⟩, rfl, h0, hb1, hb2⟩
  obtain ⟨l, rfl, hl2⟩ := rows_ofP this
  refine ⟨l, rfl, ?_, hl2⟩
  rw [List.length_map] at hl
  have : bigB = 9000000000 := rfl
  omega
end Go.Proofs.YtgloielnnakknaaDoor
namespace Go.Proofs.YtgloielnnakknaaDoor
open Go.RowKit
theorem init_rel : RelW initS initR := ⟨fun i => by
  cases i with
  | zero => simp [initS, initR, toR]
  | succ i => simp [initS, initR], by simp [initS], rfl⟩
theorem fin_sim {l : List Un} (h : (validateM l).1 = 0) : Sim (runM l 5001 initS 0) (finR l) := runM_sim l 5001 initS initR 0 (init_inv h).1 init_rel rfl rfl (by simp [initS])
structure UsOk (l : List Un) : Prop where
  len : l.length ≤ 9000000000
  u : ∀ u ∈ l, u.name.size ≤ 1000000000000 ∧ u.steps.length ≤ 1000000000000 ∧ ∀ t ∈ u.steps, t.name.size ≤ 1000000000000
theorem LOk.us {l : List Un} (h : LOk l) : UsOk l := ⟨h.len, fun u hu => ⟨by have := (h.units u hu).name; omega, by have := (h.units u hu).len; omega, fun t ht => by have := ((h.units u hu).steps t ht).name; omega⟩⟩
end Go.Proofs.YtgloielnnakknaaDoor
namespace Go.Proofs.YtgloielnnakknaaDoor
open Go.RowKit
def nmI (ms : List Rm) (v : Int) : ByteArray := match ms[v.toNat]? with
  | some m => m.name
  | none => emp
def attR (ms : List Rm) (b n : ByteArray) (v : Int) : ByteArray := if 0 ≤ v then ((b ++ spB) ++ n ++ eqsB) ++ nmI ms v else (b ++ spB) ++ n
def mtxR (ms : List Rm) : ByteArray → List ByteArray → List Int → ByteArray
  | b, n :: r, v :: q => mtxR ms (attR ms b n v) r q
  | b, _, _ => b
def textsR (ms : List Rm) : List ByteArray → List Rm → List ByteArray
  | out, [] => out
  | out, m :: r => if m.gone = true then textsR ms out r else textsR ms (out ++ [mtxR ms (m.name ++ colB) m.nms m.vals]) r
structure Tx (ms : List Rm) : Prop where
  len : ms.length ≤ 1000000
  nm : ∀ m ∈ ms, m.name.size ≤ 60
  al : ∀ m ∈ ms, m.nms.length ≤ 4000 ∧ m.vals.length = m.nms.length
  an : ∀ m ∈ ms, ∀ n ∈ m.nms, n.size ≤ 60
  vl : ∀ m ∈ ms, ∀ v ∈ m.vals, v < ms.length
set_option maxHeartbeats 2000000 in
theorem mtexts_V (us : List Un) (ms : List Rm) (log : List Ev) (ok : Bool) (H : Tx ms) : CallsA Tryd.prog 19 [wdV us ⟨ms, log, ok⟩] [] (Iso (.d (.ow 907 (textsR ms [] ms).length)) [(907, .ar 9 1 (strs (textsR ms [] ms)))]) := by
  have hml := H.len
  have e1 : spB.size = 1 := rfl
  have e2 : eqsB.size = 1 := rfl
  have e3 : colB.size = 1 := rfl
  refine callsA_of_vcO (T := tt) Tryd.func19 rfl rfl rfl rfl rfl ?_
  repeat' ((conv => whnf); first | refine Gs.go (i := 2) (Ghost.nlOw 3 907 9 1 rfl rfl) ?_ | refine Gs.id ?_ | fail)
  all_goals (conv => whnf)
  refine ⟨⟨Nat × List ByteArray, fun x => x.1 ≤ ms.length ∧ textsR ms [] ms = textsR ms x.2 (ms.drop x.1) ∧ x.2.length ≤ x.1, fun x => ms.length - x.1, fun x => ⟨[(1, .d (.p 1 0)), (3, .d (.ow 907 x.2.length)), (4, di x.1)], [(907, .ar 9 1 (strs x.2)), (1, .bx 39 [.u (uns us), .u (.sl 5 (ms.map Rm.v)), .u (.sl 2 (log.map Ev.v)), .u (.bool ok)])]⟩, (0, []), ⟨Nat.zero_le _, rfl, Nat.le_refl _⟩, ⟨[(907, .k 907), (1, .k 1)], ⟨by (try dsimp only); (repeat (refine LeT.cons rfl (by first | exact LeS.d (by first | exact LeD.u rfl | exact LeD.p rfl | exact LeD.ow rfl rfl | fail) | fail) ?_)); exact LeT.nil, by (try dsimp only); repeat (first | exact LeO.nil | refine LeO.bx rfl rfl (by repeat (first | exact LeL.nil | refine LeL.cons (by first | exact LeD.u rfl | fail) ?_)) ?_ | refine LeO.ar rfl rfl (by first | rfl | fail) ?_ | fail)⟩⟩, fun x hx => ?_⟩⟩
  obtain ⟨i, out⟩ := x
  obtain ⟨hi, he, ho⟩ := hx
  dsimp only at hi he ho ⊢
  by_cases h9 : i < ms.length
  · obtain ⟨⟨a1, a2, a3, a4, a5⟩, hmd⟩ : ∃ m, ms[i]? = some m := ⟨_, List.getElem?_eq_getElem h9⟩
    have hmem := List.mem_of_getElem? hmd
    have hnz := H.nm _ hmem
    obtain ⟨hal, hvl⟩ := H.al _ hmem
    have han := H.an _ hmem
    have hvv := H.vl _ hmem
    dsimp only at hnz hal hvl han hvv
    rw [drop_get hmd, textsR] at he
    dsimp only at he
    cases a3
    · rw [if_neg (by simp)] at he
      have hcz : (a1 ++ colB).size ≤ 61 := by simp only [ByteArray.size_append, e3]; omega
      repeat' ((conv => whnf); first | refine Ix_get hmd ?_ | refine Cat.mk (by have hd2 : (⟨#[58]⟩ : ByteArray).size = 1 := rfl; unfold maxLen; simp only [ByteArray.size_append, hd2]; omega) ?_ | refine Gs.id ?_ | with_reducible refine Brn.F rfl ?_ | refine Brn.T (by (try simp only [smT]); first | rfl | omega | fail) ?_ | (refine Bnd.mk (fun hm => ?_); (try simp only [smT] at hm)) | fail)
      all_goals (conv => whnf)
      refine ⟨⟨Nat × ByteArray, fun x => x.1 ≤ a4.length ∧ mtxR ms (a1 ++ colB) a4 a5 = mtxR ms x.2 (a4.drop x.1) (a5.drop x.1) ∧ x.2.size ≤ 61 + 122 * x.1, fun x => a4.length - x.1, fun x => ⟨[(1, .d (.p 1 0)), (3, .d (.ow 907 out.length)), (4, di i), (5, .d (.p 5 0)), (6, dsr x.2), (7, di x.1)], [(5, .bx 69 [.u (.str a1), .u (.int .i64 a2), .u (.bool false), .u (.sl 1 (a4.map sv1)), .u (.sl 1 (a5.map iv1))]), (907, .ar 9 1 (strs out)), (1, .bx 39 [.u (uns us), .u (.sl 5 (ms.map Rm.v)), .u (.sl 2 (log.map Ev.v)), .u (.bool ok)])]⟩, (0, a1 ++ colB), ⟨Nat.zero_le _, rfl, hcz⟩, ⟨[(5, .k 5), (907, .k 907), (1, .k 1)], ⟨by (try dsimp only); (repeat (refine LeT.cons rfl (by first | exact LeS.d (by first | exact LeD.u rfl | exact LeD.p rfl | exact LeD.ow rfl rfl | fail) | fail) ?_)); exact LeT.nil, by (try dsimp only); repeat (first | exact LeO.nil | refine LeO.bx rfl rfl (by repeat (first | exact LeL.nil | refine LeL.cons (by first | exact LeD.u rfl | fail) ?_)) ?_ | refine LeO.ar rfl rfl (by first | rfl | fail) ?_ | fail)⟩⟩, fun x hx => ?_⟩⟩
      obtain ⟨k, s⟩ := x
      obtain ⟨hk, hk2, hk3⟩ := hx
      dsimp only at hk hk2 hk3 ⊢
      by_cases h8 : k < a4.length
      · obtain ⟨n, hn⟩ : ∃ n, a4[k]? = some n := ⟨_, List.getElem?_eq_getElem h8⟩
        obtain ⟨v, hv⟩ : ∃ v, a5[k]? = some v := ⟨_, List.getElem?_eq_getElem (by omega)⟩
        have hnz2 := han n (List.mem_of_getElem? hn)
        have hvm := hvv v (List.mem_of_getElem? hv)
        rw [drop_get hn, drop_get hv, mtxR] at hk2
        by_cases h0 : 0 ≤ v
        · obtain ⟨j, rfl⟩ : ∃ j : Nat, v = (j : Int) := ⟨v.toNat, (Int.toNat_of_nonneg h0).symm⟩
          obtain ⟨⟨b1, b2, b3, b4, b5⟩, hj⟩ : ∃ m, ms[j]? = some m := ⟨_, List.getElem?_eq_getElem (by omega)⟩
          have hbz := H.nm _ (List.mem_of_getElem? hj)
          dsimp only at hbz
          have hnmj : nmI ms (j : Int) = b1 := by simp [nmI, hj]
          rw [attR, if_pos h0, hnmj] at hk2
          have hsz : (((s ++ spB) ++ n ++ eqsB) ++ b1).size ≤ 61 + 122 * (k + 1) := by simp only [ByteArray.size_append, e1, e2]; omega
          repeat' ((conv => whnf); first | refine Ix_get hn ?_ | refine Ix_get hv ?_ | refine Ix_get hj ?_ | refine Cat.mk (by have hd2 : (⟨#[32]⟩ : ByteArray).size = 1 := rfl; have hd3 : (⟨#[61]⟩ : ByteArray).size = 1 := rfl; unfold maxLen; simp only [ByteArray.size_append, hd2, hd3]; omega) ?_ | refine Gs.id ?_ | with_reducible refine Brn.T rfl ?_ | refine Brn.T (by (try simp only [smT]); first | rfl | omega | fail) ?_ | (refine Bnd.mk (fun hm => ?_); (try simp only [smT] at hm)) | refine Rng.mk (by (try simp only [smT]); omega) ?_ | refine Drw.of (T := tt) (i := 13) [] [] [(0, true), (1, true), (2, true), (3, true), (4, true), (5, true), (6, true), (7, true), (8, true), (9, true), (10, true), (11, true), (12, true), (13, true)] (by kernel_rfl) ?_)
          all_goals (conv => whnf)
          all_goals exact ⟨(k + 1, ((s ++ spB) ++ n ++ eqsB) ++ b1), ⟨by dsimp only; omega, hk2, hsz⟩, by dsimp only; omega, [(5, .k 5), (907, .k 907), (1, .k 1)], ⟨by (try dsimp only); (repeat (refine LeT.cons rfl (by first | exact LeS.d (by first | exact LeD.u rfl | exact LeD.p rfl | exact LeD.ow rfl rfl | fail) | fail) ?_)); exact LeT.nil, by (try dsimp only); repeat (first | exact LeO.nil | refine LeO.bx rfl rfl (by repeat (first | exact LeL.nil | refine LeL.cons (by first | exact LeD.u rfl | fail) ?_)) ?_ | refine LeO.ar rfl rfl (by first | rfl | fail) ?_ | fail)⟩⟩
        · rw [attR, if_neg h0] at hk2
          have hsz : ((s ++ spB) ++ n).size ≤ 61 + 122 * (k + 1) := by simp only [ByteArray.size_append, e1]; omega
          repeat' ((conv => whnf); first | refine Ix_get hn ?_ | refine Ix_get hv ?_ | refine Cat.mk (by have hd2 : (⟨#[32]⟩ : ByteArray).size = 1 := rfl; unfold maxLen; simp only [ByteArray.size_append, hd2]; omega) ?_ | refine Gs.id ?_ | refine Brn.T (by (try simp only [smT]); first | rfl | omega | fail) ?_ | refine Brn.F (by (try simp only [smT]); first | rfl | omega | fail) ?_ | (refine Bnd.mk (fun hm => ?_); (try simp only [smT] at hm)) | refine Rng.mk (by (try simp only [smT]); omega) ?_ | fail)
          all_goals (conv => whnf)
          all_goals exact ⟨(k + 1, (s ++ spB) ++ n), ⟨by dsimp only; omega, hk2, hsz⟩, by dsimp only; omega, [(5, .k 5), (907, .k 907), (1, .k 1)], ⟨by (try dsimp only); (repeat (refine LeT.cons rfl (by first | exact LeS.d (by first | exact LeD.u rfl | exact LeD.p rfl | exact LeD.ow rfl rfl | fail) | fail) ?_)); exact LeT.nil, by (try dsimp only); repeat (first | exact LeO.nil | refine LeO.bx rfl rfl (by repeat (first | exact LeL.nil | refine LeL.cons (by first | exact LeD.u rfl | fail) ?_)) ?_ | refine LeO.ar rfl rfl (by first | rfl | fail) ?_ | fail)⟩⟩
      · obtain rfl : k = a4.length := by omega
        rw [List.drop_length, show a5.drop a4.length = [] by rw [← hvl]; exact List.drop_length] at hk2
        rw [hk2, show mtxR ms s [] [] = s by rw [mtxR]; intros; contradiction] at he
        repeat' ((conv => whnf); first | refine Gs.id ?_ | refine Brn.F (by (try simp only [smT]); first | rfl | omega | fail) ?_ | (refine Bnd.mk (fun hm => ?_); (try simp only [smT] at hm)) | refine Rng.mk (by (try simp only [smT]); omega) ?_ | refine Apd.mk (by first | rfl | simp) (by first | rfl | fail) (by (try simp only [smT]); first | omega | fail) (by unfold maxLen; first | (simp; omega) | fail) ?_ | fail)
        all_goals (conv => whnf)
        all_goals exact ⟨(i + 1, out ++ [s]), ⟨by dsimp only; omega, he, by simp; omega⟩, by dsimp only; omega, [(907, .k 62), (1, .k 1)], ⟨by (try dsimp only); (repeat (refine LeT.cons rfl (by first | exact LeS.d (by first | exact LeD.u rfl | exact LeD.p rfl | exact LeD.ow rfl (by simp) | fail) | fail) ?_)); exact LeT.nil, by (try dsimp only); repeat (first | exact LeO.nil | refine LeO.bx rfl rfl (by repeat (first | exact LeL.nil | refine LeL.cons (by first | exact LeD.u rfl | fail) ?_)) ?_ | refine LeO.ar rfl rfl (by first | simp) ?_ | fail)⟩⟩
    · rw [if_pos rfl] at he
      repeat' ((conv => whnf); first | refine Ix_get hmd ?_ | refine Gs.id ?_ | with_reducible refine Brn.T rfl ?_ | refine Brn.T (by (try simp only [smT]); first | rfl | omega | fail) ?_ | (refine Bnd.mk (fun hm => ?_); (try simp only [smT] at hm)) | refine Rng.mk (by (try simp only [smT]); omega) ?_ | fail)
      all_goals (conv => whnf)
      all_goals exact ⟨(i + 1, out), ⟨by dsimp only; omega, he, by dsimp only; omega⟩, by dsimp only; omega, [(907, .k 907), (1, .k 1)], ⟨by (try dsimp only); (repeat (refine LeT.cons rfl (by first | exact LeS.d (by first | exact LeD.u rfl | exact LeD.p rfl | exact LeD.ow rfl rfl | fail) | fail) ?_)); exact LeT.nil, by (try dsimp only); repeat (first | exact LeO.nil | refine LeO.bx rfl rfl (by repeat (first | exact LeL.nil | refine LeL.cons (by first | exact LeD.u rfl | fail) ?_)) ?_ | refine LeO.ar rfl rfl (by first | rfl | fail) ?_ | fail)⟩⟩
  · obtain rfl : i = ms.length := by omega
    rw [List.drop_length, textsR] at he
    rw [he]
    repeat' ((conv => whnf); first | refine Gs.id ?_ | refine Brn.F (by (try simp only [smT]); first | rfl | omega | fail) ?_ | (refine Bnd.mk (fun hm => ?_); (try simp only [smT] at hm)) | fail)
    all_goals (conv => whnf)
    all_goals refine RetO.mk ⟨[(907, .k 907)], _, _, (by first | exact LeS.d (by first | exact LeD.ow rfl rfl | fail) | fail), (by repeat (first | exact LeO.nil | refine LeO.ar rfl rfl (by first | rfl | fail) ?_ | fail)), rfl, rfl⟩
end Go.Proofs.YtgloielnnakknaaDoor
