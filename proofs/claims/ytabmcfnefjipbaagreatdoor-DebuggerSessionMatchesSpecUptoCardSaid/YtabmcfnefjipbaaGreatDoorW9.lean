/-
  Part 9 of the proofs of dsession_holds: laws and contracts that they need.
-/
import Derived.Test.YtabmcfnefjipbaaGreatDoorW8
import Derived.Shelf.LaysC
import Derived.Shelf.Strconv.ErrVarAll
import Derived.Lib.AtoiAllCases
import Derived.Stop.IfaceNil
set_option linter.unusedVariables false
set_option linter.unusedSimpArgs false
namespace Go.Proofs.YtabmcfnefjipbaaGreatDoor
open Go.RowKit
set_option maxHeartbeats 8000000 in
theorem doA_where (us : List Value) (zb : Fz) {l : List Ev} (hv : Vd l) (hL : l.length ≤ 20000) (he : ∀ e ∈ l,e.locs.length ≤ 9000000000) (hn : ∀ e ∈ l,e.line ≤ 9223372036854775807) (p : Int) (hp : -1 ≤ p ∧ p ≤ (l.length : Int)) (bs : List Bp) (hb : bs.length ≤ 1000) (c : ByteArray) (hc : c.size ≤ 4000) (zt : Fz) (hz : Tab zt) (hcm : cmdM (depM l p) bs c = none) (c1 : c ≠ clearK) (c2 : c = whereK) :
  CallsA Tryz.prog 65 [.d (.p 1 0),dsr c] [(902,.ab [.p 1 0] us zb (· = [])),(1,.bx 120 (sesV l p bs)),(907,tbOb zt)] (Iso (dsr (whereL ((activeM l p).map Av.pc))) [(902,.ab [.p 1 0] us zb (· = [])),(1,.bx 120 (sesV l (p) (bs))),(907,tbOb zt)]) := by
 have hcut := cutJ_T c (by omega)
 have hmo : CallsA Tryz.prog 54 [.d (.u (evs l)),.d (.u (bkV bs)),di p] [] (Iso (.d (.mp 920)) [(920,.mp false true (motE (depM l p) (bkV bs)))]) := by
  cases bs with
  | nil => exact motions0_T l p hp
  | cons b r => exact motions_T l (b :: r) p hp
 have hmk : ∀ e ∈ l,CallsA Tryz.prog 89 [.a e.ds,.d (.q [bkV bs] 0)] [] (Is (db (bs.any (hitB e)))) := by
  intro e q
  cases bs with
  | nil => exact mrk0_T e (he e q)
  | cons b r => exact mrk_T (b :: r) e (he e q) (by omega)
 obtain ⟨m1,m2⟩ := motE_get (depM l p) (bkV bs) c zMot
 have hok := motE_ok (depM l p) (bkV bs)
 rw [cmd_none hcm] at m1 m2
 clear hmk hcm
 refine callsA_of_rdO (T := tt) Tryz.func65 rfl rfl rfl rfl rfl ?_
 refine' cutR (fun _ : Unit => True) (fun _ => ⟨[(0,.d (.p 1 0)),(1,dsr c),(5,dsr (cutW c)),(6,dsr (cutR' c)),(9,db false)],[(902,.ab [.p 1 0] us zb (· = [])),(1,.bx 120 (sesV l p bs)),(907,tbOb zt)]⟩) _ (fun hR => ?_) ?_
 rotate_left
 ·repeat' ((conv => whnf);first | refine Mlk.of zMot false (by kernel_rfl) hok m1 m2 ?_ | (exact Gs.cut (i := 3) (by assumption) () [(902,.k 902),(1,.k 1),(907,.k 907)] rfl ⟨by (try dsimp only);(repeat (refine LeT.cons rfl (by first | exact LeS.d (by first | exact LeD.u rfl | exact LeD.p rfl | fail) | fail) ?_));(first | exact LeT.nil | fail),by (try dsimp only);(repeat (first | exact LeO.nil | refine LeO.bx rfl rfl (by repeat (first | exact LeL.nil | refine LeL.cons (by first | exact LeD.u rfl | fail) ?_)) ?_ | refine LeO.ab rfl rfl (by repeat (first | exact LeL.nil | refine LeL.cons (by first | exact LeD.p rfl | fail) ?_)) (by first | rfl | fail) ?_ | fail));done⟩ (by trivial)) | refine Gs.id ?_ | with_reducible refine And.intro ?_ ?_ | refine Drw.ofT (T := tt) (i := 2) [3,7,11,12,14,18,19] [0,1,2,4,5,6,8,9,10,13,15,16,17,20] (OF.fst 0 (OF.fst 1 (OF.fst 2 (OF.fst 4 (OF.fst 5 (OF.fst 6 (OF.fst 8 (OF.fst 9 (OF.fst 10 (OF.fst 13 (OF.alt 3 (OF.alt 7 (OF.alt 11 (OF.alt 12 (OF.alt 14 (OF.fst 15 (OF.fst 16 (OF.fst 17 (OF.alt 18 (OF.alt 19 (OF.fst 20 OF.nil) OF.nil) OF.nil)))) (OF.alt 18 (OF.alt 14 (OF.fst 15 (OF.fst 16 (OF.fst 17 (OF.alt 19 (OF.fst 20 OF.nil) OF.nil)))) OF.nil) OF.nil)) (OF.alt 18 (OF.alt 12 (OF.alt 14 (OF.fst 15 (OF.fst 16 (OF.fst 17 (OF.alt 19 (OF.fst 20 OF.nil) OF.nil)))) OF.nil) OF.nil) OF.nil)) (OF.alt 18 (OF.alt 11 (OF.alt 12 (OF.alt 14 (OF.fst 15 (OF.fst 16 (OF.fst 17 (OF.alt 19 (OF.fst 20 OF.nil) OF.nil)))) OF.nil) OF.nil) OF.nil) OF.nil)) (OF.alt 11 (OF.alt 7 (OF.alt 12 (OF.alt 14 (OF.fst 15 (OF.fst 16 (OF.fst 17 (OF.alt 18 (OF.alt 19 (OF.fst 20 OF.nil) OF.nil) OF.nil)))) (OF.alt 18 (OF.alt 14 (OF.fst 15 (OF.fst 16 (OF.fst 17 (OF.alt 19 (OF.fst 20 OF.nil) OF.nil)))) OF.nil) OF.nil)) (OF.alt 18 (OF.alt 12 (OF.alt 14 (OF.fst 15 (OF.fst 16 (OF.fst 17 (OF.alt 19 (OF.fst 20 OF.nil) OF.nil)))) OF.nil) OF.nil) OF.nil)) (OF.alt 18 (OF.alt 7 (OF.alt 12 (OF.alt 14 (OF.fst 15 (OF.fst 16 (OF.fst 17 (OF.alt 19 (OF.fst 20 OF.nil) OF.nil)))) OF.nil) OF.nil) OF.nil) OF.nil)) (OF.alt 18 (OF.alt 7 (OF.alt 11 (OF.alt 12 (OF.alt 14 (OF.fst 15 (OF.fst 16 (OF.fst 17 (OF.alt 19 (OF.fst 20 OF.nil) OF.nil)))) OF.nil) OF.nil) OF.nil) (OF.alt 11 (OF.alt 7 (OF.alt 12 (OF.alt 14 (OF.fst 15 (OF.fst 16 (OF.fst 17 (OF.alt 19 (OF.fst 20 OF.nil) OF.nil)))) OF.nil) OF.nil) OF.nil) OF.nil)) OF.nil))) (OF.alt 7 (OF.alt 3 (OF.alt 11 (OF.alt 12 (OF.alt 14 (OF.fst 15 (OF.fst 16 (OF.fst 17 (OF.alt 18 (OF.alt 19 (OF.fst 20 OF.nil) OF.nil) OF.nil)))) (OF.alt 18 (OF.alt 14 (OF.fst 15 (OF.fst 16 (OF.fst 17 (OF.alt 19 (OF.fst 20 OF.nil) OF.nil)))) OF.nil) OF.nil)) (OF.alt 18 (OF.alt 12 (OF.alt 14 (OF.fst 15 (OF.fst 16 (OF.fst 17 (OF.alt 19 (OF.fst 20 OF.nil) OF.nil)))) OF.nil) OF.nil) OF.nil)) (OF.alt 18 (OF.alt 11 (OF.alt 12 (OF.alt 14 (OF.fst 15 (OF.fst 16 (OF.fst 17 (OF.alt 19 (OF.fst 20 OF.nil) OF.nil)))) OF.nil) OF.nil) OF.nil) OF.nil)) (OF.alt 11 (OF.alt 3 (OF.alt 12 (OF.alt 14 (OF.fst 15 (OF.fst 16 (OF.fst 17 (OF.alt 18 (OF.alt 19 (OF.fst 20 OF.nil) OF.nil) OF.nil)))) (OF.alt 18 (OF.alt 14 (OF.fst 15 (OF.fst 16 (OF.fst 17 (OF.alt 19 (OF.fst 20 OF.nil) OF.nil)))) OF.nil) OF.nil)) (OF.alt 18 (OF.alt 12 (OF.alt 14 (OF.fst 15 (OF.fst 16 (OF.fst 17 (OF.alt 19 (OF.fst 20 OF.nil) OF.nil)))) OF.nil) OF.nil) OF.nil)) (OF.alt 18 (OF.alt 3 (OF.alt 12 (OF.alt 14 (OF.fst 15 (OF.fst 16 (OF.fst 17 (OF.alt 19 (OF.fst 20 OF.nil) OF.nil)))) OF.nil) OF.nil) OF.nil) OF.nil)) (OF.alt 18 (OF.alt 3 (OF.alt 11 (OF.alt 12 (OF.alt 14 (OF.fst 15 (OF.fst 16 (OF.fst 17 (OF.alt 19 (OF.fst 20 OF.nil) OF.nil)))) OF.nil) OF.nil) OF.nil) (OF.alt 11 (OF.alt 3 (OF.alt 12 (OF.alt 14 (OF.fst 15 (OF.fst 16 (OF.fst 17 (OF.alt 19 (OF.fst 20 OF.nil) OF.nil)))) OF.nil) OF.nil) OF.nil) OF.nil)) OF.nil))) (OF.alt 11 (OF.alt 3 (OF.alt 7 (OF.alt 12 (OF.alt 14 (OF.fst 15 (OF.fst 16 (OF.fst 17 (OF.alt 18 (OF.alt 19 (OF.fst 20 OF.nil) OF.nil) OF.nil)))) (OF.alt 18 (OF.alt 14 (OF.fst 15 (OF.fst 16 (OF.fst 17 (OF.alt 19 (OF.fst 20 OF.nil) OF.nil)))) OF.nil) OF.nil)) (OF.alt 18 (OF.alt 12 (OF.alt 14 (OF.fst 15 (OF.fst 16 (OF.fst 17 (OF.alt 19 (OF.fst 20 OF.nil) OF.nil)))) OF.nil) OF.nil) OF.nil)) (OF.alt 18 (OF.alt 7 (OF.alt 12 (OF.alt 14 (OF.fst 15 (OF.fst 16 (OF.fst 17 (OF.alt 19 (OF.fst 20 OF.nil) OF.nil)))) OF.nil) OF.nil) OF.nil) OF.nil)) (OF.alt 7 (OF.alt 3 (OF.alt 12 (OF.alt 14 (OF.fst 15 (OF.fst 16 (OF.fst 17 (OF.alt 18 (OF.alt 19 (OF.fst 20 OF.nil) OF.nil) OF.nil)))) (OF.alt 18 (OF.alt 14 (OF.fst 15 (OF.fst 16 (OF.fst 17 (OF.alt 19 (OF.fst 20 OF.nil) OF.nil)))) OF.nil) OF.nil)) (OF.alt 18 (OF.alt 12 (OF.alt 14 (OF.fst 15 (OF.fst 16 (OF.fst 17 (OF.alt 19 (OF.fst 20 OF.nil) OF.nil)))) OF.nil) OF.nil) OF.nil)) (OF.alt 18 (OF.alt 3 (OF.alt 12 (OF.alt 14 (OF.fst 15 (OF.fst 16 (OF.fst 17 (OF.alt 19 (OF.fst 20 OF.nil) OF.nil)))) OF.nil) OF.nil) OF.nil) OF.nil)) (OF.alt 18 (OF.alt 3 (OF.alt 7 (OF.alt 12 (OF.alt 14 (OF.fst 15 (OF.fst 16 (OF.fst 17 (OF.alt 19 (OF.fst 20 OF.nil) OF.nil)))) OF.nil) OF.nil) OF.nil) (OF.alt 7 (OF.alt 3 (OF.alt 12 (OF.alt 14 (OF.fst 15 (OF.fst 16 (OF.fst 17 (OF.alt 19 (OF.fst 20 OF.nil) OF.nil)))) OF.nil) OF.nil) OF.nil) OF.nil)) OF.nil))) (OF.alt 18 (OF.alt 3 (OF.alt 7 (OF.alt 11 (OF.alt 12 (OF.alt 14 (OF.fst 15 (OF.fst 16 (OF.fst 17 (OF.alt 19 (OF.fst 20 OF.nil) OF.nil)))) OF.nil) OF.nil) OF.nil) (OF.alt 11 (OF.alt 7 (OF.alt 12 (OF.alt 14 (OF.fst 15 (OF.fst 16 (OF.fst 17 (OF.alt 19 (OF.fst 20 OF.nil) OF.nil)))) OF.nil) OF.nil) OF.nil) OF.nil)) (OF.alt 7 (OF.alt 3 (OF.alt 11 (OF.alt 12 (OF.alt 14 (OF.fst 15 (OF.fst 16 (OF.fst 17 (OF.alt 19 (OF.fst 20 OF.nil) OF.nil)))) OF.nil) OF.nil) OF.nil) (OF.alt 11 (OF.alt 3 (OF.alt 12 (OF.alt 14 (OF.fst 15 (OF.fst 16 (OF.fst 17 (OF.alt 19 (OF.fst 20 OF.nil) OF.nil)))) OF.nil) OF.nil) OF.nil) OF.nil)) (OF.alt 11 (OF.alt 3 (OF.alt 7 (OF.alt 12 (OF.alt 14 (OF.fst 15 (OF.fst 16 (OF.fst 17 (OF.alt 19 (OF.fst 20 OF.nil) OF.nil)))) OF.nil) OF.nil) OF.nil) (OF.alt 7 (OF.alt 3 (OF.alt 12 (OF.alt 14 (OF.fst 15 (OF.fst 16 (OF.fst 17 (OF.alt 19 (OF.fst 20 OF.nil) OF.nil)))) OF.nil) OF.nil) OF.nil) OF.nil)) OF.nil))) OF.nil)))))))))))))) (by kernel_rfl) ?_ | (refine CL.mk (Or.inl ?_);(conv => whnf);refine Cl.is (hcut) rfl (by first | exact fun _ => rfl | fail) ?_) | (refine CL.mk (Or.inr (Raw.callI [] [920] rfl rfl rfl rfl rfl rfl rfl (hmo) ?_));rintro _ _ ⟨rfl,rfl⟩;refine Bk.mk rfl rfl ?_))
 ·intro _ _
  dsimp only
  clear hcut hmo m1 m2 hok
  have hcs := cutR_size c
  have hsp := splitN_T (cutR' c) (by omega)
  have hst := hasShow_T c
  have hsh := show_T hv hL he p hp (cutR' c)
  have hnm := isName_T' (cutR' c)
  have hlw : ((strs (spN 3 (cutR' c))).length : Int) = ((spN 3 (cutR' c)).length : Int) := by simp
  have t1 := toList_beq c clearK
  have t2 := toList_beq c whereK
  have t3 := toList_beq (cutW c) breakK
  have hadd := fun h => add_P l p bs (spN 3 (cutR' c)) hb h
  generalize spN 3 (cutR' c) = ws at *
  generalize cutR' c = rest at *
  generalize cutW c = word at *
  generalize showM l p rest = o at *
  generalize isShow c = bsh at *
  generalize nameB rest = bnm at *
  rw [decide_eq_false c1] at t1
  rw [decide_eq_true c2] at t2
  clear hadd hsh hnm hst t3
  have hac := active_T hv hL p hp
  have hal := activeM_len hp
  have hpl := places_T (activeM l p) (by omega)
  have hpo := activeM_ok hv hn hp
  obtain ⟨ps,hps⟩ : ∃ ps,(activeM l p).map Av.pc = ps := ⟨_,rfl⟩
  have hpn : ps.length ≤ 20001 := by rw [← hps,List.length_map];omega
  rw [hps] at hpl hpo ⊢
  have hbw := bwd0_T ps
  generalize activeM l p = s at *
  clear hps hal
  have htt : total (ps.reverse.map whereB) semiSp (ps.reverse.map whereB).length ≤ 100000000000 := by
   have q := total_leD (sep := semiSp) (m := 110) (l := ps.reverse.map whereB) (fun x hx => by
    obtain ⟨y,hy,rfl⟩ := List.mem_map.1 hx
    exact whereB_size (hpo y (List.mem_reverse.1 hy))) (ps.reverse.map whereB).length
   have h2 : semiSp.size = 2 := rfl
   rw [h2] at q
   rw [List.length_map,List.length_reverse] at q ⊢
   have := Nat.mul_le_mul_right (2 + 110) hpn
   omega
  have hjn := sjoin_T (ps.reverse.map whereB) semiSp htt (by simp;omega)
  clear htt
  repeat' ((conv => whnf);first | rw [t1] | rw [t2] | refine Gs.id ?_ | with_reducible refine Brn.T rfl ?_ | with_reducible refine Brn.F rfl ?_ | refine Drw.of (T := tt) (i := 18) [] [] [(0,true),(1,true),(2,true),(3,true),(4,true),(5,true),(6,true),(7,true),(8,false),(9,false),(10,false)] (by kernel_rfl) ?_ | (refine CL.mk (Or.inl ?_);(conv => whnf);first | refine Cl.is (hsp) rfl (by first | (intro e;cases e;done) | fail) ?_ | refine Cl.is (hac) rfl (by first | (intro e;cases e;done) | fail) ?_ | refine Cl.is (hpl) rfl (by first | (intro e;cases e;done) | fail) ?_ | refine Cl.is (hbw) rfl (by first | (intro e;cases e;done) | fail) ?_) | fail)
  all_goals (conv => whnf)
  refine ⟨⟨[(1,.k 1),(902,.k 902),(12,.k 12),(901,.n 1),(907,.k 907)],[(12,.d (.p 12 0)),(107,.d (.u (bwdV ps)))],whOb zt ps 0,1,902,120,[evs l,.int .i64 p,bkV bs],us,zb,⟨by (try dsimp only);(repeat (refine LeT.cons rfl (by first | exact LeS.d (by first | exact LeD.u rfl | exact LeD.p rfl | fail) | fail) ?_));exact LeT.nil,by (try dsimp only);repeat (first | exact LeO.nil | refine LeO.bx rfl rfl (by repeat (first | exact LeL.nil | refine LeL.cons (by first | exact LeD.u rfl | exact LeD.no rfl rfl | fail) ?_)) ?_ | refine LeO.ab rfl rfl (by repeat (first | exact LeL.nil | refine LeL.cons (by first | exact LeD.p rfl | fail) ?_)) (by first | rfl | fail) ?_ | refine LeO.no rfl rfl ?_)⟩,?_⟩⟩
  refine ⟨⟨Nat,fun i => i ≤ ps.length,fun i => i = ps.length,fun i ss => ∃ q,i < ps.length ∧ ps[ps.length - 1 - i]? = some q ∧ ss = bwSS ps.length i q,fun i _ => i + 1,fun i => whOb zt ps i,0,[(12,.d (.p 12 0)),(107,.d (.u (bwdV ps)))],_,[(12,.k 12),(901,.k 901),(907,.k 907)],_,_,909,[zt],Nat.zero_le _,(by intro z hz;simp at hz;subst hz;exact ⟨907,_,rfl⟩),⟨by (try dsimp only);(repeat (refine LeT.cons rfl (by first | exact LeS.d (by first | exact LeD.u rfl | exact LeD.p rfl | fail) | fail) ?_));exact LeT.nil,by (try dsimp only);repeat (first | exact LeO.nil | refine LeO.bx rfl rfl (by repeat (first | exact LeL.nil | refine LeL.cons (by first | exact LeD.ow rfl rfl | fail) ?_)) ?_ | refine LeO.ar rfl rfl (by first | rfl | fail) ?_ | refine LeO.ab rfl rfl (by repeat (first | exact LeL.nil | fail)) (by first | rfl | fail) ?_ | fail)⟩,rfl,rfl,?_,rfl,fun i _ => whOb_mf zt ps _,?_,?_,?_,?_⟩⟩
  ·simp [nmlS,nmlD]
  ·rintro i ss hi ⟨q,hq1,hq2,rfl⟩
   exact ⟨show i + 1 ≤ ps.length by omega,rfl,bwSS_nm _ _ _⟩
  ·rintro i ss hi ⟨q,hq1,hq2,rfl⟩ us' zb'
   have hok := hpo q (List.mem_of_getElem? hq2)
   have hwh := where_T q (by have := hok.lo;omega) hok.hi (by have := hok.md;omega) (by have := hok.fn;omega) zt hz
   have hac := accW_succ hq1 hq2
   dsimp only [whOb] at *
   have hal : (accW ps i).length ≤ 20001 := by unfold accW;rw [List.length_take,List.length_map,List.length_reverse];omega
   generalize accW ps (i + 1) = acc2 at *
   generalize accW ps i = acc at *
   generalize whereB q = wq at *
   subst hac
   clear hjn hbw hpl hpo
   repeat' ((conv => whnf);first | refine Gs.id ?_ | with_reducible refine And.intro ?_ ?_ | refine Apd.mk (by first | rfl | simp) (by first | rfl | fail) (by (try simp only [smT]);first | omega | fail) (by unfold maxLen;first | (simp;omega) | fail) ?_ | refine Drw.ofT (T := tt) (i := 20) [0,1,2,3,4,5] [] (OF.alt 0 (OF.alt 1 (OF.alt 2 (OF.alt 3 (OF.alt 4 (OF.alt 5 OF.nil OF.nil) OF.nil) OF.nil) OF.nil) OF.nil) (OF.alt 1 (OF.alt 0 (OF.alt 2 (OF.alt 3 (OF.alt 4 (OF.alt 5 OF.nil OF.nil) OF.nil) OF.nil) OF.nil) (OF.alt 2 (OF.alt 0 (OF.alt 3 (OF.alt 4 (OF.alt 5 OF.nil OF.nil) OF.nil) OF.nil) (OF.alt 3 (OF.alt 0 (OF.alt 4 (OF.alt 5 OF.nil OF.nil) OF.nil) OF.nil) OF.nil)) OF.nil)) OF.nil)) (by kernel_rfl) ?_ | (refine CL.mk (Or.inr (Raw.callI [907] [907] rfl rfl rfl rfl rfl rfl rfl (hwh) ?_));rintro _ _ ⟨rfl,rfl⟩;refine Bk.mk rfl rfl ?_))
   all_goals (conv => whnf)
   all_goals exact ⟨[(909,.k 909),(12,.k 12),(901,.k 114),(907,.k 907)],(by repeat (first | exact LeO.nil | refine LeO.bx rfl rfl (by repeat (first | exact LeL.nil | refine LeL.cons (by first | exact LeD.ow rfl (by simp) | fail) ?_)) ?_ | refine LeO.ar rfl rfl (by first | rfl | simp) ?_ | refine LeO.ab rfl rfl (by repeat (first | exact LeL.nil | refine LeL.cons (by first | exact LeD.p rfl | fail) ?_)) (by first | rfl | fail) ?_ | fail))⟩
  ·intro lp zb' φ hY
   exact (bwd_T (ps := ps) (by omega) lp zb' φ fun i q h1 h2 => hY i _ (by omega) ⟨q,h1,h2,rfl⟩).mono fun s ob h => ⟨ps.length,Nat.le_refl _,rfl,h⟩
  ·rintro i hi rfl Dm
   refine ⟨⟨rfl,rfl⟩,?_⟩
   have hacc : accW ps ps.length = ps.reverse.map whereB := by unfold accW;rw [List.take_of_length_le (by simp)]
   dsimp only [whOb]
   rw [hacc]
   unfold whereL
   by_cases hps : ps = []
   ·subst hps
    rw [if_pos rfl]
    repeat' ((conv => whnf);first | refine Gs.id ?_ | with_reducible refine Brn.T rfl ?_ | (refine Bnd.mk (fun hm => ?_);(try simp only [smT] at hm)) | fail)
    all_goals (conv => whnf)
    all_goals first | (exfalso;simp at *;done) | (refine RetO.mk ⟨[(902,.k 902),(1,.k 1),(907,.k 907)],_,_,(by first | exact LeS.d (by first | exact LeD.u rfl | fail) | fail),(by repeat (first | exact LeO.nil | refine LeO.bx rfl rfl (by repeat (first | exact LeL.nil | refine LeL.cons (by first | exact LeD.u rfl | fail) ?_)) ?_ | refine LeO.ab rfl rfl (by repeat (first | exact LeL.nil | refine LeL.cons (by first | exact LeD.p rfl | fail) ?_)) (by first | rfl | fail) ?_ | fail)),rfl,rfl⟩)
   ·rw [if_neg hps]
    have hne : 0 < (ps.reverse.map whereB).length := by simp;exact List.length_pos_iff.2 hps
    generalize ps.reverse.map whereB = tx at *
    repeat' ((conv => whnf);first | refine Gs.id ?_ | refine Brn.F (by (try simp only [smT]);first | rfl | omega | fail) ?_ | (refine Bnd.mk (fun hm => ?_);(try simp only [smT] at hm)) | (refine CL.mk (Or.inl ?_);(conv => whnf);refine ClO.mk (Or.inl ?_);(repeat ((conv => whnf);refine Len.mk (by first | rfl | (simp;done) | fail) ?_));(conv => whnf);refine Cl.is (hjn) rfl (by first | exact fun _ => rfl | fail) ?_) | fail)
    all_goals (conv => whnf)
    all_goals first | (exfalso;simp at *;omega) | (refine RetO.mk ⟨[(902,.k 902),(1,.k 1),(907,.k 907)],_,_,(by first | exact LeS.d (by first | exact LeD.u rfl | fail) | fail),(by repeat (first | exact LeO.nil | refine LeO.bx rfl rfl (by repeat (first | exact LeL.nil | refine LeL.cons (by first | exact LeD.u rfl | fail) ?_)) ?_ | refine LeO.ab rfl rfl (by repeat (first | exact LeL.nil | refine LeL.cons (by first | exact LeD.p rfl | fail) ?_)) (by first | rfl | fail) ?_ | fail)),rfl,rfl⟩)
end Go.Proofs.YtabmcfnefjipbaaGreatDoor
namespace Go.Proofs.YtabmcfnefjipbaaGreatDoor
open Go.RowKit
set_option maxHeartbeats 8000000 in
theorem doA_break (us : List Value) (zb : Fz) {l : List Ev} (hv : Vd l) (hL : l.length ≤ 20000) (he : ∀ e ∈ l,e.locs.length ≤ 9000000000) (hn : ∀ e ∈ l,e.line ≤ 9223372036854775807) (p : Int) (hp : -1 ≤ p ∧ p ≤ (l.length : Int)) (bs : List Bp) (hb : bs.length ≤ 1000) (c : ByteArray) (hc : c.size ≤ 4000) (zt : Fz) (hz : Tab zt) (hcm : cmdM (depM l p) bs c = none) (c1 : c ≠ clearK) (c2 : c ≠ whereK) (c3 : cutW c = breakK ∧ ((spN 3 (cutR' c)).length = 2 ∨ (spN 3 (cutR' c)).length = 4)) (hdig : cutW c = breakK → 1 ≤ ((spN 3 (cutR' c))[1]?.getD emB).size ∧ ((spN 3 (cutR' c))[1]?.getD emB).size ≤ 9 ∧ digsB ((spN 3 (cutR' c))[1]?.getD emB)) :
  CallsA Tryz.prog 65 [.d (.p 1 0),dsr c] [(902,.ab [.p 1 0] us zb (· = [])),(1,.bx 120 (sesV l p bs)),(907,tbOb zt)] (Iso (dsr ((addM bs (spN 3 (cutR' c))).1)) [(902,.ab [.p 1 0] us zb (· = [])),(1,.bx 120 (sesV l (p) ((addM bs (spN 3 (cutR' c))).2))),(907,tbOb zt)]) := by
 have hcut := cutJ_T c (by omega)
 have hmo : CallsA Tryz.prog 54 [.d (.u (evs l)),.d (.u (bkV bs)),di p] [] (Iso (.d (.mp 920)) [(920,.mp false true (motE (depM l p) (bkV bs)))]) := by
  cases bs with
  | nil => exact motions0_T l p hp
  | cons b r => exact motions_T l (b :: r) p hp
 have hmk : ∀ e ∈ l,CallsA Tryz.prog 89 [.a e.ds,.d (.q [bkV bs] 0)] [] (Is (db (bs.any (hitB e)))) := by
  intro e q
  cases bs with
  | nil => exact mrk0_T e (he e q)
  | cons b r => exact mrk_T (b :: r) e (he e q) (by omega)
 obtain ⟨m1,m2⟩ := motE_get (depM l p) (bkV bs) c zMot
 have hok := motE_ok (depM l p) (bkV bs)
 rw [cmd_none hcm] at m1 m2
 clear hmk hcm
 refine callsA_of_rdO (T := tt) Tryz.func65 rfl rfl rfl rfl rfl ?_
 refine' cutR (fun _ : Unit => True) (fun _ => ⟨[(0,.d (.p 1 0)),(1,dsr c),(5,dsr (cutW c)),(6,dsr (cutR' c)),(9,db false)],[(902,.ab [.p 1 0] us zb (· = [])),(1,.bx 120 (sesV l p bs)),(907,tbOb zt)]⟩) _ (fun hR => ?_) ?_
 rotate_left
 ·repeat' ((conv => whnf);first | refine Mlk.of zMot false (by kernel_rfl) hok m1 m2 ?_ | (exact Gs.cut (i := 3) (by assumption) () [(902,.k 902),(1,.k 1),(907,.k 907)] rfl ⟨by (try dsimp only);(repeat (refine LeT.cons rfl (by first | exact LeS.d (by first | exact LeD.u rfl | exact LeD.p rfl | fail) | fail) ?_));(first | exact LeT.nil | fail),by (try dsimp only);(repeat (first | exact LeO.nil | refine LeO.bx rfl rfl (by repeat (first | exact LeL.nil | refine LeL.cons (by first | exact LeD.u rfl | fail) ?_)) ?_ | refine LeO.ab rfl rfl (by repeat (first | exact LeL.nil | refine LeL.cons (by first | exact LeD.p rfl | fail) ?_)) (by first | rfl | fail) ?_ | fail));done⟩ (by trivial)) | refine Gs.id ?_ | with_reducible refine And.intro ?_ ?_ | refine Drw.ofT (T := tt) (i := 2) [3,7,11,12,14,18,19] [0,1,2,4,5,6,8,9,10,13,15,16,17,20] (OF.fst 0 (OF.fst 1 (OF.fst 2 (OF.fst 4 (OF.fst 5 (OF.fst 6 (OF.fst 8 (OF.fst 9 (OF.fst 10 (OF.fst 13 (OF.alt 3 (OF.alt 7 (OF.alt 11 (OF.alt 12 (OF.alt 14 (OF.fst 15 (OF.fst 16 (OF.fst 17 (OF.alt 18 (OF.alt 19 (OF.fst 20 OF.nil) OF.nil) OF.nil)))) (OF.alt 18 (OF.alt 14 (OF.fst 15 (OF.fst 16 (OF.fst 17 (OF.alt 19 (OF.fst 20 OF.nil) OF.nil)))) OF.nil) OF.nil)) (OF.alt 18 (OF.alt 12 (OF.alt 14 (OF.fst 15 (OF.fst 16 (OF.fst 17 (OF.alt 19 (OF.fst 20 OF.nil) OF.nil)))) OF.nil) OF.nil) OF.nil)) (OF.alt 18 (OF.alt 11 (OF.alt 12 (OF.alt 14 (OF.fst 15 (OF.fst 16 (OF.fst 17 (OF.alt 19 (OF.fst 20 OF.nil) OF.nil)))) OF.nil) OF.nil) OF.nil) OF.nil)) (OF.alt 11 (OF.alt 7 (OF.alt 12 (OF.alt 14 (OF.fst 15 (OF.fst 16 (OF.fst 17 (OF.alt 18 (OF.alt 19 (OF.fst 20 OF.nil) OF.nil) OF.nil)))) (OF.alt 18 (OF.alt 14 (OF.fst 15 (OF.fst 16 (OF.fst 17 (OF.alt 19 (OF.fst 20 OF.nil) OF.nil)))) OF.nil) OF.nil)) (OF.alt 18 (OF.alt 12 (OF.alt 14 (OF.fst 15 (OF.fst 16 (OF.fst 17 (OF.alt 19 (OF.fst 20 OF.nil) OF.nil)))) OF.nil) OF.nil) OF.nil)) (OF.alt 18 (OF.alt 7 (OF.alt 12 (OF.alt 14 (OF.fst 15 (OF.fst 16 (OF.fst 17 (OF.alt 19 (OF.fst 20 OF.nil) OF.nil)))) OF.nil) OF.nil) OF.nil) OF.nil)) (OF.alt 18 (OF.alt 7 (OF.alt 11 (OF.alt 12 (OF.alt 14 (OF.fst 15 (OF.fst 16 (OF.fst 17 (OF.alt 19 (OF.fst 20 OF.nil) OF.nil)))) OF.nil) OF.nil) OF.nil) (OF.alt 11 (OF.alt 7 (OF.alt 12 (OF.alt 14 (OF.fst 15 (OF.fst 16 (OF.fst 17 (OF.alt 19 (OF.fst 20 OF.nil) OF.nil)))) OF.nil) OF.nil) OF.nil) OF.nil)) OF.nil))) (OF.alt 7 (OF.alt 3 (OF.alt 11 (OF.alt 12 (OF.alt 14 (OF.fst 15 (OF.fst 16 (OF.fst 17 (OF.alt 18 (OF.alt 19 (OF.fst 20 OF.nil) OF.nil) OF.nil)))) (OF.alt 18 (OF.alt 14 (OF.fst 15 (OF.fst 16 (OF.fst 17 (OF.alt 19 (OF.fst 20 OF.nil) OF.nil)))) OF.nil) OF.nil)) (OF.alt 18 (OF.alt 12 (OF.alt 14 (OF.fst 15 (OF.fst 16 (OF.fst 17 (OF.alt 19 (OF.fst 20 OF.nil) OF.nil)))) OF.nil) OF.nil) OF.nil)) (OF.alt 18 (OF.alt 11 (OF.alt 12 (OF.alt 14 (OF.fst 15 (OF.fst 16 (OF.fst 17 (OF.alt 19 (OF.fst 20 OF.nil) OF.nil)))) OF.nil) OF.nil) OF.nil) OF.nil)) (OF.alt 11 (OF.alt 3 (OF.alt 12 (OF.alt 14 (OF.fst 15 (OF.fst 16 (OF.fst 17 (OF.alt 18 (OF.alt 19 (OF.fst 20 OF.nil) OF.nil) OF.nil)))) (OF.alt 18 (OF.alt 14 (OF.fst 15 (OF.fst 16 (OF.fst 17 (OF.alt 19 (OF.fst 20 OF.nil) OF.nil)))) OF.nil) OF.nil)) (OF.alt 18 (OF.alt 12 (OF.alt 14 (OF.fst 15 (OF.fst 16 (OF.fst 17 (OF.alt 19 (OF.fst 20 OF.nil) OF.nil)))) OF.nil) OF.nil) OF.nil)) (OF.alt 18 (OF.alt 3 (OF.alt 12 (OF.alt 14 (OF.fst 15 (OF.fst 16 (OF.fst 17 (OF.alt 19 (OF.fst 20 OF.nil) OF.nil)))) OF.nil) OF.nil) OF.nil) OF.nil)) (OF.alt 18 (OF.alt 3 (OF.alt 11 (OF.alt 12 (OF.alt 14 (OF.fst 15 (OF.fst 16 (OF.fst 17 (OF.alt 19 (OF.fst 20 OF.nil) OF.nil)))) OF.nil) OF.nil) OF.nil) (OF.alt 11 (OF.alt 3 (OF.alt 12 (OF.alt 14 (OF.fst 15 (OF.fst 16 (OF.fst 17 (OF.alt 19 (OF.fst 20 OF.nil) OF.nil)))) OF.nil) OF.nil) OF.nil) OF.nil)) OF.nil))) (OF.alt 11 (OF.alt 3 (OF.alt 7 (OF.alt 12 (OF.alt 14 (OF.fst 15 (OF.fst 16 (OF.fst 17 (OF.alt 18 (OF.alt 19 (OF.fst 20 OF.nil) OF.nil) OF.nil)))) (OF.alt 18 (OF.alt 14 (OF.fst 15 (OF.fst 16 (OF.fst 17 (OF.alt 19 (OF.fst 20 OF.nil) OF.nil)))) OF.nil) OF.nil)) (OF.alt 18 (OF.alt 12 (OF.alt 14 (OF.fst 15 (OF.fst 16 (OF.fst 17 (OF.alt 19 (OF.fst 20 OF.nil) OF.nil)))) OF.nil) OF.nil) OF.nil)) (OF.alt 18 (OF.alt 7 (OF.alt 12 (OF.alt 14 (OF.fst 15 (OF.fst 16 (OF.fst 17 (OF.alt 19 (OF.fst 20 OF.nil) OF.nil)))) OF.nil) OF.nil) OF.nil) OF.nil)) (OF.alt 7 (OF.alt 3 (OF.alt 12 (OF.alt 14 (OF.fst 15 (OF.fst 16 (OF.fst 17 (OF.alt 18 (OF.alt 19 (OF.fst 20 OF.nil) OF.nil) OF.nil)))) (OF.alt 18 (OF.alt 14 (OF.fst 15 (OF.fst 16 (OF.fst 17 (OF.alt 19 (OF.fst 20 OF.nil) OF.nil)))) OF.nil) OF.nil)) (OF.alt 18 (OF.alt 12 (OF.alt 14 (OF.fst 15 (OF.fst 16 (OF.fst 17 (OF.alt 19 (OF.fst 20 OF.nil) OF.nil)))) OF.nil) OF.nil) OF.nil)) (OF.alt 18 (OF.alt 3 (OF.alt 12 (OF.alt 14 (OF.fst 15 (OF.fst 16 (OF.fst 17 (OF.alt 19 (OF.fst 20 OF.nil) OF.nil)))) OF.nil) OF.nil) OF.nil) OF.nil)) (OF.alt 18 (OF.alt 3 (OF.alt 7 (OF.alt 12 (OF.alt 14 (OF.fst 15 (OF.fst 16 (OF.fst 17 (OF.alt 19 (OF.fst 20 OF.nil) OF.nil)))) OF.nil) OF.nil) OF.nil) (OF.alt 7 (OF.alt 3 (OF.alt 12 (OF.alt 14 (OF.fst 15 (OF.fst 16 (OF.fst 17 (OF.alt 19 (OF.fst 20 OF.nil) OF.nil)))) OF.nil) OF.nil) OF.nil) OF.nil)) OF.nil))) (OF.alt 18 (OF.alt 3 (OF.alt 7 (OF.alt 11 (OF.alt 12 (OF.alt 14 (OF.fst 15 (OF.fst 16 (OF.fst 17 (OF.alt 19 (OF.fst 20 OF.nil) OF.nil)))) OF.nil) OF.nil) OF.nil) (OF.alt 11 (OF.alt 7 (OF.alt 12 (OF.alt 14 (OF.fst 15 (OF.fst 16 (OF.fst 17 (OF.alt 19 (OF.fst 20 OF.nil) OF.nil)))) OF.nil) OF.nil) OF.nil) OF.nil)) (OF.alt 7 (OF.alt 3 (OF.alt 11 (OF.alt 12 (OF.alt 14 (OF.fst 15 (OF.fst 16 (OF.fst 17 (OF.alt 19 (OF.fst 20 OF.nil) OF.nil)))) OF.nil) OF.nil) OF.nil) (OF.alt 11 (OF.alt 3 (OF.alt 12 (OF.alt 14 (OF.fst 15 (OF.fst 16 (OF.fst 17 (OF.alt 19 (OF.fst 20 OF.nil) OF.nil)))) OF.nil) OF.nil) OF.nil) OF.nil)) (OF.alt 11 (OF.alt 3 (OF.alt 7 (OF.alt 12 (OF.alt 14 (OF.fst 15 (OF.fst 16 (OF.fst 17 (OF.alt 19 (OF.fst 20 OF.nil) OF.nil)))) OF.nil) OF.nil) OF.nil) (OF.alt 7 (OF.alt 3 (OF.alt 12 (OF.alt 14 (OF.fst 15 (OF.fst 16 (OF.fst 17 (OF.alt 19 (OF.fst 20 OF.nil) OF.nil)))) OF.nil) OF.nil) OF.nil) OF.nil)) OF.nil))) OF.nil)))))))))))))) (by kernel_rfl) ?_ | (refine CL.mk (Or.inl ?_);(conv => whnf);refine Cl.is (hcut) rfl (by first | exact fun _ => rfl | fail) ?_) | (refine CL.mk (Or.inr (Raw.callI [] [920] rfl rfl rfl rfl rfl rfl rfl (hmo) ?_));rintro _ _ ⟨rfl,rfl⟩;refine Bk.mk rfl rfl ?_))
 ·intro _ _
  dsimp only
  clear hcut hmo m1 m2 hok
  have hcs := cutR_size c
  have hsp := splitN_T (cutR' c) (by omega)
  have hst := hasShow_T c
  have hsh := show_T hv hL he p hp (cutR' c)
  have hnm := isName_T' (cutR' c)
  have hlw : ((strs (spN 3 (cutR' c))).length : Int) = ((spN 3 (cutR' c)).length : Int) := by simp
  have t1 := toList_beq c clearK
  have t2 := toList_beq c whereK
  have t3 := toList_beq (cutW c) breakK
  have hadd := fun h => add_P l p bs (spN 3 (cutR' c)) hb h
  generalize spN 3 (cutR' c) = ws at *
  generalize cutR' c = rest at *
  generalize cutW c = word at *
  generalize showM l p rest = o at *
  generalize isShow c = bsh at *
  generalize nameB rest = bnm at *
  rw [decide_eq_false c1] at t1
  rw [decide_eq_false c2] at t2
  obtain ⟨c3,c4⟩ := c3
  rw [decide_eq_true c3] at t3
  obtain ⟨d1,d2,d3⟩ := hdig c3
  have hadd := hadd c4 d1 d2 d3 zt hz
  generalize addM bs ws = am at *
  obtain ⟨am,bs'⟩ := am
  dsimp only at hadd ⊢
  clear hsh hnm hst hdig d1 d2 d3
  rcases c4 with c4 | c4
  ·rw [c4] at hlw
   repeat' ((conv => whnf);first | rw [t1] | rw [t2] | rw [t3] | refine Gs.id ?_ | with_reducible refine Brn.T rfl ?_ | with_reducible refine Brn.F rfl ?_ | refine Brn.T (by (try simp only [smT]);first | rfl | omega | fail) ?_ | (refine Bnd.mk (fun hm => ?_);(try simp only [smT] at hm)) | (refine CL.mk (Or.inl ?_);(conv => whnf);refine Cl.is (hsp) rfl (by first | (intro e;cases e;done) | fail) ?_) | (refine CL.mk (Or.inr (Raw.callFP (x := .func _) [1] [1,907] [907] rfl rfl rfl rfl rfl rfl rfl rfl rfl (hadd) ?_));rintro _ _ ⟨rfl,rfl⟩;refine BkP.mk rfl rfl ?_))
   all_goals (conv => whnf)
   all_goals first | (exfalso;simp_all;done) | (exfalso;simp at *;omega) | (refine RetO.mk ⟨[(902,.k 902),(1,.k 1),(907,.k 907)],_,_,(by first | exact LeS.d (by first | exact LeD.u rfl | fail) | fail),(by repeat (first | exact LeO.nil | refine LeO.bx rfl rfl (by repeat (first | exact LeL.nil | refine LeL.cons (by first | exact LeD.u rfl | fail) ?_)) ?_ | refine LeO.ab rfl rfl (by repeat (first | exact LeL.nil | refine LeL.cons (by first | exact LeD.p rfl | fail) ?_)) (by first | rfl | fail) ?_ | fail)),rfl,rfl⟩)
  ·rw [c4] at hlw
   repeat' ((conv => whnf);first | rw [t1] | rw [t2] | rw [t3] | refine Gs.id ?_ | with_reducible refine Brn.T rfl ?_ | with_reducible refine Brn.F rfl ?_ | refine Brn.T (by (try simp only [smT]);first | rfl | omega | fail) ?_ | refine Brn.F (by (try simp only [smT]);first | rfl | omega | fail) ?_ | (refine Bnd.mk (fun hm => ?_);(try simp only [smT] at hm)) | (refine CL.mk (Or.inl ?_);(conv => whnf);refine Cl.is (hsp) rfl (by first | (intro e;cases e;done) | fail) ?_) | (refine CL.mk (Or.inr (Raw.callFP (x := .func _) [1] [1,907] [907] rfl rfl rfl rfl rfl rfl rfl rfl rfl (hadd) ?_));rintro _ _ ⟨rfl,rfl⟩;refine BkP.mk rfl rfl ?_))
   all_goals (conv => whnf)
   all_goals first | (exfalso;simp_all;done) | (exfalso;simp at *;omega) | (refine RetO.mk ⟨[(902,.k 902),(1,.k 1),(907,.k 907)],_,_,(by first | exact LeS.d (by first | exact LeD.u rfl | fail) | fail),(by repeat (first | exact LeO.nil | refine LeO.bx rfl rfl (by repeat (first | exact LeL.nil | refine LeL.cons (by first | exact LeD.u rfl | fail) ?_)) ?_ | refine LeO.ab rfl rfl (by repeat (first | exact LeL.nil | refine LeL.cons (by first | exact LeD.p rfl | fail) ?_)) (by first | rfl | fail) ?_ | fail)),rfl,rfl⟩)
end Go.Proofs.YtabmcfnefjipbaaGreatDoor
namespace Go.Proofs.YtabmcfnefjipbaaGreatDoor
open Go.RowKit
set_option maxHeartbeats 8000000 in
theorem doA_else (us : List Value) (zb : Fz) {l : List Ev} (hv : Vd l) (hL : l.length ≤ 20000) (he : ∀ e ∈ l,e.locs.length ≤ 9000000000) (hn : ∀ e ∈ l,e.line ≤ 9223372036854775807) (p : Int) (hp : -1 ≤ p ∧ p ≤ (l.length : Int)) (bs : List Bp) (hb : bs.length ≤ 1000) (c : ByteArray) (hc : c.size ≤ 4000) (zt : Fz) (hz : Tab zt) (hcm : cmdM (depM l p) bs c = none) (c1 : c ≠ clearK) (c2 : c ≠ whereK) (c3 : ¬ (cutW c = breakK ∧ ((spN 3 (cutR' c)).length = 2 ∨ (spN 3 (cutR' c)).length = 4))) (c4 : isShow c = false) :
  CallsA Tryz.prog 65 [.d (.p 1 0),dsr c] [(902,.ab [.p 1 0] us zb (· = [])),(1,.bx 120 (sesV l p bs)),(907,tbOb zt)] (Iso (dsr (whatB)) [(902,.ab [.p 1 0] us zb (· = [])),(1,.bx 120 (sesV l (p) (bs))),(907,tbOb zt)]) := by
 have hcut := cutJ_T c (by omega)
 have hmo : CallsA Tryz.prog 54 [.d (.u (evs l)),.d (.u (bkV bs)),di p] [] (Iso (.d (.mp 920)) [(920,.mp false true (motE (depM l p) (bkV bs)))]) := by
  cases bs with
  | nil => exact motions0_T l p hp
  | cons b r => exact motions_T l (b :: r) p hp
 have hmk : ∀ e ∈ l,CallsA Tryz.prog 89 [.a e.ds,.d (.q [bkV bs] 0)] [] (Is (db (bs.any (hitB e)))) := by
  intro e q
  cases bs with
  | nil => exact mrk0_T e (he e q)
  | cons b r => exact mrk_T (b :: r) e (he e q) (by omega)
 obtain ⟨m1,m2⟩ := motE_get (depM l p) (bkV bs) c zMot
 have hok := motE_ok (depM l p) (bkV bs)
 rw [cmd_none hcm] at m1 m2
 clear hmk hcm
 refine callsA_of_rdO (T := tt) Tryz.func65 rfl rfl rfl rfl rfl ?_
 refine' cutR (fun _ : Unit => True) (fun _ => ⟨[(0,.d (.p 1 0)),(1,dsr c),(5,dsr (cutW c)),(6,dsr (cutR' c)),(9,db false)],[(902,.ab [.p 1 0] us zb (· = [])),(1,.bx 120 (sesV l p bs)),(907,tbOb zt)]⟩) _ (fun hR => ?_) ?_
 rotate_left
 ·repeat' ((conv => whnf);first | refine Mlk.of zMot false (by kernel_rfl) hok m1 m2 ?_ | (exact Gs.cut (i := 3) (by assumption) () [(902,.k 902),(1,.k 1),(907,.k 907)] rfl ⟨by (try dsimp only);(repeat (refine LeT.cons rfl (by first | exact LeS.d (by first | exact LeD.u rfl | exact LeD.p rfl | fail) | fail) ?_));(first | exact LeT.nil | fail),by (try dsimp only);(repeat (first | exact LeO.nil | refine LeO.bx rfl rfl (by repeat (first | exact LeL.nil | refine LeL.cons (by first | exact LeD.u rfl | fail) ?_)) ?_ | refine LeO.ab rfl rfl (by repeat (first | exact LeL.nil | refine LeL.cons (by first | exact LeD.p rfl | fail) ?_)) (by first | rfl | fail) ?_ | fail));done⟩ (by trivial)) | refine Gs.id ?_ | with_reducible refine And.intro ?_ ?_ | refine Drw.ofT (T := tt) (i := 2) [3,7,11,12,14,18,19] [0,1,2,4,5,6,8,9,10,13,15,16,17,20] (OF.fst 0 (OF.fst 1 (OF.fst 2 (OF.fst 4 (OF.fst 5 (OF.fst 6 (OF.fst 8 (OF.fst 9 (OF.fst 10 (OF.fst 13 (OF.alt 3 (OF.alt 7 (OF.alt 11 (OF.alt 12 (OF.alt 14 (OF.fst 15 (OF.fst 16 (OF.fst 17 (OF.alt 18 (OF.alt 19 (OF.fst 20 OF.nil) OF.nil) OF.nil)))) (OF.alt 18 (OF.alt 14 (OF.fst 15 (OF.fst 16 (OF.fst 17 (OF.alt 19 (OF.fst 20 OF.nil) OF.nil)))) OF.nil) OF.nil)) (OF.alt 18 (OF.alt 12 (OF.alt 14 (OF.fst 15 (OF.fst 16 (OF.fst 17 (OF.alt 19 (OF.fst 20 OF.nil) OF.nil)))) OF.nil) OF.nil) OF.nil)) (OF.alt 18 (OF.alt 11 (OF.alt 12 (OF.alt 14 (OF.fst 15 (OF.fst 16 (OF.fst 17 (OF.alt 19 (OF.fst 20 OF.nil) OF.nil)))) OF.nil) OF.nil) OF.nil) OF.nil)) (OF.alt 11 (OF.alt 7 (OF.alt 12 (OF.alt 14 (OF.fst 15 (OF.fst 16 (OF.fst 17 (OF.alt 18 (OF.alt 19 (OF.fst 20 OF.nil) OF.nil) OF.nil)))) (OF.alt 18 (OF.alt 14 (OF.fst 15 (OF.fst 16 (OF.fst 17 (OF.alt 19 (OF.fst 20 OF.nil) OF.nil)))) OF.nil) OF.nil)) (OF.alt 18 (OF.alt 12 (OF.alt 14 (OF.fst 15 (OF.fst 16 (OF.fst 17 (OF.alt 19 (OF.fst 20 OF.nil) OF.nil)))) OF.nil) OF.nil) OF.nil)) (OF.alt 18 (OF.alt 7 (OF.alt 12 (OF.alt 14 (OF.fst 15 (OF.fst 16 (OF.fst 17 (OF.alt 19 (OF.fst 20 OF.nil) OF.nil)))) OF.nil) OF.nil) OF.nil) OF.nil)) (OF.alt 18 (OF.alt 7 (OF.alt 11 (OF.alt 12 (OF.alt 14 (OF.fst 15 (OF.fst 16 (OF.fst 17 (OF.alt 19 (OF.fst 20 OF.nil) OF.nil)))) OF.nil) OF.nil) OF.nil) (OF.alt 11 (OF.alt 7 (OF.alt 12 (OF.alt 14 (OF.fst 15 (OF.fst 16 (OF.fst 17 (OF.alt 19 (OF.fst 20 OF.nil) OF.nil)))) OF.nil) OF.nil) OF.nil) OF.nil)) OF.nil))) (OF.alt 7 (OF.alt 3 (OF.alt 11 (OF.alt 12 (OF.alt 14 (OF.fst 15 (OF.fst 16 (OF.fst 17 (OF.alt 18 (OF.alt 19 (OF.fst 20 OF.nil) OF.nil) OF.nil)))) (OF.alt 18 (OF.alt 14 (OF.fst 15 (OF.fst 16 (OF.fst 17 (OF.alt 19 (OF.fst 20 OF.nil) OF.nil)))) OF.nil) OF.nil)) (OF.alt 18 (OF.alt 12 (OF.alt 14 (OF.fst 15 (OF.fst 16 (OF.fst 17 (OF.alt 19 (OF.fst 20 OF.nil) OF.nil)))) OF.nil) OF.nil) OF.nil)) (OF.alt 18 (OF.alt 11 (OF.alt 12 (OF.alt 14 (OF.fst 15 (OF.fst 16 (OF.fst 17 (OF.alt 19 (OF.fst 20 OF.nil) OF.nil)))) OF.nil) OF.nil) OF.nil) OF.nil)) (OF.alt 11 (OF.alt 3 (OF.alt 12 (OF.alt 14 (OF.fst 15 (OF.fst 16 (OF.fst 17 (OF.alt 18 (OF.alt 19 (OF.fst 20 OF.nil) OF.nil) OF.nil)))) (OF.alt 18 (OF.alt 14 (OF.fst 15 (OF.fst 16 (OF.fst 17 (OF.alt 19 (OF.fst 20 OF.nil) OF.nil)))) OF.nil) OF.nil)) (OF.alt 18 (OF.alt 12 (OF.alt 14 (OF.fst 15 (OF.fst 16 (OF.fst 17 (OF.alt 19 (OF.fst 20 OF.nil) OF.nil)))) OF.nil) OF.nil) OF.nil)) (OF.alt 18 (OF.alt 3 (OF.alt 12 (OF.alt 14 (OF.fst 15 (OF.fst 16 (OF.fst 17 (OF.alt 19 (OF.fst 20 OF.nil) OF.nil)))) OF.nil) OF.nil) OF.nil) OF.nil)) (OF.alt 18 (OF.alt 3 (OF.alt 11 (OF.alt 12 (OF.alt 14 (OF.fst 15 (OF.fst 16 (OF.fst 17 (OF.alt 19 (OF.fst 20 OF.nil) OF.nil)))) OF.nil) OF.nil) OF.nil) (OF.alt 11 (OF.alt 3 (OF.alt 12 (OF.alt 14 (OF.fst 15 (OF.fst 16 (OF.fst 17 (OF.alt 19 (OF.fst 20 OF.nil) OF.nil)))) OF.nil) OF.nil) OF.nil) OF.nil)) OF.nil))) (OF.alt 11 (OF.alt 3 (OF.alt 7 (OF.alt 12 (OF.alt 14 (OF.fst 15 (OF.fst 16 (OF.fst 17 (OF.alt 18 (OF.alt 19 (OF.fst 20 OF.nil) OF.nil) OF.nil)))) (OF.alt 18 (OF.alt 14 (OF.fst 15 (OF.fst 16 (OF.fst 17 (OF.alt 19 (OF.fst 20 OF.nil) OF.nil)))) OF.nil) OF.nil)) (OF.alt 18 (OF.alt 12 (OF.alt 14 (OF.fst 15 (OF.fst 16 (OF.fst 17 (OF.alt 19 (OF.fst 20 OF.nil) OF.nil)))) OF.nil) OF.nil) OF.nil)) (OF.alt 18 (OF.alt 7 (OF.alt 12 (OF.alt 14 (OF.fst 15 (OF.fst 16 (OF.fst 17 (OF.alt 19 (OF.fst 20 OF.nil) OF.nil)))) OF.nil) OF.nil) OF.nil) OF.nil)) (OF.alt 7 (OF.alt 3 (OF.alt 12 (OF.alt 14 (OF.fst 15 (OF.fst 16 (OF.fst 17 (OF.alt 18 (OF.alt 19 (OF.fst 20 OF.nil) OF.nil) OF.nil)))) (OF.alt 18 (OF.alt 14 (OF.fst 15 (OF.fst 16 (OF.fst 17 (OF.alt 19 (OF.fst 20 OF.nil) OF.nil)))) OF.nil) OF.nil)) (OF.alt 18 (OF.alt 12 (OF.alt 14 (OF.fst 15 (OF.fst 16 (OF.fst 17 (OF.alt 19 (OF.fst 20 OF.nil) OF.nil)))) OF.nil) OF.nil) OF.nil)) (OF.alt 18 (OF.alt 3 (OF.alt 12 (OF.alt 14 (OF.fst 15 (OF.fst 16 (OF.fst 17 (OF.alt 19 (OF.fst 20 OF.nil) OF.nil)))) OF.nil) OF.nil) OF.nil) OF.nil)) (OF.alt 18 (OF.alt 3 (OF.alt 7 (OF.alt 12 (OF.alt 14 (OF.fst 15 (OF.fst 16 (OF.fst 17 (OF.alt 19 (OF.fst 20 OF.nil) OF.nil)))) OF.nil) OF.nil) OF.nil) (OF.alt 7 (OF.alt 3 (OF.alt 12 (OF.alt 14 (OF.fst 15 (OF.fst 16 (OF.fst 17 (OF.alt 19 (OF.fst 20 OF.nil) OF.nil)))) OF.nil) OF.nil) OF.nil) OF.nil)) OF.nil))) (OF.alt 18 (OF.alt 3 (OF.alt 7 (OF.alt 11 (OF.alt 12 (OF.alt 14 (OF.fst 15 (OF.fst 16 (OF.fst 17 (OF.alt 19 (OF.fst 20 OF.nil) OF.nil)))) OF.nil) OF.nil) OF.nil) (OF.alt 11 (OF.alt 7 (OF.alt 12 (OF.alt 14 (OF.fst 15 (OF.fst 16 (OF.fst 17 (OF.alt 19 (OF.fst 20 OF.nil) OF.nil)))) OF.nil) OF.nil) OF.nil) OF.nil)) (OF.alt 7 (OF.alt 3 (OF.alt 11 (OF.alt 12 (OF.alt 14 (OF.fst 15 (OF.fst 16 (OF.fst 17 (OF.alt 19 (OF.fst 20 OF.nil) OF.nil)))) OF.nil) OF.nil) OF.nil) (OF.alt 11 (OF.alt 3 (OF.alt 12 (OF.alt 14 (OF.fst 15 (OF.fst 16 (OF.fst 17 (OF.alt 19 (OF.fst 20 OF.nil) OF.nil)))) OF.nil) OF.nil) OF.nil) OF.nil)) (OF.alt 11 (OF.alt 3 (OF.alt 7 (OF.alt 12 (OF.alt 14 (OF.fst 15 (OF.fst 16 (OF.fst 17 (OF.alt 19 (OF.fst 20 OF.nil) OF.nil)))) OF.nil) OF.nil) OF.nil) (OF.alt 7 (OF.alt 3 (OF.alt 12 (OF.alt 14 (OF.fst 15 (OF.fst 16 (OF.fst 17 (OF.alt 19 (OF.fst 20 OF.nil) OF.nil)))) OF.nil) OF.nil) OF.nil) OF.nil)) OF.nil))) OF.nil)))))))))))))) (by kernel_rfl) ?_ | (refine CL.mk (Or.inl ?_);(conv => whnf);refine Cl.is (hcut) rfl (by first | exact fun _ => rfl | fail) ?_) | (refine CL.mk (Or.inr (Raw.callI [] [920] rfl rfl rfl rfl rfl rfl rfl (hmo) ?_));rintro _ _ ⟨rfl,rfl⟩;refine Bk.mk rfl rfl ?_))
 ·intro _ _
  dsimp only
  clear hcut hmo m1 m2 hok
  have hcs := cutR_size c
  have hsp := splitN_T (cutR' c) (by omega)
  have hst := hasShow_T c
  have hsh := show_T hv hL he p hp (cutR' c)
  have hnm := isName_T' (cutR' c)
  have hlw : ((strs (spN 3 (cutR' c))).length : Int) = ((spN 3 (cutR' c)).length : Int) := by simp
  have t1 := toList_beq c clearK
  have t2 := toList_beq c whereK
  have t3 := toList_beq (cutW c) breakK
  have hadd := fun h => add_P l p bs (spN 3 (cutR' c)) hb h
  generalize spN 3 (cutR' c) = ws at *
  generalize cutR' c = rest at *
  generalize cutW c = word at *
  generalize showM l p rest = o at *
  generalize isShow c = bsh at *
  generalize nameB rest = bnm at *
  rw [decide_eq_false c1] at t1
  rw [decide_eq_false c2] at t2
  clear hadd
  have hb3 : ∃ b3 : Bool,(word.toList == breakK.toList) = b3 ∧ (b3 = true → ¬ (ws.length = 2 ∨ ws.length = 4)) := ⟨_,rfl,fun h h' => c3 ⟨by rw [t3] at h;exact of_decide_eq_true h,h'⟩⟩
  obtain ⟨b3,t4,t5⟩ := hb3
  clear t3
  subst c4
  cases b3
  ·repeat' ((conv => whnf);first | rw [t1] | rw [t2] | rw [t4] | refine Gs.id ?_ | with_reducible refine Brn.F rfl ?_ | (refine CL.mk (Or.inl ?_);(conv => whnf);first | refine Cl.is (hsp) rfl (by first | (intro e;cases e;done) | fail) ?_ | refine Cl.is (hst) rfl (by first | exact fun _ => rfl | fail) ?_) | fail)
   all_goals (conv => whnf)
   all_goals first | (exfalso;simp_all;done) | (exfalso;simp at *;omega) | (refine RetO.mk ⟨[(902,.k 902),(1,.k 1),(907,.k 907)],_,_,(by first | exact LeS.d (by first | exact LeD.u rfl | fail) | fail),(by repeat (first | exact LeO.nil | refine LeO.bx rfl rfl (by repeat (first | exact LeL.nil | refine LeL.cons (by first | exact LeD.u rfl | fail) ?_)) ?_ | refine LeO.ab rfl rfl (by repeat (first | exact LeL.nil | refine LeL.cons (by first | exact LeD.p rfl | fail) ?_)) (by first | rfl | fail) ?_ | fail)),rfl,rfl⟩)
  ·have t6 := t5 rfl
   repeat' ((conv => whnf);first | rw [t1] | rw [t2] | rw [t4] | refine Gs.id ?_ | with_reducible refine Brn.T rfl ?_ | with_reducible refine Brn.F rfl ?_ | refine Brn.F (by (try simp only [smT]);first | rfl | omega | fail) ?_ | (refine Bnd.mk (fun hm => ?_);(try simp only [smT] at hm)) | (refine CL.mk (Or.inl ?_);(conv => whnf);first | refine Cl.is (hsp) rfl (by first | (intro e;cases e;done) | fail) ?_ | refine Cl.is (hst) rfl (by first | exact fun _ => rfl | fail) ?_) | fail)
   all_goals (conv => whnf)
   all_goals first | (exfalso;simp_all;done) | (exfalso;simp at *;omega) | (refine RetO.mk ⟨[(902,.k 902),(1,.k 1),(907,.k 907)],_,_,(by first | exact LeS.d (by first | exact LeD.u rfl | fail) | fail),(by repeat (first | exact LeO.nil | refine LeO.bx rfl rfl (by repeat (first | exact LeL.nil | refine LeL.cons (by first | exact LeD.u rfl | fail) ?_)) ?_ | refine LeO.ab rfl rfl (by repeat (first | exact LeL.nil | refine LeL.cons (by first | exact LeD.p rfl | fail) ?_)) (by first | rfl | fail) ?_ | fail)),rfl,rfl⟩)
end Go.Proofs.YtabmcfnefjipbaaGreatDoor
namespace Go.Proofs.YtabmcfnefjipbaaGreatDoor
open Go.RowKit
set_option maxHeartbeats 8000000 in
theorem doA_show (us : List Value) (zb : Fz) {l : List Ev} (hv : Vd l) (hL : l.length ≤ 20000) (he : ∀ e ∈ l,e.locs.length ≤ 9000000000) (hn : ∀ e ∈ l,e.line ≤ 9223372036854775807) (p : Int) (hp : -1 ≤ p ∧ p ≤ (l.length : Int)) (bs : List Bp) (hb : bs.length ≤ 1000) (c : ByteArray) (hc : c.size ≤ 4000) (zt : Fz) (hz : Tab zt) (hcm : cmdM (depM l p) bs c = none) (c1 : c ≠ clearK) (c2 : c ≠ whereK) (c3 : ¬ (cutW c = breakK ∧ ((spN 3 (cutR' c)).length = 2 ∨ (spN 3 (cutR' c)).length = 4))) (c4 : isShow c = true) :
  CallsA Tryz.prog 65 [.d (.p 1 0),dsr c] [(902,.ab [.p 1 0] us zb (· = [])),(1,.bx 120 (sesV l p bs)),(907,tbOb zt)] (Iso (dsr (if (showM l p (cutR' c)).isSome = true ∧ nameB (cutR' c) = true then (showM l p (cutR' c)).getD emB else unknownB)) [(902,.ab [.p 1 0] us zb (· = [])),(1,.bx 120 (sesV l (p) (bs))),(907,tbOb zt)]) := by
 have hcut := cutJ_T c (by omega)
 have hmo : CallsA Tryz.prog 54 [.d (.u (evs l)),.d (.u (bkV bs)),di p] [] (Iso (.d (.mp 920)) [(920,.mp false true (motE (depM l p) (bkV bs)))]) := by
  cases bs with
  | nil => exact motions0_T l p hp
  | cons b r => exact motions_T l (b :: r) p hp
 have hmk : ∀ e ∈ l,CallsA Tryz.prog 89 [.a e.ds,.d (.q [bkV bs] 0)] [] (Is (db (bs.any (hitB e)))) := by
  intro e q
  cases bs with
  | nil => exact mrk0_T e (he e q)
  | cons b r => exact mrk_T (b :: r) e (he e q) (by omega)
 obtain ⟨m1,m2⟩ := motE_get (depM l p) (bkV bs) c zMot
 have hok := motE_ok (depM l p) (bkV bs)
 rw [cmd_none hcm] at m1 m2
 clear hmk hcm
 refine callsA_of_rdO (T := tt) Tryz.func65 rfl rfl rfl rfl rfl ?_
 refine' cutR (fun _ : Unit => True) (fun _ => ⟨[(0,.d (.p 1 0)),(1,dsr c),(5,dsr (cutW c)),(6,dsr (cutR' c)),(9,db false)],[(902,.ab [.p 1 0] us zb (· = [])),(1,.bx 120 (sesV l p bs)),(907,tbOb zt)]⟩) _ (fun hR => ?_) ?_
 rotate_left
 ·repeat' ((conv => whnf);first | refine Mlk.of zMot false (by kernel_rfl) hok m1 m2 ?_ | (exact Gs.cut (i := 3) (by assumption) () [(902,.k 902),(1,.k 1),(907,.k 907)] rfl ⟨by (try dsimp only);(repeat (refine LeT.cons rfl (by first | exact LeS.d (by first | exact LeD.u rfl | exact LeD.p rfl | fail) | fail) ?_));(first | exact LeT.nil | fail),by (try dsimp only);(repeat (first | exact LeO.nil | refine LeO.bx rfl rfl (by repeat (first | exact LeL.nil | refine LeL.cons (by first | exact LeD.u rfl | fail) ?_)) ?_ | refine LeO.ab rfl rfl (by repeat (first | exact LeL.nil | refine LeL.cons (by first | exact LeD.p rfl | fail) ?_)) (by first | rfl | fail) ?_ | fail));done⟩ (by trivial)) | refine Gs.id ?_ | with_reducible refine And.intro ?_ ?_ | refine Drw.ofT (T := tt) (i := 2) [3,7,11,12,14,18,19] [0,1,2,4,5,6,8,9,10,13,15,16,17,20] (OF.fst 0 (OF.fst 1 (OF.fst 2 (OF.fst 4 (OF.fst 5 (OF.fst 6 (OF.fst 8 (OF.fst 9 (OF.fst 10 (OF.fst 13 (OF.alt 3 (OF.alt 7 (OF.alt 11 (OF.alt 12 (OF.alt 14 (OF.fst 15 (OF.fst 16 (OF.fst 17 (OF.alt 18 (OF.alt 19 (OF.fst 20 OF.nil) OF.nil) OF.nil)))) (OF.alt 18 (OF.alt 14 (OF.fst 15 (OF.fst 16 (OF.fst 17 (OF.alt 19 (OF.fst 20 OF.nil) OF.nil)))) OF.nil) OF.nil)) (OF.alt 18 (OF.alt 12 (OF.alt 14 (OF.fst 15 (OF.fst 16 (OF.fst 17 (OF.alt 19 (OF.fst 20 OF.nil) OF.nil)))) OF.nil) OF.nil) OF.nil)) (OF.alt 18 (OF.alt 11 (OF.alt 12 (OF.alt 14 (OF.fst 15 (OF.fst 16 (OF.fst 17 (OF.alt 19 (OF.fst 20 OF.nil) OF.nil)))) OF.nil) OF.nil) OF.nil) OF.nil)) (OF.alt 11 (OF.alt 7 (OF.alt 12 (OF.alt 14 (OF.fst 15 (OF.fst 16 (OF.fst 17 (OF.alt 18 (OF.alt 19 (OF.fst 20 OF.nil) OF.nil) OF.nil)))) (OF.alt 18 (OF.alt 14 (OF.fst 15 (OF.fst 16 (OF.fst 17 (OF.alt 19 (OF.fst 20 OF.nil) OF.nil)))) OF.nil) OF.nil)) (OF.alt 18 (OF.alt 12 (OF.alt 14 (OF.fst 15 (OF.fst 16 (OF.fst 17 (OF.alt 19 (OF.fst 20 OF.nil) OF.nil)))) OF.nil) OF.nil) OF.nil)) (OF.alt 18 (OF.alt 7 (OF.alt 12 (OF.alt 14 (OF.fst 15 (OF.fst 16 (OF.fst 17 (OF.alt 19 (OF.fst 20 OF.nil) OF.nil)))) OF.nil) OF.nil) OF.nil) OF.nil)) (OF.alt 18 (OF.alt 7 (OF.alt 11 (OF.alt 12 (OF.alt 14 (OF.fst 15 (OF.fst 16 (OF.fst 17 (OF.alt 19 (OF.fst 20 OF.nil) OF.nil)))) OF.nil) OF.nil) OF.nil) (OF.alt 11 (OF.alt 7 (OF.alt 12 (OF.alt 14 (OF.fst 15 (OF.fst 16 (OF.fst 17 (OF.alt 19 (OF.fst 20 OF.nil) OF.nil)))) OF.nil) OF.nil) OF.nil) OF.nil)) OF.nil))) (OF.alt 7 (OF.alt 3 (OF.alt 11 (OF.alt 12 (OF.alt 14 (OF.fst 15 (OF.fst 16 (OF.fst 17 (OF.alt 18 (OF.alt 19 (OF.fst 20 OF.nil) OF.nil) OF.nil)))) (OF.alt 18 (OF.alt 14 (OF.fst 15 (OF.fst 16 (OF.fst 17 (OF.alt 19 (OF.fst 20 OF.nil) OF.nil)))) OF.nil) OF.nil)) (OF.alt 18 (OF.alt 12 (OF.alt 14 (OF.fst 15 (OF.fst 16 (OF.fst 17 (OF.alt 19 (OF.fst 20 OF.nil) OF.nil)))) OF.nil) OF.nil) OF.nil)) (OF.alt 18 (OF.alt 11 (OF.alt 12 (OF.alt 14 (OF.fst 15 (OF.fst 16 (OF.fst 17 (OF.alt 19 (OF.fst 20 OF.nil) OF.nil)))) OF.nil) OF.nil) OF.nil) OF.nil)) (OF.alt 11 (OF.alt 3 (OF.alt 12 (OF.alt 14 (OF.fst 15 (OF.fst 16 (OF.fst 17 (OF.alt 18 (OF.alt 19 (OF.fst 20 OF.nil) OF.nil) OF.nil)))) (OF.alt 18 (OF.alt 14 (OF.fst 15 (OF.fst 16 (OF.fst 17 (OF.alt 19 (OF.fst 20 OF.nil) OF.nil)))) OF.nil) OF.nil)) (OF.alt 18 (OF.alt 12 (OF.alt 14 (OF.fst 15 (OF.fst 16 (OF.fst 17 (OF.alt 19 (OF.fst 20 OF.nil) OF.nil)))) OF.nil) OF.nil) OF.nil)) (OF.alt 18 (OF.alt 3 (OF.alt 12 (OF.alt 14 (OF.fst 15 (OF.fst 16 (OF.fst 17 (OF.alt 19 (OF.fst 20 OF.nil) OF.nil)))) OF.nil) OF.nil) OF.nil) OF.nil)) (OF.alt 18 (OF.alt 3 (OF.alt 11 (OF.alt 12 (OF.alt 14 (OF.fst 15 (OF.fst 16 (OF.fst 17 (OF.alt 19 (OF.fst 20 OF.nil) OF.nil)))) OF.nil) OF.nil) OF.nil) (OF.alt 11 (OF.alt 3 (OF.alt 12 (OF.alt 14 (OF.fst 15 (OF.fst 16 (OF.fst 17 (OF.alt 19 (OF.fst 20 OF.nil) OF.nil)))) OF.nil) OF.nil) OF.nil) OF.nil)) OF.nil))) (OF.alt 11 (OF.alt 3 (OF.alt 7 (OF.alt 12 (OF.alt 14 (OF.fst 15 (OF.fst 16 (OF.fst 17 (OF.alt 18 (OF.alt 19 (OF.fst 20 OF.nil) OF.nil) OF.nil)))) (OF.alt 18 (OF.alt 14 (OF.fst 15 (OF.fst 16 (OF.fst 17 (OF.alt 19 (OF.fst 20 OF.nil) OF.nil)))) OF.nil) OF.nil)) (OF.alt 18 (OF.alt 12 (OF.alt 14 (OF.fst 15 (OF.fst 16 (OF.fst 17 (OF.alt 19 (OF.fst 20 OF.nil) OF.nil)))) OF.nil) OF.nil) OF.nil)) (OF.alt 18 (OF.alt 7 (OF.alt 12 (OF.alt 14 (OF.fst 15 (OF.fst 16 (OF.fst 17 (OF.alt 19 (OF.fst 20 OF.nil) OF.nil)))) OF.nil) OF.nil) OF.nil) OF.nil)) (OF.alt 7 (OF.alt 3 (OF.alt 12 (OF.alt 14 (OF.fst 15 (OF.fst 16 (OF.fst 17 (OF.alt 18 (OF.alt 19 (OF.fst 20 OF.nil) OF.nil) OF.nil)))) (OF.alt 18 (OF.alt 14 (OF.fst 15 (OF.fst 16 (OF.fst 17 (OF.alt 19 (OF.fst 20 OF.nil) OF.nil)))) OF.nil) OF.nil)) (OF.alt 18 (OF.alt 12 (OF.alt 14 (OF.fst 15 (OF.fst 16 (OF.fst 17 (OF.alt 19 (OF.fst 20 OF.nil) OF.nil)))) OF.nil) OF.nil) OF.nil)) (OF.alt 18 (OF.alt 3 (OF.alt 12 (OF.alt 14 (OF.fst 15 (OF.fst 16 (OF.fst 17 (OF.alt 19 (OF.fst 20 OF.nil) OF.nil)))) OF.nil) OF.nil) OF.nil) OF.nil)) (OF.alt 18 (OF.alt 3 (OF.alt 7 (OF.alt 12 (OF.alt 14 (OF.fst 15 (OF.fst 16 (OF.fst 17 (OF.alt 19 (OF.fst 20 OF.nil) OF.nil)))) OF.nil) OF.nil) OF.nil) (OF.alt 7 (OF.alt 3 (OF.alt 12 (OF.alt 14 (OF.fst 15 (OF.fst 16 (OF.fst 17 (OF.alt 19 (OF.fst 20 OF.nil) OF.nil)))) OF.nil) OF.nil) OF.nil) OF.nil)) OF.nil))) (OF.alt 18 (OF.alt 3 (OF.alt 7 (OF.alt 11 (OF.alt 12 (OF.alt 14 (OF.fst 15 (OF.fst 16 (OF.fst 17 (OF.alt 19 (OF.fst 20 OF.nil) OF.nil)))) OF.nil) OF.nil) OF.nil) (OF.alt 11 (OF.alt 7 (OF.alt 12 (OF.alt 14 (OF.fst 15 (OF.fst 16 (OF.fst 17 (OF.alt 19 (OF.fst 20 OF.nil) OF.nil)))) OF.nil) OF.nil) OF.nil) OF.nil)) (OF.alt 7 (OF.alt 3 (OF.alt 11 (OF.alt 12 (OF.alt 14 (OF.fst 15 (OF.fst 16 (OF.fst 17 (OF.alt 19 (OF.fst 20 OF.nil) OF.nil)))) OF.nil) OF.nil) OF.nil) (OF.alt 11 (OF.alt 3 (OF.alt 12 (OF.alt 14 (OF.fst 15 (OF.fst 16 (OF.fst 17 (OF.alt 19 (OF.fst 20 OF.nil) OF.nil)))) OF.nil) OF.nil) OF.nil) OF.nil)) (OF.alt 11 (OF.alt 3 (OF.alt 7 (OF.alt 12 (OF.alt 14 (OF.fst 15 (OF.fst 16 (OF.fst 17 (OF.alt 19 (OF.fst 20 OF.nil) OF.nil)))) OF.nil) OF.nil) OF.nil) (OF.alt 7 (OF.alt 3 (OF.alt 12 (OF.alt 14 (OF.fst 15 (OF.fst 16 (OF.fst 17 (OF.alt 19 (OF.fst 20 OF.nil) OF.nil)))) OF.nil) OF.nil) OF.nil) OF.nil)) OF.nil))) OF.nil)))))))))))))) (by kernel_rfl) ?_ | (refine CL.mk (Or.inl ?_);(conv => whnf);refine Cl.is (hcut) rfl (by first | exact fun _ => rfl | fail) ?_) | (refine CL.mk (Or.inr (Raw.callI [] [920] rfl rfl rfl rfl rfl rfl rfl (hmo) ?_));rintro _ _ ⟨rfl,rfl⟩;refine Bk.mk rfl rfl ?_))
 ·intro _ _
  dsimp only
  clear hcut hmo m1 m2 hok
  have hcs := cutR_size c
  have hsp := splitN_T (cutR' c) (by omega)
  have hst := hasShow_T c
  have hsh := show_T hv hL he p hp (cutR' c)
  have hnm := isName_T' (cutR' c)
  have hlw : ((strs (spN 3 (cutR' c))).length : Int) = ((spN 3 (cutR' c)).length : Int) := by simp
  have t1 := toList_beq c clearK
  have t2 := toList_beq c whereK
  have t3 := toList_beq (cutW c) breakK
  have hadd := fun h => add_P l p bs (spN 3 (cutR' c)) hb h
  generalize spN 3 (cutR' c) = ws at *
  generalize cutR' c = rest at *
  generalize cutW c = word at *
  generalize showM l p rest = o at *
  generalize isShow c = bsh at *
  generalize nameB rest = bnm at *
  rw [decide_eq_false c1] at t1
  rw [decide_eq_false c2] at t2
  clear hadd
  have hb3 : ∃ b3 : Bool,(word.toList == breakK.toList) = b3 ∧ (b3 = true → ¬ (ws.length = 2 ∨ ws.length = 4)) := ⟨_,rfl,fun h h' => c3 ⟨by rw [t3] at h;exact of_decide_eq_true h,h'⟩⟩
  obtain ⟨b3,t4,t5⟩ := hb3
  clear t3
  subst c4
  dsimp only [varS] at hsh
  generalize o.getD emB = tx at *
  generalize o.isSome = bo at *
  cases bo <;> cases bnm
  all_goals
   first | rw [if_pos ⟨rfl,rfl⟩] | rw [if_neg (by simp)]
   cases b3
   ·repeat' ((conv => whnf);first | rw [t1] | rw [t2] | rw [t4] | refine Gs.id ?_ | with_reducible refine Brn.T rfl ?_ | with_reducible refine Brn.F rfl ?_ | refine Drw.of (T := tt) (i := 27) [] [] [(0,true),(1,true),(2,true),(3,true),(4,true),(5,true),(6,true),(7,true),(8,true),(9,false),(10,true),(11,true),(12,true),(13,true),(14,true)] (by kernel_rfl) ?_ | (refine CL.mk (Or.inl ?_);(conv => whnf);first | refine Cl.is (hsp) rfl (by first | (intro e;cases e;done) | fail) ?_ | refine Cl.is (hst) rfl (by first | exact fun _ => rfl | fail) ?_ | refine Cl.is (hsh) rfl (by first | exact fun _ => rfl | fail) ?_ | refine Cl.is (hnm) rfl (by first | exact fun _ => rfl | fail) ?_) | fail)
    all_goals (conv => whnf)
    all_goals first | (exfalso;simp_all;done) | (exfalso;simp at *;omega) | (refine RetO.mk ⟨[(902,.k 902),(1,.k 1),(907,.k 907)],_,_,(by first | exact LeS.d (by first | exact LeD.u rfl | fail) | fail),(by repeat (first | exact LeO.nil | refine LeO.bx rfl rfl (by repeat (first | exact LeL.nil | refine LeL.cons (by first | exact LeD.u rfl | fail) ?_)) ?_ | refine LeO.ab rfl rfl (by repeat (first | exact LeL.nil | refine LeL.cons (by first | exact LeD.p rfl | fail) ?_)) (by first | rfl | fail) ?_ | fail)),rfl,rfl⟩)
   ·have t6 := t5 rfl
    repeat' ((conv => whnf);first | rw [t1] | rw [t2] | rw [t4] | refine Gs.id ?_ | with_reducible refine Brn.T rfl ?_ | with_reducible refine Brn.F rfl ?_ | refine Brn.F (by (try simp only [smT]);first | rfl | omega | fail) ?_ | (refine Bnd.mk (fun hm => ?_);(try simp only [smT] at hm)) | refine Drw.of (T := tt) (i := 27) [] [] [(0,true),(1,true),(2,true),(3,true),(4,true),(5,true),(6,true),(7,true),(8,true),(9,false),(10,true),(11,true),(12,true),(13,true),(14,true)] (by kernel_rfl) ?_ | (refine CL.mk (Or.inl ?_);(conv => whnf);first | refine Cl.is (hsp) rfl (by first | (intro e;cases e;done) | fail) ?_ | refine Cl.is (hst) rfl (by first | exact fun _ => rfl | fail) ?_ | refine Cl.is (hsh) rfl (by first | exact fun _ => rfl | fail) ?_ | refine Cl.is (hnm) rfl (by first | exact fun _ => rfl | fail) ?_) | fail)
    all_goals (conv => whnf)
    all_goals first | (exfalso;simp_all;done) | (exfalso;simp at *;omega) | (refine RetO.mk ⟨[(902,.k 902),(1,.k 1),(907,.k 907)],_,_,(by first | exact LeS.d (by first | exact LeD.u rfl | fail) | fail),(by repeat (first | exact LeO.nil | refine LeO.bx rfl rfl (by repeat (first | exact LeL.nil | refine LeL.cons (by first | exact LeD.u rfl | fail) ?_)) ?_ | refine LeO.ab rfl rfl (by repeat (first | exact LeL.nil | refine LeL.cons (by first | exact LeD.p rfl | fail) ?_)) (by first | rfl | fail) ?_ | fail)),rfl,rfl⟩)
end Go.Proofs.YtabmcfnefjipbaaGreatDoor
namespace Go.Proofs.YtabmcfnefjipbaaGreatDoor
open Go.RowKit
theorem doA_T (us : List Value) (zb : Fz) {l : List Ev} (hv : Vd l) (hL : l.length ≤ 20000) (he : ∀ e ∈ l,e.locs.length ≤ 9000000000) (hn : ∀ e ∈ l,e.line ≤ 9223372036854775807) (p : Int) (hp : -1 ≤ p ∧ p ≤ (l.length : Int)) (bs : List Bp) (hb : bs.length ≤ 1000) (c : ByteArray) (hc : c.size ≤ 4000) (hdig : cutW c = breakK → 1 ≤ ((spN 3 (cutR' c))[1]?.getD emB).size ∧ ((spN 3 (cutR' c))[1]?.getD emB).size ≤ 9 ∧ digsB ((spN 3 (cutR' c))[1]?.getD emB)) (zt : Fz) (hz : Tab zt) :
  CallsA Tryz.prog 65 [.d (.p 1 0),dsr c] [(902,.ab [.p 1 0] us zb (· = [])),(1,.bx 120 (sesV l p bs)),(907,tbOb zt)] (Iso (dsr ((doM l ⟨p,bs⟩ c).1)) [(902,.ab [.p 1 0] us zb (· = [])),(1,.bx 120 (sesV l ((doM l ⟨p,bs⟩ c).2.p) ((doM l ⟨p,bs⟩ c).2.bs))),(907,tbOb zt)]) := by
 cases hcm : cmdM (depM l p) bs c with
 | some sg =>
  obtain ⟨s,g⟩ := sg
  have e : doM l ⟨p,bs⟩ c = (atB l (mvM g l s (p + s)),⟨mvM g l s (p + s),bs⟩) := by unfold doM;dsimp only;rw [hcm]
  rw [e]
  exact doA_some us zb hv hL he hn p hp bs hb c hc zt hz hcm
 | none =>
  have e : doM l ⟨p,bs⟩ c = if c = clearK then (clearedB,⟨p,[]⟩)
  else if c = whereK then (whereL ((activeM l p).map Av.pc),⟨p,bs⟩)
  else if cutW c = breakK ∧ ((spN 3 (cutR' c)).length = 2 ∨ (spN 3 (cutR' c)).length = 4) then ((addM bs (spN 3 (cutR' c))).1,⟨p,(addM bs (spN 3 (cutR' c))).2⟩)
  else if isShow c = true then ((if (showM l p (cutR' c)).isSome = true ∧ nameB (cutR' c) = true then (showM l p (cutR' c)).getD emB else unknownB),⟨p,bs⟩)
  else (whatB,⟨p,bs⟩) := by unfold doM;dsimp only;rw [hcm]
  rw [e]
  by_cases c1 : c = clearK
  ·rw [if_pos c1]
   exact doA_clear us zb hv hL he hn p hp bs hb c hc zt hz hcm c1
  ·rw [if_neg c1]
   by_cases c2 : c = whereK
   ·rw [if_pos c2]
    exact doA_where us zb hv hL he hn p hp bs hb c hc zt hz hcm c1 c2
   ·rw [if_neg c2]
    by_cases c3 : cutW c = breakK ∧ ((spN 3 (cutR' c)).length = 2 ∨ (spN 3 (cutR' c)).length = 4)
    ·rw [if_pos c3]
     exact doA_break us zb hv hL he hn p hp bs hb c hc zt hz hcm c1 c2 c3 hdig
    ·rw [if_neg c3]
     cases c4 : isShow c
     ·rw [if_neg (by simp)]
      exact doA_else us zb hv hL he hn p hp bs hb c hc zt hz hcm c1 c2 c3 c4
     ·rw [if_pos rfl]
      exact doA_show us zb hv hL he hn p hp bs hb c hc zt hz hcm c1 c2 c3 c4
end Go.Proofs.YtabmcfnefjipbaaGreatDoor
namespace Go.Proofs.YtabmcfnefjipbaaGreatDoor
open Go.RowKit
def digOk (c : ByteArray) : Prop := cutW c = breakK → 1 ≤ ((spN 3 (cutR' c))[1]?.getD emB).size ∧ ((spN 3 (cutR' c))[1]?.getD emB).size ≤ 9 ∧ digsB ((spN 3 (cutR' c))[1]?.getD emB)
theorem do_P {l : List Ev} (hv : Vd l) (hL : l.length ≤ 20000) (he : ∀ e ∈ l,e.locs.length ≤ 9000000000) (hn : ∀ e ∈ l,e.line ≤ 9223372036854775807) (p : Int) (hp : -1 ≤ p ∧ p ≤ (l.length : Int)) (bs : List Bp) (hb : bs.length ≤ 1000) (c : ByteArray) (hc : c.size ≤ 4000) (hdig : digOk c) (zt : Fz) (hz : Tab zt) :
  CallsP Tryz.prog 65 [.d (.p 1 0),dsr c] [(1,.bx 120 (sesV l p bs)),(907,tbOb zt)] [1] (Iso (dsr (doM l ⟨p,bs⟩ c).1) [(1,.bx 120 (sesV l (doM l ⟨p,bs⟩ c).2.p (doM l ⟨p,bs⟩ c).2.bs)),(907,tbOb zt)]) := by
 refine .ofP 902 [1] rfl (fun p hp => ?_) (fun j hj => ?_) fun us zb => doA_T us zb hv hL he hn p hp bs hb c hc hdig zt hz
 ·simp only [List.mem_cons,List.not_mem_nil,or_false] at hp
  rcases hp with rfl | rfl
  ·simp [NorP,norD]
  ·simp [NorP]
 ·simp only [List.mem_cons,List.not_mem_nil,or_false] at hj
  subst hj
  exact ⟨_,_,_,_,rfl,rfl,rfl⟩
def sesAt (l : List Ev) (cs : List ByteArray) : Nat → List ByteArray × Ses
 | 0 => ([],⟨-1,[]⟩)
 | i + 1 => match cs[i]? with
  | some c => ((sesAt l cs i).1 ++ [(doM l (sesAt l cs i).2 c).1],(doM l (sesAt l cs i).2 c).2)
  | none => sesAt l cs i
theorem addM_len (bs : List Bp) (ws : List ByteArray) : (addM bs ws).2.length ≤ bs.length + 1 := by
 unfold addM
 split
 ·dsimp only;omega
 ·unfold addG
  split
  ·dsimp only;omega
  ·simp
theorem doM_ok {l : List Ev} {s : Ses} {c : ByteArray} (hp : -1 ≤ s.p ∧ s.p ≤ (l.length : Int)) : (-1 ≤ (doM l s c).2.p ∧ (doM l s c).2.p ≤ (l.length : Int)) ∧ (doM l s c).2.bs.length ≤ s.bs.length + 1 := by
 unfold doM
 split
 ·rename_i st g hc
  have hs : st = 1 ∨ st = -1 := by
   unfold cmdM at hc
   (repeat' split at hc) <;> first | (cases hc;done) | (injection hc with hc;injection hc with h1 _;omega)
  exact ⟨mvM_rng hs _ _ (Nat.le_refl _),by dsimp only;omega⟩
 ·split
  ·exact ⟨hp,by simp⟩
  ·split
   ·exact ⟨hp,by dsimp only;omega⟩
   ·split
    ·exact ⟨hp,addM_len _ _⟩
    ·split
     ·exact ⟨hp,by dsimp only;omega⟩
     ·exact ⟨hp,by dsimp only;omega⟩
theorem sesAt_ok {l : List Ev} {cs : List ByteArray} : ∀ i,(-1 ≤ (sesAt l cs i).2.p ∧ (sesAt l cs i).2.p ≤ (l.length : Int)) ∧ (sesAt l cs i).2.bs.length ≤ i
 | 0 => ⟨⟨Int.le_refl _,by simp only [sesAt];omega⟩,Nat.le_refl _⟩
 | i + 1 => by
  obtain ⟨h1,h2⟩ := sesAt_ok (l := l) (cs := cs) i
  rw [sesAt]
  split
  ·rename_i c hc
   have := doM_ok (c := c) h1
   exact ⟨this.1,by have := this.2;dsimp only;omega⟩
  ·exact ⟨h1,by omega⟩
set_option maxHeartbeats 4000000 in
theorem session_T {l : List Ev} (hv0 : (validM l).1 = 0) (he : ∀ e ∈ l,e.locs.length ≤ 9000000000) (hn : ∀ e ∈ l,e.line ≤ 9223372036854775807) (cs : List ByteArray) (hcl : cs.length ≤ 200) (hcs : ∀ c ∈ cs,c.size ≤ 4000 ∧ digOk c) (zt : Fz) (hz : Tab zt) :
  CallsA Tryz.prog 31 [.d (.u (evs l)),.d (.u (strs' cs))] [(907,tbOb zt)] (Iso (.t [.d (.ow 931 (sesAt l cs cs.length).1.length),.a [.u (.int .i64 0),.u (.int .i64 0)]]) [(931,.ar 9 1 (strs (sesAt l cs cs.length).1)),(907,tbOb zt)]) := by
 have h1 := validate_T l
 obtain ⟨hv,hL⟩ := valid_Vd hv0
 have hz0 : validM l = (0,0) := by
  have q := posM_zero (l := l) (p := -1) (by unfold posM;rw [if_neg (by simpa using hv0),if_neg (by omega)])
  unfold posM at q
  rw [if_neg (by simpa using hv0)] at q
  have e1 : (validM l).2 = 0 := by
   have : ∀ (r : List Ev) (i f : Int) (a : List Fu),(vFrom i f a r).1 = 0 → (vFrom i f a r).2 = 0 := by
    intro r
    induction r with
    | nil => intro i f a _;rfl
    | cons x r ih =>
     intro i f a h
     rw [vFrom] at h ⊢
     split at h
     ·rename_i h2;exact absurd h h2
     ·rename_i h2;rw [if_neg h2];exact ih _ _ _ h
   unfold validM at hv0 ⊢
   split at hv0
   ·cases hv0
   ·rename_i h2;rw [if_neg h2];exact this _ _ _ _ hv0
  exact Prod.ext hv0 e1
 rw [hz0] at h1
 clear hz0 hv0
 refine callsA_of_vcO (T := tt) Tryz.func31 rfl rfl rfl rfl rfl ?_
 repeat' ((conv => whnf);first | refine Gs.id ?_ | with_reducible refine Brn.F rfl ?_ | refine Brn.F (by (try simp only [smT]);first | rfl | omega | fail) ?_ | (refine Bnd.mk (fun hm => ?_);(try simp only [smT] at hm)) | (refine CL.mk (Or.inl ?_);(conv => whnf);refine Cl.is (h1) rfl (by first | exact fun _ => rfl | fail) ?_) | fail)
 all_goals (conv => whnf)
 all_goals try (exfalso;simp at *;omega)
 refine ⟨⟨Nat,fun i => i ≤ cs.length,fun i => cs.length - i,fun i => ⟨[(0,.d (.u (evs l))),(1,.d (.u (strs' cs))),(5,.d (.p 5 0)),(23,.d (.u (strs' cs))),(24,di cs.length),(25,di i)],[(5,.bx 25 [.u (.int .i64 0),.u (.int .i64 0)]),(907,tbOb zt)]⟩,0,Nat.zero_le _,⟨[(5,.k 5),(907,.k 907)],⟨by (try dsimp only);(repeat (refine LeT.cons rfl (by first | exact LeS.d (by first | exact LeD.u rfl | exact LeD.p rfl | exact LeD.u (by simp;done) | fail) | fail) ?_));exact LeT.nil,by (try dsimp only);repeat (first | exact LeO.nil | refine LeO.bx rfl rfl (by repeat (first | exact LeL.nil | refine LeL.cons (by first | exact LeD.u rfl | fail) ?_)) ?_ | refine LeO.ab rfl rfl (by repeat (first | exact LeL.nil | fail)) (by first | rfl | fail) ?_ | fail)⟩⟩,fun i hi => ?_⟩⟩
 dsimp only at hi ⊢
 by_cases h9 : i < cs.length
 ·have hrow : ∀ {K : List V → Prop},K [V.str cs[i]] → Ix (strs cs) (i : Int) K := fun k => Ix.map rfl h9 k
  have hcz := (hcs cs[i] (List.getElem_mem h9)).1
  generalize cs[i] = c at *
  repeat' ((conv => whnf);first | refine hrow ?_ | refine Gs.id ?_ | refine Brn.T (by (try simp only [smT]);first | rfl | omega | fail) ?_ | refine Brn.F (by (try simp only [smT]);first | rfl | omega | fail) ?_ | (refine Bnd.mk (fun hm => ?_);(try simp only [smT] at hm)) | refine Rng.mk (by (try simp only [smT]);omega) ?_ | fail)
  all_goals (conv => whnf)
  all_goals first | (exfalso;simp at *;omega) | exact ⟨i + 1,by omega,by omega,[(5,.k 5),(907,.k 907)],⟨by (try dsimp only);(repeat (refine LeT.cons rfl (by first | exact LeS.d (by first | exact LeD.u rfl | exact LeD.p rfl | fail) | fail) ?_));exact LeT.nil,by (try dsimp only);repeat (first | exact LeO.nil | refine LeO.bx rfl rfl (by repeat (first | exact LeL.nil | refine LeL.cons (by first | exact LeD.u rfl | fail) ?_)) ?_ | refine LeO.ab rfl rfl (by repeat (first | exact LeL.nil | fail)) (by first | rfl | fail) ?_ | fail)⟩⟩
 ·obtain rfl : i = cs.length := by omega
  repeat' ((conv => whnf);first | refine Gs.id ?_ | refine Brn.F (by (try simp only [smT]);first | rfl | omega | fail) ?_ | (refine Bnd.mk (fun hm => ?_);(try simp only [smT] at hm)) | fail)
  all_goals (conv => whnf)
  all_goals try (exfalso;simp at *;omega)
  refine ⟨⟨Nat,fun i => i ≤ cs.length,fun i => cs.length - i,fun i => ⟨[(5,.d (.p 5 0)),(9,.d (.p 1 0)),(10,.d (.ow 931 (sesAt l cs i).1.length)),(40,.d (.u (strs' cs))),(41,di cs.length),(42,di i)],[(5,.bx 25 [.u (.int .i64 0),.u (.int .i64 0)]),(1,.bx 120 (sesV l (sesAt l cs i).2.p (sesAt l cs i).2.bs)),(931,.ar 9 1 (strs (sesAt l cs i).1)),(907,tbOb zt)]⟩,0,Nat.zero_le _,⟨[(5,.k 5),(1,.k 39),(931,.n 1),(907,.k 907)],⟨by (try dsimp only);(repeat (refine LeT.cons rfl (by first | exact LeS.d (by first | exact LeD.u rfl | exact LeD.p rfl | exact LeD.no rfl rfl | exact LeD.u (by simp [sesAt,bkV];done) | fail) | fail) ?_));exact LeT.nil,by (try dsimp only);repeat (first | exact LeO.nil | refine LeO.bx rfl rfl (by repeat (first | exact LeL.nil | refine LeL.cons (by first | exact LeD.u rfl | fail) ?_)) ?_ | refine LeO.ab rfl rfl (by repeat (first | exact LeL.nil | fail)) (by first | rfl | fail) ?_ | refine LeO.no rfl rfl ?_)⟩⟩,fun i hi => ?_⟩⟩
  dsimp only at hi ⊢
  by_cases h8 : i < cs.length
  ·have hci : cs[i]? = some cs[i] := List.getElem?_eq_getElem h8
   have hrow : ∀ {K : List V → Prop},K [V.str cs[i]] → Ix (strs cs) (i : Int) K := fun k => Ix.map rfl h8 k
   obtain ⟨hcz,hdg⟩ := hcs cs[i] (List.getElem_mem h8)
   obtain ⟨o1,o2⟩ := sesAt_ok (l := l) (cs := cs) i
   have hlen : ∀ i,(sesAt l cs i).1.length ≤ i := by
    intro i
    induction i with
    | zero => exact Nat.le_refl _
    | succ i ih =>
     rw [sesAt]
     split
     ·simp;omega
     ·omega
   have hll := hlen i
   have hdo := do_P hv hL he hn (sesAt l cs i).2.p o1 (sesAt l cs i).2.bs (by omega) cs[i] hcz hdg zt hz
   have hst : sesAt l cs (i + 1) = ((sesAt l cs i).1 ++ [(doM l (sesAt l cs i).2 cs[i]).1],(doM l (sesAt l cs i).2 cs[i]).2) := by rw [sesAt,hci]
   clear hlen
   have hse : (⟨(sesAt l cs i).2.p,(sesAt l cs i).2.bs⟩ : Ses) = (sesAt l cs i).2 := rfl
   rw [hse] at hdo
   generalize doM l (sesAt l cs i).2 cs[i] = dm at *
   generalize cs[i] = c at *
   generalize sesAt l cs i = x at *
   obtain ⟨outs,x2⟩ := x
   obtain ⟨ans,x3⟩ := dm
   dsimp only at *
   repeat' ((conv => whnf);first | refine hrow ?_ | refine Gs.id ?_ | refine Brn.T (by (try simp only [smT]);first | rfl | omega | fail) ?_ | refine Rng.mk (by (try simp only [smT]);omega) ?_ | refine Apd.mk (by first | rfl | simp) (by first | rfl | fail) (by (try simp only [smT]);first | omega | fail) (by unfold maxLen;first | (simp;omega) | fail) ?_ | (refine CL.mk (Or.inr (Raw.callFP (x := .func _) [1] [1,907] [907] rfl rfl rfl rfl rfl rfl rfl rfl rfl (hdo) ?_));rintro _ _ ⟨rfl,rfl⟩;refine BkP.mk rfl rfl ?_))
   all_goals (conv => whnf)
   all_goals first | (exfalso;simp at *;omega) | exact ⟨i + 1,by omega,by omega,[(5,.k 5),(1,.k 1),(931,.k 51),(907,.k 907)],by (rw [hst];exact ⟨by (try dsimp only);(repeat (refine LeT.cons rfl (by first | exact LeS.d (by first | exact LeD.u rfl | exact LeD.p rfl | exact LeD.ow rfl (by simp) | fail) | fail) ?_));exact LeT.nil,by (try dsimp only);repeat (first | exact LeO.nil | refine LeO.bx rfl rfl (by repeat (first | exact LeL.nil | refine LeL.cons (by first | exact LeD.u rfl | fail) ?_)) ?_ | refine LeO.ar rfl rfl (by first | rfl | simp) ?_ | refine LeO.ab rfl rfl (by repeat (first | exact LeL.nil | fail)) (by first | rfl | fail) ?_ | fail)⟩)⟩
  ·obtain rfl : i = cs.length := by omega
   repeat' ((conv => whnf);first | refine Gs.id ?_ | refine Brn.F (by (try simp only [smT]);first | rfl | omega | fail) ?_ | fail)
   all_goals (conv => whnf)
   all_goals first | (exfalso;simp at *;omega) | (refine RetO.mk ⟨[(931,.k 931),(907,.k 907)],_,_,(by exact LeS.ts (by repeat (first | exact LeCs.nil | refine LeCs.cons (by first | exact LeC.d (by first | exact LeD.ow rfl rfl | fail) | exact LeC.a (by repeat (first | exact LeL.nil | refine LeL.cons (by first | exact LeD.u rfl | fail) ?_))) ?_))),(by repeat (first | exact LeO.nil | refine LeO.ar rfl rfl (by first | rfl | fail) ?_ | refine LeO.ab rfl rfl (by repeat (first | exact LeL.nil | fail)) (by first | rfl | fail) ?_ | fail)),rfl,rfl⟩)
end Go.Proofs.YtabmcfnefjipbaaGreatDoor
namespace Go.Proofs.YtabmcfnefjipbaaGreatDoor
open Go.RowKit
abbrev mainB : ByteArray := ByteArray.mk #[109,97,105,110]
abbrev moduleB : ByteArray := ByteArray.mk #[109,111,100,117,108,101]
abbrev fB : ByteArray := ByteArray.mk #[102]
abbrev noB : ByteArray := ByteArray.mk #[]
abbrev mkEv (k : Int) (fn : ByteArray) (d f : Int) : Ev := ⟨k,mainB,fn,0,d,f,noB,[]⟩
theorem event_T (k : Int) (fn : ByteArray) (d f : Int) : CallsA Tryz.prog 77 [di k,dsr fn,di d,di f] [] (Is (.a (mkEv k fn d f).ds)) := by
 refine callsA_of_vc (T := tt) Tryz.func77 rfl rfl rfl rfl rfl ?_
 repeat' ((conv => whnf);first | refine Gs.id ?_ | fail)
 all_goals (conv => whnf)
 all_goals exact Ret.nl (by repeat (first | exact NlL.nil | exact NlD.refl | exact NlD.u (NlV.nl (by first | rfl | fail)) | refine NlL.cons ?_ ?_ | refine NlS.a ?_ | fail))
def nestL : List Ev := [mkEv 2 moduleB 1 0,mkEv 2 fB 2 2,⟨1,mainB,fB,7,2,3,noB,[(ByteArray.mk #[120],ByteArray.mk #[49])]⟩,mkEv 3 fB 2 5,mkEv 3 moduleB 1 6]
theorem nested_T : CallsA Tryz.prog 45 [] [] (Is (.d (.u (evs nestL)))) := by
 have h1 := fun k fn d f => event_T k fn d f
 refine callsA_of_vc (T := tt) Tryz.func45 rfl rfl rfl rfl rfl ?_
 repeat' ((conv => whnf);first | refine Drw.ghost (i := 4) ((Ghost.frzA 5 rfl (by repeat ((conv => whnf);first | exact trivial | refine Len.mk (by first | rfl | fail) ?_))).trans (Ghost.frzB 1 rfl rfl)) ?_ | refine Gs.id ?_ | refine Len.mk (by first | rfl | fail) ?_ | refine Drw.of (T := tt) (i := 4) [] [] [(2,true),(0,false),(1,false),(3,false),(4,false),(5,false),(6,true)] (by kernel_rfl) ?_ | (refine CL.mk (Or.inl ?_);(conv => whnf);refine Cl.is (h1 _ _ _ _) rfl (by first | (intro e;cases e;done) | fail) ?_) | fail)
 all_goals (conv => whnf)
 all_goals exact Ret.is rfl
end Go.Proofs.YtabmcfnefjipbaaGreatDoor
namespace Go.Proofs.YtabmcfnefjipbaaGreatDoor
open Go.RowKit
abbrev xB : ByteArray := ByteArray.mk #[120]
abbrev oneB : ByteArray := ByteArray.mk #[49]
abbrev cmdsB : List ByteArray := [ByteArray.mk #[98,114,101,97,107,32,109,97,105,110,32,55],goK,whereK,ByteArray.mk #[115,104,111,119,32,120],outK']
abbrev saysB : List ByteArray := [ByteArray.mk #[98,114,101,97,107,112,111,105,110,116,32,49],ByteArray.mk #[109,97,105,110,58,55,32,102],ByteArray.mk #[109,97,105,110,58,55,32,102,59,32,109,97,105,110,58,48,32,109,111,100,117,108,101],oneB,endB]
theorem nest_move : moveM nestL [] (-1) stepK = (2,(0,0)) := by kernel_rfl
theorem nest_show : showP nestL 3 xB = (some oneB,(0,0)) := by kernel_rfl
theorem nest_stack : stackP nestL 2 = [⟨mainB,moduleB,0⟩,⟨mainB,fB,7⟩] := by kernel_rfl
theorem nest_pos : posM nestL 2 = (0,0) := by kernel_rfl
theorem nest_valid : (validM nestL).1 = 0 := by kernel_rfl
theorem nest_locs : ∀ e ∈ nestL,e.locs.length ≤ 9000000000 := by
 intro e he
 simp only [nestL,List.mem_cons,List.not_mem_nil,or_false] at he
 rcases he with rfl | rfl | rfl | rfl | rfl <;> simp
theorem nest_line : ∀ e ∈ nestL,e.line ≤ 9223372036854775807 := by
 intro e he
 simp only [nestL,List.mem_cons,List.not_mem_nil,or_false] at he
 rcases he with rfl | rfl | rfl | rfl | rfl <;> decide
theorem cmds_ok : ∀ c ∈ cmdsB,c.size ≤ 4000 ∧ digOk c := by
 intro c hc
 simp only [List.mem_cons,List.not_mem_nil,or_false] at hc
 rcases hc with rfl | rfl | rfl | rfl | rfl
 ·refine ⟨by decide,fun _ => ?_⟩
  have e : (spN 3 (cutR' (ByteArray.mk #[98,114,101,97,107,32,109,97,105,110,32,55])))[1]?.getD emB = ByteArray.mk #[55] := by kernel_rfl
  rw [e]
  refine ⟨by decide,by decide,fun i hi => ?_⟩
  have : i = 0 := by have h1 : (ByteArray.mk #[55]).size = 1 := rfl;omega
  subst this
  decide
 all_goals exact ⟨by decide,fun h => absurd h (by decide +kernel)⟩
theorem nest_says : (sesAt nestL cmdsB cmdsB.length).1 = saysB := by kernel_rfl
set_option maxHeartbeats 4000000 in
theorem stopped_T (zt : Fz) (hz : Tab zt) : CallsA Tryz.prog 24 [] [(907,tbOb zt)] (Iso (db true) [(907,tbOb zt)]) := by
 have h1 := nested_T
 have h2 := move_T nestL [] (-1) stepK nest_locs
 have h3 := showD_T nestL nest_locs 3 xB
 have h4 := stackD_T nestL 2
 have h5 := session_T nest_valid nest_locs nest_line cmdsB (by decide) cmds_ok zt hz
 rw [nest_says] at h5
 rw [nest_move] at h2
 rw [nest_show] at h3
 rw [nest_stack,nest_pos] at h4
 have h6 := strings_R saysB saysB
 rw [decide_eq_true rfl] at h6
 refine callsA_of_vcO (T := tt) Tryz.func24 rfl rfl rfl rfl rfl ?_
 repeat' ((conv => whnf);first | (refine CL.mk (Or.inr (Raw.ghost (Ghost.frzA 28 rfl (by repeat ((conv => whnf);first | exact trivial | refine Len.mk (by first | rfl | fail) ?_))) ?_));refine (Raw.callI [907] [907,931] rfl rfl rfl rfl rfl rfl rfl h5 ?_);rintro _ _ ⟨rfl,rfl⟩;refine Bk.mk rfl rfl ?_) | refine Gs.id ?_ | with_reducible refine Brn.F rfl ?_ | refine Brn.T (by (try simp only [smT]);first | rfl | (simp [*];done) | fail) ?_ | refine Brn.F (by (try simp only [smT]);first | rfl | (simp [*];done) | fail) ?_ | (refine Bnd.mk (fun hm => ?_);(try simp only [smT] at hm)) | refine Ix.map rfl (by (try simp only [smT]);omega) ?_ | refine Eqv.mk (by kernel_rfl) ?_ | (refine CL.mk (Or.inl ?_);(conv => whnf);first | refine Cl.is (h1) rfl (by first | (intro e;cases e;done) | fail) ?_ | refine Cl.nl (by repeat (first | exact NlSs.nil | exact NlS.refl | exact NlD.u (NlV.nl (by first | rfl | fail)) | refine NlSs.cons ?_ ?_ | refine NlS.d ?_ | fail)) (h2) rfl (by first | exact fun _ => rfl | fail) ?_ | refine Cl.is (h3) rfl (by first | exact fun _ => rfl | fail) ?_ | refine Cl.is (h4) rfl (by first | (intro e;cases e;done) | fail) ?_ | fail) | (refine CL.mk (Or.inl ?_);(conv => whnf);refine ClO.mk (Or.inl ?_);(repeat ((conv => whnf);refine Len.mk (by first | rfl | fail) ?_));(conv => whnf);refine Cl.is (h6) rfl (by first | exact fun _ => rfl | fail) ?_) | fail)
 all_goals (conv => whnf)
 all_goals refine RetO.mk ⟨[(907,.k 907)],_,_,(by first | exact LeS.d (by first | exact LeD.u rfl | fail) | fail),(by repeat (first | exact LeO.nil | refine LeO.ab rfl rfl (by repeat (first | exact LeL.nil | fail)) (by first | rfl | fail) ?_ | fail)),rfl,rfl⟩
end Go.Proofs.YtabmcfnefjipbaaGreatDoor
namespace Go.Proofs.YtabmcfnefjipbaaGreatDoor
open Go.RowKit
def spL : List UInt8 → List (List UInt8)
 | [] => [[]]
 | b :: l => if b = 32 then [] :: spL l else match spL l with
  | [] => [[b]]
  | x :: r => (b :: x) :: r
theorem spL_ne : ∀ l,spL l ≠ []
 | [] => by simp [spL]
 | b :: l => by
  rw [spL]
  split
  ·simp
  ·split <;> simp
theorem spL_cons {b : UInt8} {l : List UInt8} (h : b ≠ 32) : spL (b :: l) = preL [b] (spL l) := by
 rw [spL,if_neg h]
 cases spL l <;> rfl
theorem splitB_spL (s : ByteArray) : ∀ i,i ≤ s.size → spL s.data.toList = tl (splitB s 32 i).1 ++ preL ((s.data.toList.drop (splitB s 32 i).2).take (i - (splitB s 32 i).2)) (spL (s.data.toList.drop i))
 | 0,_ => by simp [splitB,preL_nil (spL_ne _)]
 | i + 1,h => by
  have ih := splitB_spL s i (by omega)
  have hle := splitB_le s 32 i
  have hi : i < s.data.toList.length := by simp;omega
  have hd : s.data.toList.drop i = s.data.toList[i] :: s.data.toList.drop (i + 1) := List.drop_eq_getElem_cons hi
  have hg : s.data[i]? = some s.data.toList[i] := by simp at hi ⊢
  rw [splitB,hg]
  rw [hd] at ih
  generalize hb : s.data.toList[i] = b at *
  by_cases hc : b = 32
  ·subst hc
   rw [if_pos (.inr rfl),ih,spL,if_pos rfl]
   have e1 := extract_tl s (splitB s 32 i).2 i
   have hne := spL_ne (s.data.toList.drop (i + 1))
   generalize spL (s.data.toList.drop (i + 1)) = Y at *
   cases Y with
   | nil => exact absurd rfl hne
   | cons y r =>
    simp only [tl,List.map_append,List.map_cons,List.map_nil,List.append_assoc,List.singleton_append,preL,List.append_nil,Nat.sub_self,List.take_zero,List.nil_append]
    rw [e1]
  ·rw [if_neg (by simp [hc];omega),ih,spL_cons hc,preL_preL]
   congr 2
   have e : i + 1 - (splitB s 32 i).2 = (i - (splitB s 32 i).2) + 1 := by omega
   have hlen : i - (splitB s 32 i).2 < (s.data.toList.drop (splitB s 32 i).2).length := by simp;simp at hi;omega
   rw [e,List.take_succ_eq_append_getElem hlen]
   congr 1
   rw [List.getElem_drop]
   have : (splitB s 32 i).2 + (i - (splitB s 32 i).2) = i := by omega
   simp only [this,hb]
def parts32 (s : ByteArray) : List ByteArray := (splitB s 32 (s.size + 1)).1
theorem parts32_spL (s : ByteArray) : tl (parts32 s) = spL s.data.toList := by
 have h := splitB_spL s s.size (Nat.le_refl _)
 rw [parts32,splitB,if_pos (.inl rfl),h]
 have e1 := extract_tl s (splitB s 32 s.size).2 s.size
 have e2 : s.data.toList.drop s.size = [] := List.drop_eq_nil_of_le (by simp)
 rw [e2]
 simp only [tl,List.map_append,List.map_cons,List.map_nil,spL,preL,List.append_nil]
 rw [e1]
theorem spL_idx : ∀ (l : List UInt8),spL l = if 0 ≤ Go.Lib.indexByte l 32 then l.take (Go.Lib.indexByte l 32).toNat :: spL (l.drop ((Go.Lib.indexByte l 32).toNat + 1)) else [l]
 | [] => by rw [if_neg (by simp [Go.Lib.indexByte])];rfl
 | b :: l => by
  have ih := spL_idx l
  have hlt := idxJ_lt l
  by_cases hb : b = 32
  ·subst hb
   simp [spL,Go.Lib.indexByte]
  ·rw [spL_cons hb,ih]
   have h4 : (b == 32) = false := by simpa using hb
   by_cases h : 0 ≤ Go.Lib.indexByte l 32
   ·have h5 : (Go.Lib.indexByte l 32 == -1) = false := by simp;omega
    have e : Go.Lib.indexByte (b :: l) 32 = Go.Lib.indexByte l 32 + 1 := by
     rw [Go.Lib.indexByte,h4,h5];rfl
    have e2 : (Go.Lib.indexByte l 32 + 1).toNat = (Go.Lib.indexByte l 32).toNat + 1 := by omega
    rw [if_pos h,e,if_pos (by omega),e2]
    simp [preL]
   ·have h5 : (Go.Lib.indexByte l 32 == -1) = true := by simp;omega
    have e : Go.Lib.indexByte (b :: l) 32 = -1 := by
     rw [Go.Lib.indexByte,h4,h5];rfl
    rw [if_neg h,e,if_neg (by omega)]
    rfl
theorem spN_spL : ∀ (n : Nat) (s : ByteArray),s.size ≤ n → tl (spN n s) = spL s.data.toList
 | 0,s,h => by
  have e : s.data.toList = [] := by
   have : s.data.toList.length = 0 := by rw [Array.length_toList];exact Nat.le_zero.1 h
   exact List.eq_nil_of_length_eq_zero this
  rw [spN,tl,List.map_cons,List.map_nil,e];rfl
 | n + 1,s,h => by
  rw [spL_idx,spN]
  have hc : cutJ s = Go.Lib.indexByte s.data.toList 32 := rfl
  have hlt := cutJ_lt s
  rw [← hc]
  split
  ·rename_i h0
   have e1 := extract_tl s 0 (cutJ s).toNat
   have e2 := extract_tl s ((cutJ s).toNat + 1) s.size
   rw [List.take_of_length_le (by simp)] at e2
   have ih := spN_spL n (s.extract ((cutJ s).toNat + 1) s.size) (by simp;omega)
   rw [e2] at ih
   rw [tl,List.map_cons,e1]
   show _ :: tl (spN n _) = _
   rw [ih]
   simp
  ·rfl
theorem parts32_spN (s : ByteArray) (n : Nat) (h : s.size ≤ n) : parts32 s = spN n s := tl_inj ((parts32_spL s).trans (spN_spL n s h).symm)
theorem spN_few : ∀ (k j : Nat) (s : ByteArray),(spN k s).length ≤ k → spN (k + j) s = spN k s
 | 0,j,s,h => by simp [spN] at h
 | k + 1,j,s,h => by
  rw [show k + 1 + j = (k + j) + 1 by omega]
  rw [spN] at h ⊢
  rw [spN]
  split
  ·rename_i h0
   rw [if_pos h0] at h
   rw [spN_few k j _ (by simpa using h)]
  ·rfl
theorem spN_more : ∀ (k j : Nat) (s : ByteArray),(spN k s).length = k + 1 → ∃ x,(spN k s)[k]? = some x ∧ spN (k + j) s = (spN k s).take k ++ spN j x
 | 0,j,s,h => ⟨s,by simp [spN],by simp [spN]⟩
 | k + 1,j,s,h => by
  rw [show k + 1 + j = (k + j) + 1 by omega]
  rw [spN] at h ⊢
  rw [spN]
  by_cases h0 : 0 ≤ cutJ s
  ·rw [if_pos h0] at h ⊢
   rw [if_pos h0]
   obtain ⟨x,h1,h2⟩ := spN_more k j (s.extract ((cutJ s).toNat + 1) s.size) (by simpa using h)
   exact ⟨x,by simpa using h1,by rw [h2];rfl⟩
  ·rw [if_neg h0] at h
   simp at h
theorem idx_eq : ∀ (l : List UInt8),0 ≤ Go.Lib.indexByte l 32 → l = l.take (Go.Lib.indexByte l 32).toNat ++ 32 :: l.drop ((Go.Lib.indexByte l 32).toNat + 1)
 | [],h => by simp [Go.Lib.indexByte] at h
 | b :: l,h => by
  by_cases hb : b = 32
  ·subst hb
   simp [Go.Lib.indexByte]
  ·have h4 : (b == 32) = false := by simpa using hb
   have hlt := idxJ_lt l
   by_cases h6 : 0 ≤ Go.Lib.indexByte l 32
   ·have h5 : (Go.Lib.indexByte l 32 == -1) = false := by simp;omega
    have e : Go.Lib.indexByte (b :: l) 32 = Go.Lib.indexByte l 32 + 1 := by
     rw [Go.Lib.indexByte,h4,h5];rfl
    have e2 : (Go.Lib.indexByte l 32 + 1).toNat = (Go.Lib.indexByte l 32).toNat + 1 := by omega
    have ih := idx_eq l h6
    rw [e,e2]
    simp only [List.take_succ_cons,List.drop_succ_cons,List.cons_append]
    rw [← ih]
   ·have h5 : (Go.Lib.indexByte l 32 == -1) = true := by simp;omega
    rw [Go.Lib.indexByte,h4,h5] at h
    simp at h
theorem spN_ne (k : Nat) (s : ByteArray) : spN k s ≠ [] := by
 have := (spN_len k s).1
 intro h
 rw [h] at this
 simp at this
theorem join_spN : ∀ (j : Nat) (s : ByteArray),Lib.join (tl (spN j s)) [32] = s.data.toList
 | 0,s => by simp [spN,tl,Lib.join,List.intercalate]
 | j + 1,s => by
  rw [spN]
  split
  ·rename_i h0
   have ih := join_spN j (s.extract ((cutJ s).toNat + 1) s.size)
   have hne := spN_ne j (s.extract ((cutJ s).toNat + 1) s.size)
   have e1 := extract_tl s 0 (cutJ s).toNat
   have e2 := extract_tl s ((cutJ s).toNat + 1) s.size
   rw [List.take_of_length_le (by simp)] at e2
   rw [e2] at ih
   have hi := idx_eq s.data.toList h0
   generalize spN j (s.extract ((cutJ s).toNat + 1) s.size) = L at *
   cases L with
   | nil => exact absurd rfl hne
   | cons x r =>
    simp only [tl,List.map_cons,Lib.join,List.intercalate,List.intersperse_cons_cons,List.flatten_cons] at ih ⊢
    rw [ih,e1]
    simp only [List.drop_zero,Nat.sub_zero,List.singleton_append]
    exact hi.symm
  ·simp [tl,Lib.join,List.intercalate]
theorem joinB_spN (j : Nat) (s : ByteArray) : joinB (spN j s) spc (spN j s).length = s := by
 rw [← joinB_eq]
 refine bytes_ext ?_
 exact join_spN j s
theorem words_cut (c : ByteArray) : parts32 c = if 0 ≤ cutJ c then cutW c :: parts32 (cutR' c) else [c] := by
 rw [parts32_spN c (c.size + 1) (by omega),spN]
 split
 ·rename_i h0
  have hl := cutJ_lt c
  rw [parts32_spN (cutR' c) c.size (by have := cutR_size c;omega)]
  unfold cutW cutR'
  rw [if_pos h0,if_pos h0]
 ·rfl
theorem words_rest (r : ByteArray) : ((spN 3 r).length < 4 ∧ parts32 r = spN 3 r) ∨ ((spN 3 r).length = 4 ∧ ∃ x L,(spN 3 r)[3]? = some x ∧ parts32 r = (spN 3 r).take 3 ++ L ∧ L ≠ [] ∧ joinB L spc L.length = x) := by
 obtain ⟨h1,h2⟩ := spN_len 3 r
 rw [parts32_spN r (3 + r.size) (by omega)]
 by_cases h : (spN 3 r).length ≤ 3
 ·exact .inl ⟨by omega,spN_few 3 _ r h⟩
 ·have h4 : (spN 3 r).length = 3 + 1 := by omega
  obtain ⟨x,q1,q2⟩ := spN_more 3 r.size r h4
  exact .inr ⟨by omega,x,spN r.size x,q1,q2,spN_ne _ _,joinB_spN _ _⟩
theorem spN_le : ∀ (k : Nat) (s : ByteArray),∀ x ∈ spN k s,x.size ≤ s.size
 | 0,s,x,h => by simp [spN] at h;subst h;exact Nat.le_refl _
 | k + 1,s,x,h => by
  have hl := cutJ_lt s
  rw [spN] at h
  split at h
  ·rcases List.mem_cons.1 h with h | h
   ·subst h;simp;omega
   ·have := spN_le k _ x h
    simp at this
    omega
  ·simp at h;subst h;exact Nat.le_refl _
end Go.Proofs.YtabmcfnefjipbaaGreatDoor
namespace Go.Proofs.YtabmcfnefjipbaaGreatDoor
open Go.Shelf
def laysC172_ren : Go.Shelf.Ren := ⟨fun | 172 => 116 | 244 => 142 | 245 => 143 | 247 => 160 | 279 => 161 | 280 => 162 | 281 => 163 | 282 => 164 | 287 => 171 | 316 => 172 | 171 => 43 | 205 => 173 | 321 => 174 | 322 => 175 | 243 => 76 | 246 => 104 | 283 => 121 | 284 => 122 | 285 => 123 | 286 => 124 | 129 => 134 | 317 => 144 | 318 => 145 | 319 => 146 | 320 => 147 | 337 => 165 | 338 => 166 | n => n,fun | 9 => 9 | 3 => 3 | 75 => 137 | 76 => 138 | 4 => 4 | 5 => 5 | 167 => 219 | 37 => 132 | 0 => 0 | 85 => 220 | 2 => 2 | 168 => 222 | 53 => 189 | 175 => 230 | 46 => 177 | 210 => 233 | 127 => 173 | 145 => 244 | 143 => 242 | 21 => 21 | 171 => 188 | 173 => 192 | 212 => 208 | 51 => 202 | 20 => 20 | 213 => 209 | 232 => 235 | 233 => 236 | 80 => 140 | n => n,fun | 15 => 2 | 16 => 3 | 17 => 1 | 18 => 4 | 19 => 5 | n => n⟩
theorem laysC172 : Go.Proofs.LaysC.n172 Tryz.prog laysC172_ren := {
 mixed := by kernel_rfl
 f129 := Tryz.func134.trans (congrArg some (by kernel_rfl))
 f171 := Tryz.func43.trans (congrArg some (by kernel_rfl))
 f172 := Tryz.func116.trans (congrArg some (by kernel_rfl))
 f205 := Tryz.func173.trans (congrArg some (by kernel_rfl))
 f243 := Tryz.func76.trans (congrArg some (by kernel_rfl))
 f244 := Tryz.func142.trans (congrArg some (by kernel_rfl))
 f245 := Tryz.func143.trans (congrArg some (by kernel_rfl))
 f246 := Tryz.func104.trans (congrArg some (by kernel_rfl))
 f247 := Tryz.func160.trans (congrArg some (by kernel_rfl))
 f279 := Tryz.func161.trans (congrArg some (by kernel_rfl))
 f280 := Tryz.func162.trans (congrArg some (by kernel_rfl))
 f281 := Tryz.func163.trans (congrArg some (by kernel_rfl))
 f282 := Tryz.func164.trans (congrArg some (by kernel_rfl))
 f283 := Tryz.func121.trans (congrArg some (by kernel_rfl))
 f284 := Tryz.func122.trans (congrArg some (by kernel_rfl))
 f285 := Tryz.func123.trans (congrArg some (by kernel_rfl))
 f286 := Tryz.func124.trans (congrArg some (by kernel_rfl))
 f287 := Tryz.func171.trans (congrArg some (by kernel_rfl))
 f316 := Tryz.func172.trans (congrArg some (by kernel_rfl))
 f317 := Tryz.func144.trans (congrArg some (by kernel_rfl))
 f318 := Tryz.func145.trans (congrArg some (by kernel_rfl))
 f319 := Tryz.func146.trans (congrArg some (by kernel_rfl))
 f320 := Tryz.func147.trans (congrArg some (by kernel_rfl))
 f321 := Tryz.func174.trans (congrArg some (by kernel_rfl))
 f322 := Tryz.func175.trans (congrArg some (by kernel_rfl))
 f337 := Tryz.func165.trans (congrArg some (by kernel_rfl))
 f338 := Tryz.func166.trans (congrArg some (by kernel_rfl))
 t0 := Tryz.underlying0
 a0 := Tryz.isAgg0
 z0 := Tryz.sizeOf0
 v0 := Tryz.zeroValue0
 t2 := Tryz.underlying2
 a2 := Tryz.isAgg2
 z2 := Tryz.sizeOf2
 v2 := Tryz.zeroValue2
 t3 := Tryz.underlying3
 a3 := Tryz.isAgg3
 z3 := Tryz.sizeOf3
 v3 := Tryz.zeroValue3
 t4 := Tryz.underlying4
 a4 := Tryz.isAgg4
 z4 := Tryz.sizeOf4
 v4 := Tryz.zeroValue4
 t5 := Tryz.underlying5
 a5 := Tryz.isAgg5
 z5 := Tryz.sizeOf5
 v5 := Tryz.zeroValue5
 t9 := Tryz.underlying9
 a9 := Tryz.isAgg9
 z9 := Tryz.sizeOf9
 v9 := Tryz.zeroValue9
 t20 := Tryz.underlying20
 a20 := Tryz.isAgg20
 z20 := Tryz.sizeOf20
 v20 := Tryz.zeroValue20
 t21 := Tryz.underlying21
 a21 := Tryz.isAgg21
 z21 := Tryz.sizeOf21
 v21 := Tryz.zeroValue21
 t37 := Tryz.underlying132
 a37 := Tryz.isAgg132
 z37 := Tryz.sizeOf132
 v37 := Tryz.zeroValue132
 t46 := Tryz.underlying177
 a46 := Tryz.isAgg177
 z46 := Tryz.sizeOf177
 v46 := Tryz.zeroValue177
 t51 := Tryz.underlying202
 a51 := Tryz.isAgg202
 z51 := Tryz.sizeOf202
 v51 := Tryz.zeroValue202
 t53 := Tryz.underlying189
 a53 := Tryz.isAgg189
 z53 := Tryz.sizeOf189
 v53 := Tryz.zeroValue189
 t75 := Tryz.underlying137
 a75 := Tryz.isAgg137
 z75 := Tryz.sizeOf137
 v75 := Tryz.zeroValue137
 t76 := Tryz.underlying138
 a76 := Tryz.isAgg138
 z76 := Tryz.sizeOf138
 v76 := Tryz.zeroValue138
 t85 := Tryz.underlying220
 a85 := Tryz.isAgg220
 z85 := Tryz.sizeOf220
 v85 := Tryz.zeroValue220
 t127 := Tryz.underlying173
 a127 := Tryz.isAgg173
 z127 := Tryz.sizeOf173
 v127 := Tryz.zeroValue173
 t143 := Tryz.underlying242
 a143 := Tryz.isAgg242
 z143 := Tryz.sizeOf242
 v143 := Tryz.zeroValue242
 t145 := Tryz.underlying244
 a145 := Tryz.isAgg244
 z145 := Tryz.sizeOf244
 v145 := Tryz.zeroValue244
 t167 := Tryz.underlying219
 a167 := Tryz.isAgg219
 z167 := Tryz.sizeOf219
 v167 := Tryz.zeroValue219
 t168 := Tryz.underlying222
 a168 := Tryz.isAgg222
 z168 := Tryz.sizeOf222
 v168 := Tryz.zeroValue222
 t171 := Tryz.underlying188
 a171 := Tryz.isAgg188
 z171 := Tryz.sizeOf188
 v171 := Tryz.zeroValue188
 t173 := Tryz.underlying192
 a173 := Tryz.isAgg192
 z173 := Tryz.sizeOf192
 v173 := Tryz.zeroValue192
 t175 := Tryz.underlying230
 a175 := Tryz.isAgg230
 z175 := Tryz.sizeOf230
 v175 := Tryz.zeroValue230
 t210 := Tryz.underlying233
 a210 := Tryz.isAgg233
 z210 := Tryz.sizeOf233
 v210 := Tryz.zeroValue233
 t212 := Tryz.underlying208
 a212 := Tryz.isAgg208
 z212 := Tryz.sizeOf208
 v212 := Tryz.zeroValue208
 t213 := Tryz.underlying209
 a213 := Tryz.isAgg209
 z213 := Tryz.sizeOf209
 t232 := Tryz.underlying235
 a232 := Tryz.isAgg235
 z232 := Tryz.sizeOf235
 v232 := Tryz.zeroValue235
 t233 := Tryz.underlying236
 a233 := Tryz.isAgg236
 z233 := Tryz.sizeOf236
 v233 := Tryz.zeroValue236
 g15 := by kernel_rfl
 g16 := by kernel_rfl
 g17 := by kernel_rfl
 g18 := by kernel_rfl
 g19 := by kernel_rfl
 t80 := Tryz.underlying140
 a80 := Tryz.isAgg140
 z80 := Tryz.sizeOf140
 v80 := Tryz.zeroValue140
 i0 := by kernel_rfl
 i2 := by kernel_rfl
 i3 := by kernel_rfl
 i4 := by kernel_rfl
 i5 := by kernel_rfl
 i9 := by kernel_rfl
 i20 := by kernel_rfl
 i21 := by kernel_rfl
 i37 := by kernel_rfl
 i46 := by kernel_rfl
 i51 := by kernel_rfl
 i53 := by kernel_rfl
 i75 := by kernel_rfl
 i76 := by kernel_rfl
 i80 := by kernel_rfl
 i85 := by kernel_rfl
 i127 := by kernel_rfl
 i143 := by kernel_rfl
 i145 := by kernel_rfl
 i167 := by kernel_rfl
 i168 := by kernel_rfl
 i171 := by kernel_rfl
 i173 := by kernel_rfl
 i175 := by kernel_rfl
 i210 := by kernel_rfl
 i212 := by kernel_rfl
 i232 := by kernel_rfl
 i233 := by kernel_rfl
 m15 := by kernel_rfl
 m16 := by kernel_rfl
 m17 := by kernel_rfl
 m18 := by kernel_rfl
 m19 := by kernel_rfl
 c0 := by kernel_rfl
 c2 := by kernel_rfl
 c3 := by kernel_rfl
 c4 := by kernel_rfl
 c5 := by kernel_rfl
 c9 := by kernel_rfl
 c20 := by kernel_rfl
 c21 := by kernel_rfl
 c37 := by kernel_rfl
 c46 := by kernel_rfl
 c51 := by kernel_rfl
 c53 := by kernel_rfl
 c75 := by kernel_rfl
 c76 := by kernel_rfl
 c80 := by kernel_rfl
 c85 := by kernel_rfl
 c127 := by kernel_rfl
 c143 := by kernel_rfl
 c145 := by kernel_rfl
 c167 := by kernel_rfl
 c168 := by kernel_rfl
 c171 := by kernel_rfl
 c173 := by kernel_rfl
 c175 := by kernel_rfl
 c210 := by kernel_rfl
 c212 := by kernel_rfl
 c213 := by kernel_rfl
 c232 := by kernel_rfl
 c233 := by kernel_rfl }
open Go.RowKit
def ErrAt (zt : Fz) (nm : String) : Prop := ∃ g,Tryz.prog.globalNamed nm = some g ∧ zt.G g ∧ ∃ tp p,zt.w0.var? Tryz.prog nm = some #[.iface tp p]
structure TabE (zt : Fz) : Prop where
 tab : Tab zt
 syn : ErrAt zt "strconv.ErrSyntax"
 rng : ErrAt zt "strconv.ErrRange"
abbrev isErr (zt : Fz) : SV → List (Nat × Ob) → Prop := fun s ob => ∃ n tp p,s = .t [.d (.u (.int .i64 n)),.d (.u (.v (.iface tp p)))] ∧ ob = [(907,tbOb zt)]
theorem err_there {zt : Fz} {nm : String} (h : ErrAt zt nm) {w : World} (hb : ∀ g,zt.G g → w.heap[g]? = zt.w0.heap[g]?) : ∃ tp p,w.var? Tryz.prog nm = some #[.iface tp p] := by
 obtain ⟨g,g1,g2,tp,p,g3⟩ := h
 refine ⟨tp,p,?_⟩
 unfold World.var? at g3 ⊢
 rw [g1] at g3 ⊢
 simp only [Option.bind_some] at g3 ⊢
 rw [hb g g2]
 exact g3
theorem den_two {ρ : Rho} {z : Fz} {n : Int} {x : V} {u : Value} (h : DenV z x u) : DenS ρ z (.t [.d (.u (.int .i64 n)),.d (.u x)]) (.tuple #[.int .i64 n,u]) :=
 .t (vs := [.int .i64 n,u]) rfl fun j s v h1 h2 => by
  match j with
  | 0 => simp at h1 h2;subst h1 h2;exact .d (.u (.int _ _))
  | 1 => simp at h1 h2;subst h1 h2;exact .d (.u h)
  | j + 2 => simp at h1
theorem atoiOk_T (s : ByteArray) (hs : s.size ≤ 1000000) (v : Int) (h : Lib.atoiAll s.data.toList = .ok v) (zt : Fz) : CallsA Tryz.prog 116 [dsr s] [(907,tbOb zt)] (Iso (.t [.d (.u (.int .i64 v)),.d (.u (.v .nilIface))]) [(907,tbOb zt)]) := by
 refine ⟨⟨_,_,Tryz.func116,rfl,rfl⟩,fun c ρ hp vs w hw hl g => ?_⟩
 match vs,hl with
 | [v0],_ =>
 obtain ⟨v',q1,q2⟩ := g.tm 0 _ rfl
 cases q1
 cases q2 with | d q2 => cases q2 with | u q2 => cases q2 with | str _ hs1 =>
 obtain ⟨X,hp',rfl,⟨rfl,hmz,_⟩,rfl⟩ := g.ob
 refine (Any.strconv_Atoi_ok laysC172 s (by omega) v h w).mono ?_
 rintro e w' ⟨rfl,hw'⟩
 have hb : Below w.heap.size w w' := by
  rcases hw' with rfl | ⟨t,rfl⟩
  ·exact Below.refl _ _
  ·exact Lib.bytesWorld_below _ _ _
 refine ⟨_,⟨c.F,c.w,_⟩,.t [.d (.u (.int .i64 v)),.d (.u (.v .nilIface))],_,ρ,c.G,rfl,hw.below hb,⟨fun _ h => h,Same.refl _ _,g.gF,fun _ h => .inl h,.refl _,fun k s' hk => ?_,g.ob⟩,rfl,rfl⟩
 simp only [lk] at hk ⊢
 cases hb : Nat.beq k 0 <;> rw [hb] at hk
 ·cases hk
 ·cases hk
  exact ⟨_,rfl,den_two (.v rfl)⟩
theorem atoiErr_T (s : ByteArray) (hs : s.size ≤ 1000000) (h : ∀ v,Lib.atoiAll s.data.toList ≠ .ok v) (zt : Fz) (ht : TabE zt) : CallsA Tryz.prog 116 [dsr s] [(907,tbOb zt)] (isErr zt) := by
 refine ⟨⟨_,_,Tryz.func116,rfl,rfl⟩,fun c ρ hp vs w hw hl g => ?_⟩
 match vs,hl with
 | [v0],_ =>
 obtain ⟨v',q1,q2⟩ := g.tm 0 _ rfl
 cases q1
 cases q2 with | d q2 => cases q2 with | u q2 => cases q2 with | str _ hs1 =>
 obtain ⟨X,hp',rfl,⟨rfl,hmz,_⟩,rfl⟩ := g.ob
 have hfz : ∀ gb,zt.G gb → w.heap[gb]? = zt.w0.heap[gb]? := fun gb g2 => (hw.same.block gb (g.gF gb (hmz.g gb g2))).trans (hmz.w gb g2)
 cases ha : Lib.atoiAll s.data.toList
 ·exact absurd ha (h _)
 ·obtain ⟨tp,p,hv⟩ := err_there ht.syn hfz
  refine (Any.strconv_Atoi_syntax_var laysC172 s (by omega) ha tp p w hv).mono ?_
  rintro e w' ⟨N,rfl,_,_,hb⟩
  refine ⟨_,⟨c.F,c.w,_⟩,.t [.d (.u (.int .i64 0)),.d (.u (.v (.iface (laysC172_ren.t 168) (.pointer (some ⟨N,0,none⟩)))))],_,ρ,c.G,rfl,hw.below hb,⟨fun _ h => h,Same.refl _ _,g.gF,fun _ h => .inl h,.refl _,fun k s' hk => ?_,g.ob⟩,0,laysC172_ren.t 168,.pointer (some ⟨N,0,none⟩),rfl,rfl⟩
  simp only [lk] at hk ⊢
  cases hb : Nat.beq k 0 <;> rw [hb] at hk
  ·cases hk
  ·cases hk
   exact ⟨_,rfl,den_two (.v rfl)⟩
 ·obtain ⟨tp,p,hv⟩ := err_there ht.rng hfz
  refine (Any.strconv_Atoi_range_var laysC172 s (by omega) ha tp p w hv).mono ?_
  rintro e w' ⟨N,rfl,_,_,hb⟩
  refine ⟨_,⟨c.F,c.w,_⟩,.t [.d (.u (.int .i64 (Lib.atoiSat s.data.toList))),.d (.u (.v (.iface (laysC172_ren.t 168) (.pointer (some ⟨N,0,none⟩)))))],_,ρ,c.G,rfl,hw.below hb,⟨fun _ h => h,Same.refl _ _,g.gF,fun _ h => .inl h,.refl _,fun k s' hk => ?_,g.ob⟩,Lib.atoiSat s.data.toList,laysC172_ren.t 168,.pointer (some ⟨N,0,none⟩),rfl,rfl⟩
  simp only [lk] at hk ⊢
  cases hb : Nat.beq k 0 <;> rw [hb] at hk
  ·cases hk
  ·cases hk
   exact ⟨_,rfl,den_two (.v rfl)⟩
section
variable {P : Program} {T : List (Nat × Ty)} [hT : Tys P T] {nt : Nt} {ty : TypeId} {pos : String} {af : Array Edge} {gd : Option (Nat × Bool)} {K : Kt}
theorem Raw.neqIface {d : Nat} {x : Operand} {t u tp : TypeId} {p : Value} {tmT : List (Nat × SV)} {ob : List (Nat × Ob)} (hx : evT tmT x = some (.d (.u (.v (.iface tp p))))) (hu : P.isIface t = true) (hd : Nat.blt d nt = true) (k : K ((d,.d (.u (.bool true))) :: tmT) ob) : Raw P nt ⟨some d,.binOp .neq t x (.const .nilIface) u,ty,pos,af,gd⟩ tmT ob K := ⟨fun Q c tm h ρ G g => by
 obtain ⟨F,w0,hp⟩ := h
 obtain ⟨v,v1,v2⟩ := g.ev hx
 cases v2 with | d v2 => cases v2 with | u v2 => cases v2 with | v hv =>
 refine OpS.of_run hd fun a w ha hw' => ⟨.bool true,w,_,?_,hw',.of (Gd.put (d := d) (st := ⟨tmT,ob⟩) g (.d (.u (.bool _)))) k⟩
 have he : a.eval (.const .nilIface) = .nilIface := rfl
 have hg : eqGuard .neq t x (.const .nilIface) (.iface tp p) .nilIface = pure () := rfl
 simp [execOp,ha.ev v1,he,hg,run_neq_iface_nil (P := P) (w := w) t hu]⟩
end
theorem dig_of {u : Nat} (h : u < 10) : 48 ≤ (UInt8.ofNat (48 + u)).toNat ∧ (UInt8.ofNat (48 + u)).toNat ≤ 57 := by
 rw [UInt8.toNat_ofNat']
 omega
theorem decD_dig : ∀ (k u : Nat),u < 10 ^ (k + 1) → (Lib.decDigits u) ≠ [] ∧ ∀ c ∈ Lib.decDigits u,48 ≤ c.toNat ∧ c.toNat ≤ 57
 | 0,u,h => by
  rw [Lib.decDigits,dif_pos (by simpa using h)]
  refine ⟨by simp,fun c hc => ?_⟩
  simp only [List.mem_cons,List.not_mem_nil,or_false] at hc
  subst hc
  exact dig_of (by simpa using h)
 | k + 1,u,h => by
  rw [Lib.decDigits]
  split
  ·rename_i h10
   refine ⟨by simp,fun c hc => ?_⟩
   simp only [List.mem_cons,List.not_mem_nil,or_false] at hc
   subst hc
   exact dig_of h10
  ·obtain ⟨h1,h2⟩ := decD_dig k (u / 10) (by rw [Nat.pow_succ] at h;omega)
   refine ⟨by simp,fun c hc => ?_⟩
   rcases List.mem_append.1 hc with hc | hc
   ·exact h2 c hc
   ·simp only [List.mem_cons,List.not_mem_nil,or_false] at hc
    subst hc
    exact dig_of (Nat.mod_lt _ (by omega))
theorem itoa_digs {v : Int} {s : ByteArray} (h0 : 0 ≤ v) (h1 : v ≤ 9223372036854775807) (h : itoaB v = s) : 1 ≤ s.size ∧ digsB s := by
 subst h
 obtain ⟨d1,d2⟩ := decD_dig 18 v.toNat (by omega)
 have e : (itoaB v).data.toList = Lib.decDigits v.toNat := by
  show (Lib.itoa v).toArray.toList = _
  rw [Lib.itoa,if_neg (by omega)]
 have hs : (itoaB v).size = (Lib.decDigits v.toNat).length := by rw [← e];simp
 refine ⟨?_,fun i hi => ?_⟩
 ·rw [hs]
  exact List.length_pos_iff.2 d1
 ·have hg : (itoaB v).data[i]? = some ((Lib.decDigits v.toNat)[i]'(by omega)) := by
   rw [← Array.getElem?_toList,e,List.getElem?_eq_getElem]
  rw [hg]
  have := d2 _ (List.getElem_mem (show i < (Lib.decDigits v.toNat).length by omega))
  simp only [Option.getD_some]
  omega
end Go.Proofs.YtabmcfnefjipbaaGreatDoor
namespace Go.Proofs.YtabmcfnefjipbaaGreatDoor
open Go.RowKit
set_option maxHeartbeats 4000000 in
theorem addA_ne (us : List Value) (zb : Fz) (l : List Ev) (p : Int) (bs : List Bp) (ws : List ByteArray) (w1 : ByteArray) (hw1 : ws[1]?.getD emB = w1) (n : Int) (hn : -9223372036854775808 ≤ n ∧ n ≤ 9223372036854775807) (hw : ws.length = 2 ∨ ws.length = 4) (hi : itoaB n ≠ w1) (zt : Fz) (hz : Tab zt) (hat : CallsA Tryz.prog 116 [dsr w1] [(907,tbOb zt)] (Iso (.t [.d (.u (.int .i64 n)),.d (.u (.v .nilIface))]) [(907,tbOb zt)])) :
  CallsA Tryz.prog 100 [.d (.p 1 0),.d (.u (.sl 1 (strs ws)))] [(902,.ab [.p 1 0] us zb (· = [])),(1,.bx 120 (sesV l p bs)),(907,tbOb zt)] (Iso (dsr whatB) [(902,.ab [.p 1 0] us zb (· = [])),(1,.bx 120 (sesV l p bs)),(907,tbOb zt)]) := by
 have hr1 : ∀ {K : List V → Prop} {j : Int},j = 1 → K [V.str (ws[1]?.getD emB)] → Ix (strs ws) j K := fun h k => ⟨⟨1,_,h,by unfold strs;rw [List.getElem?_map,List.getElem?_eq_getElem (show 1 < ws.length by omega)];rfl,k⟩⟩
 rw [hw1] at hr1
 have hit := itoa_T n hn.1 hn.2 zt hz
 have hq := toList_beq (itoaB n) w1
 rw [decide_eq_false hi] at hq
 refine callsA_of_vcO (T := tt) Tryz.func100 rfl rfl rfl rfl rfl ?_
 repeat' ((conv => whnf);first | refine hr1 rfl ?_ | refine Raw.neqNil rfl (by kernel_rfl) rfl ?_ | rw [hq] | refine Gs.id ?_ | with_reducible refine Brn.T rfl ?_ | with_reducible refine Brn.F rfl ?_ | (refine CL.mk (Or.inr (Raw.callI [907] [907] rfl rfl rfl rfl rfl rfl rfl (hat) ?_));rintro _ _ ⟨rfl,rfl⟩;refine Bk.mk rfl rfl ?_) | (refine CL.mk (Or.inr (Raw.callI [907] [907] rfl rfl rfl rfl rfl rfl rfl (hit) ?_));rintro _ _ ⟨rfl,rfl⟩;refine Bk.mk rfl rfl ?_) | refine Drw.ofT (T := tt) (i := 2) [1,4] [0,2,3,5,6,7,8,9,10,11,12,13,14,15,16,17,18,19,20] (OF.fst 0 (OF.alt 1 (OF.fst 2 (OF.fst 3 (OF.fst 5 (OF.fst 6 (OF.fst 7 (OF.alt 4 (OF.fst 8 (OF.fst 9 (OF.fst 10 (OF.fst 11 (OF.fst 12 (OF.fst 13 (OF.fst 14 (OF.fst 15 (OF.fst 16 (OF.fst 17 (OF.fst 18 (OF.fst 19 (OF.fst 20 OF.nil))))))))))))) OF.nil)))))) OF.nil)) (by kernel_rfl) ?_ | fail)
 all_goals (conv => whnf)
 all_goals refine RetO.mk ⟨[(902,.k 902),(1,.k 1),(907,.k 907)],_,_,(by first | exact LeS.d (by first | exact LeD.u rfl | fail) | fail),(by repeat (first | exact LeO.nil | refine LeO.bx rfl rfl (by repeat (first | exact LeL.nil | refine LeL.cons (by first | exact LeD.u rfl | fail) ?_)) ?_ | refine LeO.ab rfl rfl (by repeat (first | exact LeL.nil | refine LeL.cons (by first | exact LeD.p rfl | fail) ?_)) (by first | rfl | fail) ?_ | fail)),rfl,rfl⟩
set_option maxHeartbeats 4000000 in
theorem addA_lo (us : List Value) (zb : Fz) (l : List Ev) (p : Int) (bs : List Bp) (ws : List ByteArray) (w1 : ByteArray) (hw1 : ws[1]?.getD emB = w1) (n : Int) (hn : -9223372036854775808 ≤ n ∧ n ≤ 9223372036854775807) (hw : ws.length = 2 ∨ ws.length = 4) (hi : itoaB n = w1) (hlo : n < 0 ∨ 9 < w1.size) (zt : Fz) (hz : Tab zt) (hat : CallsA Tryz.prog 116 [dsr w1] [(907,tbOb zt)] (Iso (.t [.d (.u (.int .i64 n)),.d (.u (.v .nilIface))]) [(907,tbOb zt)])) :
  CallsA Tryz.prog 100 [.d (.p 1 0),.d (.u (.sl 1 (strs ws)))] [(902,.ab [.p 1 0] us zb (· = [])),(1,.bx 120 (sesV l p bs)),(907,tbOb zt)] (Iso (dsr whatB) [(902,.ab [.p 1 0] us zb (· = [])),(1,.bx 120 (sesV l p bs)),(907,tbOb zt)]) := by
 have hr1 : ∀ {K : List V → Prop} {j : Int},j = 1 → K [V.str (ws[1]?.getD emB)] → Ix (strs ws) j K := fun h k => ⟨⟨1,_,h,by unfold strs;rw [List.getElem?_map,List.getElem?_eq_getElem (show 1 < ws.length by omega)];rfl,k⟩⟩
 rw [hw1] at hr1
 have hit := itoa_T n hn.1 hn.2 zt hz
 have hq := toList_beq (itoaB n) w1
 rw [decide_eq_true hi] at hq
 have hs9 : ¬ n < 0 → (9 : Int) < (w1.size : Int) := fun h => by omega
 by_cases h0 : n < 0
 ·refine callsA_of_vcO (T := tt) Tryz.func100 rfl rfl rfl rfl rfl ?_
  repeat' ((conv => whnf);first | refine hr1 rfl ?_ | refine Raw.neqNil rfl (by kernel_rfl) rfl ?_ | rw [hq] | refine Gs.id ?_ | with_reducible refine Brn.T rfl ?_ | with_reducible refine Brn.F rfl ?_ | refine Brn.T (by (try simp only [smT]);first | rfl | assumption | fail) ?_ | (refine CL.mk (Or.inr (Raw.callI [907] [907] rfl rfl rfl rfl rfl rfl rfl (hat) ?_));rintro _ _ ⟨rfl,rfl⟩;refine Bk.mk rfl rfl ?_) | (refine CL.mk (Or.inr (Raw.callI [907] [907] rfl rfl rfl rfl rfl rfl rfl (hit) ?_));rintro _ _ ⟨rfl,rfl⟩;refine Bk.mk rfl rfl ?_) | refine Drw.ofT (T := tt) (i := 2) [1,4] [0,2,3,5,6,7,8,9,10,11,12,13,14,15,16,17,18,19,20] (OF.fst 0 (OF.alt 1 (OF.fst 2 (OF.fst 3 (OF.fst 5 (OF.fst 6 (OF.fst 7 (OF.alt 4 (OF.fst 8 (OF.fst 9 (OF.fst 10 (OF.fst 11 (OF.fst 12 (OF.fst 13 (OF.fst 14 (OF.fst 15 (OF.fst 16 (OF.fst 17 (OF.fst 18 (OF.fst 19 (OF.fst 20 OF.nil))))))))))))) OF.nil)))))) OF.nil)) (by kernel_rfl) ?_ | fail)
  all_goals (conv => whnf)
  all_goals refine RetO.mk ⟨[(902,.k 902),(1,.k 1),(907,.k 907)],_,_,(by first | exact LeS.d (by first | exact LeD.u rfl | fail) | fail),(by repeat (first | exact LeO.nil | refine LeO.bx rfl rfl (by repeat (first | exact LeL.nil | refine LeL.cons (by first | exact LeD.u rfl | fail) ?_)) ?_ | refine LeO.ab rfl rfl (by repeat (first | exact LeL.nil | refine LeL.cons (by first | exact LeD.p rfl | fail) ?_)) (by first | rfl | fail) ?_ | fail)),rfl,rfl⟩
 ·have hs9 := hs9 h0
  refine callsA_of_vcO (T := tt) Tryz.func100 rfl rfl rfl rfl rfl ?_
  repeat' ((conv => whnf);first | refine hr1 rfl ?_ | refine Raw.neqNil rfl (by kernel_rfl) rfl ?_ | rw [hq] | refine Gs.id ?_ | with_reducible refine Brn.F rfl ?_ | refine Brn.T (by (try simp only [smT]);first | rfl | assumption | fail) ?_ | refine Brn.F (by (try simp only [smT]);first | rfl | omega | fail) ?_ | (refine Bnd.mk (fun hm => ?_);(try simp only [smT] at hm)) | (refine CL.mk (Or.inr (Raw.callI [907] [907] rfl rfl rfl rfl rfl rfl rfl (hat) ?_));rintro _ _ ⟨rfl,rfl⟩;refine Bk.mk rfl rfl ?_) | (refine CL.mk (Or.inr (Raw.callI [907] [907] rfl rfl rfl rfl rfl rfl rfl (hit) ?_));rintro _ _ ⟨rfl,rfl⟩;refine Bk.mk rfl rfl ?_) | refine Drw.ofT (T := tt) (i := 2) [1,4] [0,2,3,5,6,7,8,9,10,11,12,13,14,15,16,17,18,19,20] (OF.fst 0 (OF.alt 1 (OF.fst 2 (OF.fst 3 (OF.fst 5 (OF.fst 6 (OF.fst 7 (OF.alt 4 (OF.fst 8 (OF.fst 9 (OF.fst 10 (OF.fst 11 (OF.fst 12 (OF.fst 13 (OF.fst 14 (OF.fst 15 (OF.fst 16 (OF.fst 17 (OF.fst 18 (OF.fst 19 (OF.fst 20 OF.nil))))))))))))) OF.nil)))))) OF.nil)) (by kernel_rfl) ?_ | fail)
  all_goals (conv => whnf)
  all_goals refine RetO.mk ⟨[(902,.k 902),(1,.k 1),(907,.k 907)],_,_,(by first | exact LeS.d (by first | exact LeD.u rfl | fail) | fail),(by repeat (first | exact LeO.nil | refine LeO.bx rfl rfl (by repeat (first | exact LeL.nil | refine LeL.cons (by first | exact LeD.u rfl | fail) ?_)) ?_ | refine LeO.ab rfl rfl (by repeat (first | exact LeL.nil | refine LeL.cons (by first | exact LeD.p rfl | fail) ?_)) (by first | rfl | fail) ?_ | fail)),rfl,rfl⟩
set_option maxHeartbeats 4000000 in
theorem addA_err (us : List Value) (zb : Fz) (l : List Ev) (p : Int) (bs : List Bp) (ws : List ByteArray) (w1 : ByteArray) (hw1 : ws[1]?.getD emB = w1) (hw : ws.length = 2 ∨ ws.length = 4) (zt : Fz) (hat : CallsA Tryz.prog 116 [dsr w1] [(907,tbOb zt)] (isErr zt)) :
  CallsA Tryz.prog 100 [.d (.p 1 0),.d (.u (.sl 1 (strs ws)))] [(902,.ab [.p 1 0] us zb (· = [])),(1,.bx 120 (sesV l p bs)),(907,tbOb zt)] (Iso (dsr whatB) [(902,.ab [.p 1 0] us zb (· = [])),(1,.bx 120 (sesV l p bs)),(907,tbOb zt)]) := by
 have hr1 : ∀ {K : List V → Prop} {j : Int},j = 1 → K [V.str (ws[1]?.getD emB)] → Ix (strs ws) j K := fun h k => ⟨⟨1,_,h,by unfold strs;rw [List.getElem?_map,List.getElem?_eq_getElem (show 1 < ws.length by omega)];rfl,k⟩⟩
 rw [hw1] at hr1
 refine callsA_of_vcO (T := tt) Tryz.func100 rfl rfl rfl rfl rfl ?_
 repeat' ((conv => whnf);first | (refine CL.mk (Or.inr (Raw.callI [907] [907] rfl rfl rfl rfl rfl rfl rfl (hat) ?_));rintro _ _ ⟨nE,tpE,pE,rfl,rfl⟩;refine Bk.mk rfl rfl ?_) | refine hr1 rfl ?_ | refine Raw.neqIface rfl (by kernel_rfl) rfl ?_ | refine Gs.id ?_ | with_reducible refine Brn.T rfl ?_ | refine Drw.ofT (T := tt) (i := 2) [1,4] [0,2,3,5,6,7,8,9,10,11,12,13,14,15,16,17,18,19,20] (OF.fst 0 (OF.alt 1 (OF.fst 2 (OF.fst 3 (OF.fst 5 (OF.fst 6 (OF.fst 7 (OF.alt 4 (OF.fst 8 (OF.fst 9 (OF.fst 10 (OF.fst 11 (OF.fst 12 (OF.fst 13 (OF.fst 14 (OF.fst 15 (OF.fst 16 (OF.fst 17 (OF.fst 18 (OF.fst 19 (OF.fst 20 OF.nil))))))))))))) OF.nil)))))) OF.nil)) (by kernel_rfl) ?_ | fail)
 all_goals (conv => whnf)
 all_goals refine RetO.mk ⟨[(902,.k 902),(1,.k 1),(907,.k 907)],_,_,(by first | exact LeS.d (by first | exact LeD.u rfl | fail) | fail),(by repeat (first | exact LeO.nil | refine LeO.bx rfl rfl (by repeat (first | exact LeL.nil | refine LeL.cons (by first | exact LeD.u rfl | fail) ?_)) ?_ | refine LeO.ab rfl rfl (by repeat (first | exact LeL.nil | refine LeL.cons (by first | exact LeD.p rfl | fail) ?_)) (by first | rfl | fail) ?_ | fail)),rfl,rfl⟩
instance (s : ByteArray) : Decidable (digsB s) := by unfold digsB;infer_instance
def addX (bs : List Bp) (ws : List ByteArray) : ByteArray × List Bp :=
 if 1 ≤ (ws[1]?.getD emB).size ∧ (ws[1]?.getD emB).size ≤ 9 ∧ digsB (ws[1]?.getD emB) then addM bs ws else (whatB,bs)
theorem addX_T (us : List Value) (zb : Fz) (l : List Ev) (p : Int) (bs : List Bp) (ws : List ByteArray) (hb : bs.length ≤ 1000) (hw : ws.length = 2 ∨ ws.length = 4) (hs : (ws[1]?.getD emB).size ≤ 1000000) (zt : Fz) (hz : TabE zt) :
  CallsA Tryz.prog 100 [.d (.p 1 0),.d (.u (.sl 1 (strs ws)))] [(902,.ab [.p 1 0] us zb (· = [])),(1,.bx 120 (sesV l p bs)),(907,tbOb zt)] (Iso (dsr (addX bs ws).1) [(902,.ab [.p 1 0] us zb (· = [])),(1,.bx 120 (sesV l p (addX bs ws).2)),(907,tbOb zt)]) := by
 by_cases hd : 1 ≤ (ws[1]?.getD emB).size ∧ (ws[1]?.getD emB).size ≤ 9 ∧ digsB (ws[1]?.getD emB)
 ·have e : addX bs ws = addM bs ws := by rw [addX,if_pos hd]
  rw [e]
  exact addA_T us zb l p bs ws hb hw hd.1 hd.2.1 hd.2.2 zt hz.tab
 ·have e : addX bs ws = (whatB,bs) := by rw [addX,if_neg hd]
  rw [e]
  by_cases ho : ∃ v,Lib.atoiAll (ws[1]?.getD emB).data.toList = .ok v
  ·obtain ⟨v,hv⟩ := ho
   have hbd := Lib.atoiAll_bounds hv
   have hat := atoiOk_T _ hs v hv zt
   by_cases hi : itoaB v = ws[1]?.getD emB
   ·refine addA_lo us zb l p bs ws _ rfl v hbd hw hi ?_ zt hz.tab hat
    by_cases h0 : v < 0
    ·exact .inl h0
    ·obtain ⟨q1,q2⟩ := itoa_digs (by omega) hbd.2 hi
     refine .inr ?_
     rcases Nat.lt_or_ge 9 (ws[1]?.getD emB).size with h | h
     ·exact h
     ·exact absurd ⟨q1,h,q2⟩ hd
   ·exact addA_ne us zb l p bs ws _ rfl v hbd hw hi zt hz.tab hat
  ·exact addA_err us zb l p bs ws _ rfl hw zt (atoiErr_T _ hs (fun v hv => ho ⟨v,hv⟩) zt hz)
theorem addX_P (l : List Ev) (p : Int) (bs : List Bp) (ws : List ByteArray) (hb : bs.length ≤ 1000) (hw : ws.length = 2 ∨ ws.length = 4) (hs : (ws[1]?.getD emB).size ≤ 1000000) (zt : Fz) (hz : TabE zt) :
  CallsP Tryz.prog 100 [.d (.p 1 0),.d (.u (.sl 1 (strs ws)))] [(1,.bx 120 (sesV l p bs)),(907,tbOb zt)] [1] (Iso (dsr (addX bs ws).1) [(1,.bx 120 (sesV l p (addX bs ws).2)),(907,tbOb zt)]) := by
 refine .ofP 902 [1] rfl (fun p hp => ?_) (fun j hj => ?_) fun us zb => addX_T us zb l p bs ws hb hw hs zt hz
 ·simp only [List.mem_cons,List.not_mem_nil,or_false] at hp
  rcases hp with rfl | rfl
  ·simp [NorP,norD]
  ·simp [NorP]
 ·simp only [List.mem_cons,List.not_mem_nil,or_false] at hj
  subst hj
  exact ⟨_,_,_,_,rfl,rfl,rfl⟩
end Go.Proofs.YtabmcfnefjipbaaGreatDoor
namespace Go.Proofs.YtabmcfnefjipbaaGreatDoor
open Go.RowKit
set_option maxHeartbeats 8000000 in
theorem doA_breakX (us : List Value) (zb : Fz) {l : List Ev} (hv : Vd l) (hL : l.length ≤ 20000) (he : ∀ e ∈ l,e.locs.length ≤ 9000000000) (hn : ∀ e ∈ l,e.line ≤ 9223372036854775807) (p : Int) (hp : -1 ≤ p ∧ p ≤ (l.length : Int)) (bs : List Bp) (hb : bs.length ≤ 1000) (c : ByteArray) (hc : c.size ≤ 4000) (zt : Fz) (hz : TabE zt) (hcm : cmdM (depM l p) bs c = none) (c1 : c ≠ clearK) (c2 : c ≠ whereK) (c3 : cutW c = breakK ∧ ((spN 3 (cutR' c)).length = 2 ∨ (spN 3 (cutR' c)).length = 4)) :
  CallsA Tryz.prog 65 [.d (.p 1 0),dsr c] [(902,.ab [.p 1 0] us zb (· = [])),(1,.bx 120 (sesV l p bs)),(907,tbOb zt)] (Iso (dsr ((addX bs (spN 3 (cutR' c))).1)) [(902,.ab [.p 1 0] us zb (· = [])),(1,.bx 120 (sesV l (p) ((addX bs (spN 3 (cutR' c))).2))),(907,tbOb zt)]) := by
 have hcut := cutJ_T c (by omega)
 have hmo : CallsA Tryz.prog 54 [.d (.u (evs l)),.d (.u (bkV bs)),di p] [] (Iso (.d (.mp 920)) [(920,.mp false true (motE (depM l p) (bkV bs)))]) := by
  cases bs with
  | nil => exact motions0_T l p hp
  | cons b r => exact motions_T l (b :: r) p hp
 have hmk : ∀ e ∈ l,CallsA Tryz.prog 89 [.a e.ds,.d (.q [bkV bs] 0)] [] (Is (db (bs.any (hitB e)))) := by
  intro e q
  cases bs with
  | nil => exact mrk0_T e (he e q)
  | cons b r => exact mrk_T (b :: r) e (he e q) (by omega)
 obtain ⟨m1,m2⟩ := motE_get (depM l p) (bkV bs) c zMot
 have hok := motE_ok (depM l p) (bkV bs)
 rw [cmd_none hcm] at m1 m2
 clear hmk hcm
 refine callsA_of_rdO (T := tt) Tryz.func65 rfl rfl rfl rfl rfl ?_
 refine' cutR (fun _ : Unit => True) (fun _ => ⟨[(0,.d (.p 1 0)),(1,dsr c),(5,dsr (cutW c)),(6,dsr (cutR' c)),(9,db false)],[(902,.ab [.p 1 0] us zb (· = [])),(1,.bx 120 (sesV l p bs)),(907,tbOb zt)]⟩) _ (fun hR => ?_) ?_
 rotate_left
 ·repeat' ((conv => whnf);first | refine Mlk.of zMot false (by kernel_rfl) hok m1 m2 ?_ | (exact Gs.cut (i := 3) (by assumption) () [(902,.k 902),(1,.k 1),(907,.k 907)] rfl ⟨by (try dsimp only);(repeat (refine LeT.cons rfl (by first | exact LeS.d (by first | exact LeD.u rfl | exact LeD.p rfl | fail) | fail) ?_));(first | exact LeT.nil | fail),by (try dsimp only);(repeat (first | exact LeO.nil | refine LeO.bx rfl rfl (by repeat (first | exact LeL.nil | refine LeL.cons (by first | exact LeD.u rfl | fail) ?_)) ?_ | refine LeO.ab rfl rfl (by repeat (first | exact LeL.nil | refine LeL.cons (by first | exact LeD.p rfl | fail) ?_)) (by first | rfl | fail) ?_ | fail));done⟩ (by trivial)) | refine Gs.id ?_ | with_reducible refine And.intro ?_ ?_ | refine Drw.ofT (T := tt) (i := 2) [3,7,11,12,14,18,19] [0,1,2,4,5,6,8,9,10,13,15,16,17,20] (OF.fst 0 (OF.fst 1 (OF.fst 2 (OF.fst 4 (OF.fst 5 (OF.fst 6 (OF.fst 8 (OF.fst 9 (OF.fst 10 (OF.fst 13 (OF.alt 3 (OF.alt 7 (OF.alt 11 (OF.alt 12 (OF.alt 14 (OF.fst 15 (OF.fst 16 (OF.fst 17 (OF.alt 18 (OF.alt 19 (OF.fst 20 OF.nil) OF.nil) OF.nil)))) (OF.alt 18 (OF.alt 14 (OF.fst 15 (OF.fst 16 (OF.fst 17 (OF.alt 19 (OF.fst 20 OF.nil) OF.nil)))) OF.nil) OF.nil)) (OF.alt 18 (OF.alt 12 (OF.alt 14 (OF.fst 15 (OF.fst 16 (OF.fst 17 (OF.alt 19 (OF.fst 20 OF.nil) OF.nil)))) OF.nil) OF.nil) OF.nil)) (OF.alt 18 (OF.alt 11 (OF.alt 12 (OF.alt 14 (OF.fst 15 (OF.fst 16 (OF.fst 17 (OF.alt 19 (OF.fst 20 OF.nil) OF.nil)))) OF.nil) OF.nil) OF.nil) OF.nil)) (OF.alt 11 (OF.alt 7 (OF.alt 12 (OF.alt 14 (OF.fst 15 (OF.fst 16 (OF.fst 17 (OF.alt 18 (OF.alt 19 (OF.fst 20 OF.nil) OF.nil) OF.nil)))) (OF.alt 18 (OF.alt 14 (OF.fst 15 (OF.fst 16 (OF.fst 17 (OF.alt 19 (OF.fst 20 OF.nil) OF.nil)))) OF.nil) OF.nil)) (OF.alt 18 (OF.alt 12 (OF.alt 14 (OF.fst 15 (OF.fst 16 (OF.fst 17 (OF.alt 19 (OF.fst 20 OF.nil) OF.nil)))) OF.nil) OF.nil) OF.nil)) (OF.alt 18 (OF.alt 7 (OF.alt 12 (OF.alt 14 (OF.fst 15 (OF.fst 16 (OF.fst 17 (OF.alt 19 (OF.fst 20 OF.nil) OF.nil)))) OF.nil) OF.nil) OF.nil) OF.nil)) (OF.alt 18 (OF.alt 7 (OF.alt 11 (OF.alt 12 (OF.alt 14 (OF.fst 15 (OF.fst 16 (OF.fst 17 (OF.alt 19 (OF.fst 20 OF.nil) OF.nil)))) OF.nil) OF.nil) OF.nil) (OF.alt 11 (OF.alt 7 (OF.alt 12 (OF.alt 14 (OF.fst 15 (OF.fst 16 (OF.fst 17 (OF.alt 19 (OF.fst 20 OF.nil) OF.nil)))) OF.nil) OF.nil) OF.nil) OF.nil)) OF.nil))) (OF.alt 7 (OF.alt 3 (OF.alt 11 (OF.alt 12 (OF.alt 14 (OF.fst 15 (OF.fst 16 (OF.fst 17 (OF.alt 18 (OF.alt 19 (OF.fst 20 OF.nil) OF.nil) OF.nil)))) (OF.alt 18 (OF.alt 14 (OF.fst 15 (OF.fst 16 (OF.fst 17 (OF.alt 19 (OF.fst 20 OF.nil) OF.nil)))) OF.nil) OF.nil)) (OF.alt 18 (OF.alt 12 (OF.alt 14 (OF.fst 15 (OF.fst 16 (OF.fst 17 (OF.alt 19 (OF.fst 20 OF.nil) OF.nil)))) OF.nil) OF.nil) OF.nil)) (OF.alt 18 (OF.alt 11 (OF.alt 12 (OF.alt 14 (OF.fst 15 (OF.fst 16 (OF.fst 17 (OF.alt 19 (OF.fst 20 OF.nil) OF.nil)))) OF.nil) OF.nil) OF.nil) OF.nil)) (OF.alt 11 (OF.alt 3 (OF.alt 12 (OF.alt 14 (OF.fst 15 (OF.fst 16 (OF.fst 17 (OF.alt 18 (OF.alt 19 (OF.fst 20 OF.nil) OF.nil) OF.nil)))) (OF.alt 18 (OF.alt 14 (OF.fst 15 (OF.fst 16 (OF.fst 17 (OF.alt 19 (OF.fst 20 OF.nil) OF.nil)))) OF.nil) OF.nil)) (OF.alt 18 (OF.alt 12 (OF.alt 14 (OF.fst 15 (OF.fst 16 (OF.fst 17 (OF.alt 19 (OF.fst 20 OF.nil) OF.nil)))) OF.nil) OF.nil) OF.nil)) (OF.alt 18 (OF.alt 3 (OF.alt 12 (OF.alt 14 (OF.fst 15 (OF.fst 16 (OF.fst 17 (OF.alt 19 (OF.fst 20 OF.nil) OF.nil)))) OF.nil) OF.nil) OF.nil) OF.nil)) (OF.alt 18 (OF.alt 3 (OF.alt 11 (OF.alt 12 (OF.alt 14 (OF.fst 15 (OF.fst 16 (OF.fst 17 (OF.alt 19 (OF.fst 20 OF.nil) OF.nil)))) OF.nil) OF.nil) OF.nil) (OF.alt 11 (OF.alt 3 (OF.alt 12 (OF.alt 14 (OF.fst 15 (OF.fst 16 (OF.fst 17 (OF.alt 19 (OF.fst 20 OF.nil) OF.nil)))) OF.nil) OF.nil) OF.nil) OF.nil)) OF.nil))) (OF.alt 11 (OF.alt 3 (OF.alt 7 (OF.alt 12 (OF.alt 14 (OF.fst 15 (OF.fst 16 (OF.fst 17 (OF.alt 18 (OF.alt 19 (OF.fst 20 OF.nil) OF.nil) OF.nil)))) (OF.alt 18 (OF.alt 14 (OF.fst 15 (OF.fst 16 (OF.fst 17 (OF.alt 19 (OF.fst 20 OF.nil) OF.nil)))) OF.nil) OF.nil)) (OF.alt 18 (OF.alt 12 (OF.alt 14 (OF.fst 15 (OF.fst 16 (OF.fst 17 (OF.alt 19 (OF.fst 20 OF.nil) OF.nil)))) OF.nil) OF.nil) OF.nil)) (OF.alt 18 (OF.alt 7 (OF.alt 12 (OF.alt 14 (OF.fst 15 (OF.fst 16 (OF.fst 17 (OF.alt 19 (OF.fst 20 OF.nil) OF.nil)))) OF.nil) OF.nil) OF.nil) OF.nil)) (OF.alt 7 (OF.alt 3 (OF.alt 12 (OF.alt 14 (OF.fst 15 (OF.fst 16 (OF.fst 17 (OF.alt 18 (OF.alt 19 (OF.fst 20 OF.nil) OF.nil) OF.nil)))) (OF.alt 18 (OF.alt 14 (OF.fst 15 (OF.fst 16 (OF.fst 17 (OF.alt 19 (OF.fst 20 OF.nil) OF.nil)))) OF.nil) OF.nil)) (OF.alt 18 (OF.alt 12 (OF.alt 14 (OF.fst 15 (OF.fst 16 (OF.fst 17 (OF.alt 19 (OF.fst 20 OF.nil) OF.nil)))) OF.nil) OF.nil) OF.nil)) (OF.alt 18 (OF.alt 3 (OF.alt 12 (OF.alt 14 (OF.fst 15 (OF.fst 16 (OF.fst 17 (OF.alt 19 (OF.fst 20 OF.nil) OF.nil)))) OF.nil) OF.nil) OF.nil) OF.nil)) (OF.alt 18 (OF.alt 3 (OF.alt 7 (OF.alt 12 (OF.alt 14 (OF.fst 15 (OF.fst 16 (OF.fst 17 (OF.alt 19 (OF.fst 20 OF.nil) OF.nil)))) OF.nil) OF.nil) OF.nil) (OF.alt 7 (OF.alt 3 (OF.alt 12 (OF.alt 14 (OF.fst 15 (OF.fst 16 (OF.fst 17 (OF.alt 19 (OF.fst 20 OF.nil) OF.nil)))) OF.nil) OF.nil) OF.nil) OF.nil)) OF.nil))) (OF.alt 18 (OF.alt 3 (OF.alt 7 (OF.alt 11 (OF.alt 12 (OF.alt 14 (OF.fst 15 (OF.fst 16 (OF.fst 17 (OF.alt 19 (OF.fst 20 OF.nil) OF.nil)))) OF.nil) OF.nil) OF.nil) (OF.alt 11 (OF.alt 7 (OF.alt 12 (OF.alt 14 (OF.fst 15 (OF.fst 16 (OF.fst 17 (OF.alt 19 (OF.fst 20 OF.nil) OF.nil)))) OF.nil) OF.nil) OF.nil) OF.nil)) (OF.alt 7 (OF.alt 3 (OF.alt 11 (OF.alt 12 (OF.alt 14 (OF.fst 15 (OF.fst 16 (OF.fst 17 (OF.alt 19 (OF.fst 20 OF.nil) OF.nil)))) OF.nil) OF.nil) OF.nil) (OF.alt 11 (OF.alt 3 (OF.alt 12 (OF.alt 14 (OF.fst 15 (OF.fst 16 (OF.fst 17 (OF.alt 19 (OF.fst 20 OF.nil) OF.nil)))) OF.nil) OF.nil) OF.nil) OF.nil)) (OF.alt 11 (OF.alt 3 (OF.alt 7 (OF.alt 12 (OF.alt 14 (OF.fst 15 (OF.fst 16 (OF.fst 17 (OF.alt 19 (OF.fst 20 OF.nil) OF.nil)))) OF.nil) OF.nil) OF.nil) (OF.alt 7 (OF.alt 3 (OF.alt 12 (OF.alt 14 (OF.fst 15 (OF.fst 16 (OF.fst 17 (OF.alt 19 (OF.fst 20 OF.nil) OF.nil)))) OF.nil) OF.nil) OF.nil) OF.nil)) OF.nil))) OF.nil)))))))))))))) (by kernel_rfl) ?_ | (refine CL.mk (Or.inl ?_);(conv => whnf);refine Cl.is (hcut) rfl (by first | exact fun _ => rfl | fail) ?_) | (refine CL.mk (Or.inr (Raw.callI [] [920] rfl rfl rfl rfl rfl rfl rfl (hmo) ?_));rintro _ _ ⟨rfl,rfl⟩;refine Bk.mk rfl rfl ?_))
 ·intro _ _
  dsimp only
  clear hcut hmo m1 m2 hok
  have hcs := cutR_size c
  have hsp := splitN_T (cutR' c) (by omega)
  have hst := hasShow_T c
  have hsh := show_T hv hL he p hp (cutR' c)
  have hnm := isName_T' (cutR' c)
  have hlw : ((strs (spN 3 (cutR' c))).length : Int) = ((spN 3 (cutR' c)).length : Int) := by simp
  have t1 := toList_beq c clearK
  have t2 := toList_beq c whereK
  have t3 := toList_beq (cutW c) breakK
  have hws : ((spN 3 (cutR' c))[1]?.getD emB).size ≤ 1000000 := by
   cases hx : (spN 3 (cutR' c))[1]? with
   | none => exact Nat.zero_le _
   | some x =>
    have := spN_le 3 _ x (List.mem_of_getElem? hx)
    simp only [Option.getD_some]
    omega
  have hadd := fun h => addX_P l p bs (spN 3 (cutR' c)) hb h hws zt hz
  generalize spN 3 (cutR' c) = ws at *
  generalize cutR' c = rest at *
  generalize cutW c = word at *
  generalize showM l p rest = o at *
  generalize isShow c = bsh at *
  generalize nameB rest = bnm at *
  rw [decide_eq_false c1] at t1
  rw [decide_eq_false c2] at t2
  obtain ⟨c3,c4⟩ := c3
  rw [decide_eq_true c3] at t3
  have hadd := hadd c4
  generalize addX bs ws = am at *
  obtain ⟨am,bs'⟩ := am
  dsimp only at hadd ⊢
  clear hsh hnm hst hws
  rcases c4 with c4 | c4
  ·rw [c4] at hlw
   repeat' ((conv => whnf);first | rw [t1] | rw [t2] | rw [t3] | refine Gs.id ?_ | with_reducible refine Brn.T rfl ?_ | with_reducible refine Brn.F rfl ?_ | refine Brn.T (by (try simp only [smT]);first | rfl | omega | fail) ?_ | (refine Bnd.mk (fun hm => ?_);(try simp only [smT] at hm)) | (refine CL.mk (Or.inl ?_);(conv => whnf);refine Cl.is (hsp) rfl (by first | (intro e;cases e;done) | fail) ?_) | (refine CL.mk (Or.inr (Raw.callFP (x := .func _) [1] [1,907] [907] rfl rfl rfl rfl rfl rfl rfl rfl rfl (hadd) ?_));rintro _ _ ⟨rfl,rfl⟩;refine BkP.mk rfl rfl ?_))
   all_goals (conv => whnf)
   all_goals first | (exfalso;simp_all;done) | (exfalso;simp at *;omega) | (refine RetO.mk ⟨[(902,.k 902),(1,.k 1),(907,.k 907)],_,_,(by first | exact LeS.d (by first | exact LeD.u rfl | fail) | fail),(by repeat (first | exact LeO.nil | refine LeO.bx rfl rfl (by repeat (first | exact LeL.nil | refine LeL.cons (by first | exact LeD.u rfl | fail) ?_)) ?_ | refine LeO.ab rfl rfl (by repeat (first | exact LeL.nil | refine LeL.cons (by first | exact LeD.p rfl | fail) ?_)) (by first | rfl | fail) ?_ | fail)),rfl,rfl⟩)
  ·rw [c4] at hlw
   repeat' ((conv => whnf);first | rw [t1] | rw [t2] | rw [t3] | refine Gs.id ?_ | with_reducible refine Brn.T rfl ?_ | with_reducible refine Brn.F rfl ?_ | refine Brn.T (by (try simp only [smT]);first | rfl | omega | fail) ?_ | refine Brn.F (by (try simp only [smT]);first | rfl | omega | fail) ?_ | (refine Bnd.mk (fun hm => ?_);(try simp only [smT] at hm)) | (refine CL.mk (Or.inl ?_);(conv => whnf);refine Cl.is (hsp) rfl (by first | (intro e;cases e;done) | fail) ?_) | (refine CL.mk (Or.inr (Raw.callFP (x := .func _) [1] [1,907] [907] rfl rfl rfl rfl rfl rfl rfl rfl rfl (hadd) ?_));rintro _ _ ⟨rfl,rfl⟩;refine BkP.mk rfl rfl ?_))
   all_goals (conv => whnf)
   all_goals first | (exfalso;simp_all;done) | (exfalso;simp at *;omega) | (refine RetO.mk ⟨[(902,.k 902),(1,.k 1),(907,.k 907)],_,_,(by first | exact LeS.d (by first | exact LeD.u rfl | fail) | fail),(by repeat (first | exact LeO.nil | refine LeO.bx rfl rfl (by repeat (first | exact LeL.nil | refine LeL.cons (by first | exact LeD.u rfl | fail) ?_)) ?_ | refine LeO.ab rfl rfl (by repeat (first | exact LeL.nil | refine LeL.cons (by first | exact LeD.p rfl | fail) ?_)) (by first | rfl | fail) ?_ | fail)),rfl,rfl⟩)
def doX (l : List Ev) (s : Ses) (c : ByteArray) : ByteArray × Ses :=
 match cmdM (depM l s.p) s.bs c with
 | some (st,g) => (atB l (mvM g l st (s.p + st)),⟨mvM g l st (s.p + st),s.bs⟩)
 | none =>
  if c = clearK then (clearedB,⟨s.p,[]⟩)
  else if c = whereK then (whereL ((activeM l s.p).map Av.pc),s)
  else if cutW c = breakK ∧ ((spN 3 (cutR' c)).length = 2 ∨ (spN 3 (cutR' c)).length = 4) then ((addX s.bs (spN 3 (cutR' c))).1,⟨s.p,(addX s.bs (spN 3 (cutR' c))).2⟩)
  else if isShow c = true then ((if (showM l s.p (cutR' c)).isSome = true ∧ nameB (cutR' c) = true then (showM l s.p (cutR' c)).getD emB else unknownB),s)
  else (whatB,s)
theorem doXA_T (us : List Value) (zb : Fz) {l : List Ev} (hv : Vd l) (hL : l.length ≤ 20000) (he : ∀ e ∈ l,e.locs.length ≤ 9000000000) (hn : ∀ e ∈ l,e.line ≤ 9223372036854775807) (p : Int) (hp : -1 ≤ p ∧ p ≤ (l.length : Int)) (bs : List Bp) (hb : bs.length ≤ 1000) (c : ByteArray) (hc : c.size ≤ 4000) (zt : Fz) (hz : TabE zt) :
  CallsA Tryz.prog 65 [.d (.p 1 0),dsr c] [(902,.ab [.p 1 0] us zb (· = [])),(1,.bx 120 (sesV l p bs)),(907,tbOb zt)] (Iso (dsr ((doX l ⟨p,bs⟩ c).1)) [(902,.ab [.p 1 0] us zb (· = [])),(1,.bx 120 (sesV l ((doX l ⟨p,bs⟩ c).2.p) ((doX l ⟨p,bs⟩ c).2.bs))),(907,tbOb zt)]) := by
 cases hcm : cmdM (depM l p) bs c with
 | some sg =>
  obtain ⟨s,g⟩ := sg
  have e : doX l ⟨p,bs⟩ c = (atB l (mvM g l s (p + s)),⟨mvM g l s (p + s),bs⟩) := by unfold doX;dsimp only;rw [hcm]
  rw [e]
  exact doA_some us zb hv hL he hn p hp bs hb c hc zt hz.tab hcm
 | none =>
  have e : doX l ⟨p,bs⟩ c = if c = clearK then (clearedB,⟨p,[]⟩)
  else if c = whereK then (whereL ((activeM l p).map Av.pc),⟨p,bs⟩)
  else if cutW c = breakK ∧ ((spN 3 (cutR' c)).length = 2 ∨ (spN 3 (cutR' c)).length = 4) then ((addX bs (spN 3 (cutR' c))).1,⟨p,(addX bs (spN 3 (cutR' c))).2⟩)
  else if isShow c = true then ((if (showM l p (cutR' c)).isSome = true ∧ nameB (cutR' c) = true then (showM l p (cutR' c)).getD emB else unknownB),⟨p,bs⟩)
  else (whatB,⟨p,bs⟩) := by unfold doX;dsimp only;rw [hcm]
  rw [e]
  by_cases c1 : c = clearK
  ·rw [if_pos c1]
   exact doA_clear us zb hv hL he hn p hp bs hb c hc zt hz.tab hcm c1
  ·rw [if_neg c1]
   by_cases c2 : c = whereK
   ·rw [if_pos c2]
    exact doA_where us zb hv hL he hn p hp bs hb c hc zt hz.tab hcm c1 c2
   ·rw [if_neg c2]
    by_cases c3 : cutW c = breakK ∧ ((spN 3 (cutR' c)).length = 2 ∨ (spN 3 (cutR' c)).length = 4)
    ·rw [if_pos c3]
     exact doA_breakX us zb hv hL he hn p hp bs hb c hc zt hz hcm c1 c2 c3
    ·rw [if_neg c3]
     cases c4 : isShow c
     ·rw [if_neg (by simp)]
      exact doA_else us zb hv hL he hn p hp bs hb c hc zt hz.tab hcm c1 c2 c3 c4
     ·rw [if_pos rfl]
      exact doA_show us zb hv hL he hn p hp bs hb c hc zt hz.tab hcm c1 c2 c3 c4
theorem doX_P {l : List Ev} (hv : Vd l) (hL : l.length ≤ 20000) (he : ∀ e ∈ l,e.locs.length ≤ 9000000000) (hn : ∀ e ∈ l,e.line ≤ 9223372036854775807) (p : Int) (hp : -1 ≤ p ∧ p ≤ (l.length : Int)) (bs : List Bp) (hb : bs.length ≤ 1000) (c : ByteArray) (hc : c.size ≤ 4000) (zt : Fz) (hz : TabE zt) :
  CallsP Tryz.prog 65 [.d (.p 1 0),dsr c] [(1,.bx 120 (sesV l p bs)),(907,tbOb zt)] [1] (Iso (dsr (doX l ⟨p,bs⟩ c).1) [(1,.bx 120 (sesV l (doX l ⟨p,bs⟩ c).2.p (doX l ⟨p,bs⟩ c).2.bs)),(907,tbOb zt)]) := by
 refine .ofP 902 [1] rfl (fun p hp => ?_) (fun j hj => ?_) fun us zb => doXA_T us zb hv hL he hn p hp bs hb c hc zt hz
 ·simp only [List.mem_cons,List.not_mem_nil,or_false] at hp
  rcases hp with rfl | rfl
  ·simp [NorP,norD]
  ·simp [NorP]
 ·simp only [List.mem_cons,List.not_mem_nil,or_false] at hj
  subst hj
  exact ⟨_,_,_,_,rfl,rfl,rfl⟩
def sesX (l : List Ev) (cs : List ByteArray) : Nat → List ByteArray × Ses
 | 0 => ([],⟨-1,[]⟩)
 | i + 1 => match cs[i]? with
  | some c => ((sesX l cs i).1 ++ [(doX l (sesX l cs i).2 c).1],(doX l (sesX l cs i).2 c).2)
  | none => sesX l cs i
theorem addX_len (bs : List Bp) (ws : List ByteArray) : (addX bs ws).2.length ≤ bs.length + 1 := by
 unfold addX
 split
 ·unfold addM
  split
  ·dsimp only;omega
  ·unfold addG
   split
   ·dsimp only;omega
   ·simp
 ·dsimp only;omega
theorem doX_ok {l : List Ev} {s : Ses} {c : ByteArray} (hp : -1 ≤ s.p ∧ s.p ≤ (l.length : Int)) : (-1 ≤ (doX l s c).2.p ∧ (doX l s c).2.p ≤ (l.length : Int)) ∧ (doX l s c).2.bs.length ≤ s.bs.length + 1 := by
 unfold doX
 split
 ·rename_i st g hc
  have hs : st = 1 ∨ st = -1 := by
   unfold cmdM at hc
   (repeat' split at hc) <;> first | (cases hc;done) | (injection hc with hc;injection hc with h1 _;omega)
  exact ⟨mvM_rng hs _ _ (Nat.le_refl _),by dsimp only;omega⟩
 ·split
  ·exact ⟨hp,by simp⟩
  ·split
   ·exact ⟨hp,by dsimp only;omega⟩
   ·split
    ·exact ⟨hp,addX_len _ _⟩
    ·split
     ·exact ⟨hp,by dsimp only;omega⟩
     ·exact ⟨hp,by dsimp only;omega⟩
theorem sesX_ok {l : List Ev} {cs : List ByteArray} : ∀ i,(-1 ≤ (sesX l cs i).2.p ∧ (sesX l cs i).2.p ≤ (l.length : Int)) ∧ (sesX l cs i).2.bs.length ≤ i
 | 0 => ⟨⟨Int.le_refl _,by simp only [sesX];omega⟩,Nat.le_refl _⟩
 | i + 1 => by
  obtain ⟨h1,h2⟩ := sesX_ok (l := l) (cs := cs) i
  rw [sesX]
  split
  ·rename_i c hc
   have := doX_ok (c := c) h1
   exact ⟨this.1,by have := this.2;dsimp only;omega⟩
  ·exact ⟨h1,by omega⟩
theorem sesX_len {l : List Ev} {cs : List ByteArray} : ∀ i,(sesX l cs i).1.length ≤ i
 | 0 => Nat.le_refl _
 | i + 1 => by
  have ih := sesX_len (l := l) (cs := cs) i
  rw [sesX]
  split
  ·simp;omega
  ·omega
theorem sesX_succ {l : List Ev} {cs : List ByteArray} {i : Nat} {c : ByteArray} (h : cs[i]? = some c) : sesX l cs (i + 1) = ((sesX l cs i).1 ++ [(doX l (sesX l cs i).2 c).1],(doX l (sesX l cs i).2 c).2) := by rw [sesX,h]
end Go.Proofs.YtabmcfnefjipbaaGreatDoor
namespace Go.Proofs.YtabmcfnefjipbaaGreatDoor
open Go.RowKit
end Go.Proofs.YtabmcfnefjipbaaGreatDoor
namespace Go.Proofs.YtabmcfnefjipbaaGreatDoor
open Go.RowKit
instance decMem {α : Type} [DecidableEq α] (f : α) (s : List α) : Decidable (f ∈ s) := @List.instDecidableMemOfLawfulBEq α instBEqOfDecidableEq inferInstance f s
structure Co where
 md : ByteArray
 fn : ByteArray
 calls : Int
 rets : Int
 raises : Int
 lines : Int
 own : Int
 tot : Int
def Co.fu (c : Co) : Fu := (c.md,c.fn)
def Ac.fu (a : Ac) : Fu := (a.md,a.fn)
end Go.Proofs.YtabmcfnefjipbaaGreatDoor
namespace Go.Proofs.YtabmcfnefjipbaaGreatDoor
open Go.RowKit
end Go.Proofs.YtabmcfnefjipbaaGreatDoor
namespace Go.Proofs.YtabmcfnefjipbaaGreatDoor
open Go.RowKit
def stepI (e : Ev) (i : Nat) (ix : List Nat) : List Nat := if e.kind = 2 then ix ++ [i] else if e.kind ≠ 1 then ix.dropLast else ix
def stkI (l : List Ev) : Nat → List Nat
 | 0 => []
 | n + 1 => match l[n]? with
  | some e => stepI e n (stkI l n)
  | none => stkI l n
theorem stkI_succ {l : List Ev} {i : Nat} {e : Ev} (h : l[i]? = some e) : stkI l (i + 1) = stepI e i (stkI l i) := by rw [stkI,h]
theorem stkI_lt {l : List Ev} : ∀ n,∀ j ∈ stkI l n,j < n ∧ j < l.length
 | 0,j,h => by simp [stkI] at h
 | n + 1,j,h => by
  have ih := stkI_lt (l := l) n
  rw [stkI] at h
  split at h
  ·rename_i e he
   have hn := (List.getElem?_eq_some_iff.1 he).1
   unfold stepI at h
   split at h
   ·rcases List.mem_append.1 h with h | h
    ·have := ih j h;omega
    ·simp at h;omega
   ·split at h
    ·have := ih j (List.dropLast_subset _ h);omega
    ·have := ih j h;omega
  ·have := ih j h;omega
theorem stkI_len {l : List Ev} : ∀ n,(stkI l n).length ≤ n
 | 0 => Nat.le_refl _
 | n + 1 => by
  have ih := stkI_len (l := l) n
  rw [stkI]
  split
  ·unfold stepI
   split
   ·simp;omega
   ·split
    ·simp;omega
    ·omega
  ·omega
set_option maxHeartbeats 2000000 in
theorem stack_R (l : List Ev) (n : Nat) (hn : n ≤ l.length) (hl : l.length ≤ 1000000000) : CallsA Tryz.prog 48 [.d (.u (evs l)),di n] [] (Is (.d (.u (.sl 1 ((stkI l n).map ixR))))) := by
 refine callsA_of_vc (T := tt) Tryz.func48 rfl rfl rfl rfl rfl ?_
 repeat' ((conv => whnf);first | refine Gs.id ?_ | fail)
 all_goals (conv => whnf)
 refine ⟨⟨Nat,fun i => i ≤ n,fun i => n - i,fun i => ⟨[(0,.d (.u (evs l))),(1,di n),(5,.d (.ow 900 (stkI l i).length)),(6,di i)],[(900,.ar 3 1 ((stkI l i).map ixR))]⟩,0,Nat.zero_le _,⟨[(900,.n 1)],⟨by (try dsimp only);(repeat (refine LeT.cons rfl (by first | exact LeS.d (by first | exact LeD.u rfl | exact LeD.no rfl rfl | fail) | fail) ?_));exact LeT.nil,by (try dsimp only);repeat (first | exact LeO.nil | refine LeO.no rfl rfl ?_)⟩⟩,fun i hi => ?_⟩⟩
 dsimp only at hi ⊢
 by_cases h9 : i < n
 ·have hil : i < l.length := by omega
  have hev : l[i]? = some l[i] := List.getElem?_eq_getElem hil
  have hst := stkI_succ hev
  have hlen := stkI_len (l := l) i
  have hrow : ∀ {K : List V → Prop} {j : Int},j = (i : Int) → K (l[i]).row → Ix (l.map Ev.row) j K := fun h k => by subst h;exact Ix.map rfl hil k
  generalize l[i] = e at *
  by_cases h2 : e.kind = 2
  ·rw [stepI,if_pos h2] at hst
   repeat' ((conv => whnf);first | refine hrow rfl ?_ | refine Gs.id ?_ | refine Brn.T (by (try simp only [smT]);first | rfl | assumption | omega | fail) ?_ | refine Rng.mk (by (try simp only [smT]);omega) ?_ | refine Apd.mk (by first | rfl | fail) (by first | rfl | simp) (by (try simp only [smT]);first | omega | fail) (by unfold maxLen;first | (simp;omega) | fail) ?_ | fail)
   all_goals (conv => whnf)
   all_goals exact ⟨i + 1,by omega,by omega,[(900,.k 23)],by rw [hst];exact ⟨by (try dsimp only);(repeat (refine LeT.cons rfl (by first | exact LeS.d (by first | exact LeD.u rfl | exact LeD.ow rfl (by simp) | fail) | fail) ?_));exact LeT.nil,by (try dsimp only);repeat (first | exact LeO.nil | refine LeO.ar rfl rfl (by first | simp) ?_ | fail)⟩⟩
  ·rw [stepI,if_neg h2] at hst
   by_cases h1 : e.kind = 1
   ·rw [if_neg (by simpa using h1)] at hst
    repeat' ((conv => whnf);first | refine hrow rfl ?_ | refine Gs.id ?_ | with_reducible refine Brn.F rfl ?_ | refine Brn.T (by (try simp only [smT]);first | rfl | omega | fail) ?_ | refine Brn.F (by (try simp only [smT]);first | rfl | assumption | fail) ?_ | refine Rng.mk (by (try simp only [smT]);omega) ?_ | fail)
    all_goals (conv => whnf)
    all_goals exact ⟨i + 1,by omega,by omega,[(900,.k 900)],by rw [hst];exact ⟨by (try dsimp only);(repeat (refine LeT.cons rfl (by first | exact LeS.d (by first | exact LeD.u rfl | exact LeD.ow rfl rfl | fail) | fail) ?_));exact LeT.nil,by (try dsimp only);repeat (first | exact LeO.nil | refine LeO.ar rfl rfl (by first | rfl | fail) ?_ | fail)⟩⟩
   ·rw [if_pos h1] at hst
    generalize stkI l i = s at *
    rcases List.eq_nil_or_concat s with rfl | ⟨L,j,rfl⟩
    ·repeat' ((conv => whnf);first | refine hrow rfl ?_ | refine Gs.id ?_ | with_reducible refine Brn.F rfl ?_ | refine Brn.T (by (try simp only [smT]);first | rfl | assumption | omega | fail) ?_ | refine Brn.F (by (try simp only [smT]);first | rfl | assumption | fail) ?_ | (refine Bnd.mk (fun hm => ?_);(try simp only [smT] at hm)) | refine Rng.mk (by (try simp only [smT]);omega) ?_ | fail)
     all_goals (conv => whnf)
     all_goals exact ⟨i + 1,by omega,by omega,[(900,.k 900)],by rw [hst];exact ⟨by (try dsimp only);(repeat (refine LeT.cons rfl (by first | exact LeS.d (by first | exact LeD.u rfl | exact LeD.ow rfl rfl | fail) | fail) ?_));exact LeT.nil,by (try dsimp only);repeat (first | exact LeO.nil | refine LeO.ar rfl rfl (by first | rfl | fail) ?_ | fail)⟩⟩
    ·rw [List.concat_eq_append] at *
     have hsn : (((L ++ [j]).length : Nat) : Int) = (L.length : Int) + 1 := by simp
     rw [List.dropLast_concat] at hst
     repeat' ((conv => whnf);first | refine hrow rfl ?_ | refine Slc.mk ⟨0,L.length,rfl,by simp,by omega,by simp,?_⟩ | refine Gs.id ?_ | refine Brn.T (by (try simp only [smT]);first | rfl | assumption | omega | fail) ?_ | refine Brn.F (by (try simp only [smT]);first | rfl | assumption | fail) ?_ | (refine Bnd.mk (fun hm => ?_);(try simp only [smT] at hm)) | refine Rng.mk (by (try simp only [smT]);omega) ?_ | fail)
     all_goals (conv => whnf)
     all_goals exact ⟨i + 1,by omega,by omega,[(900,.k 900)],by rw [hst];exact ⟨(by (try dsimp only);(repeat (refine LeT.cons rfl (by first | exact LeS.d (by first | exact LeD.u rfl | exact LeD.ow rfl rfl | fail) | fail) ?_));exact LeT.nil),.tr (m := L.length) rfl rfl (by simp) (by simp) .nil⟩⟩
 ·obtain rfl : i = n := by omega
  repeat' ((conv => whnf);first | refine Gs.id ?_ | refine Brn.F (by (try simp only [smT]);first | rfl | omega | fail) ?_ | refine Len.mk (by first | rfl | (simp;done) | fail) ?_ | fail)
  all_goals (conv => whnf)
  all_goals first | exact Ret.is rfl | exact Ret.nl (by repeat (fail))
end Go.Proofs.YtabmcfnefjipbaaGreatDoor
