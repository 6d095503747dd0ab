/-
  Part 8 of the proofs of dsession_holds: laws and contracts that they need.
-/
import Derived.Test.YtabmcfnefjipbaaGreatDoorW7
import Derived.Laws.Cover3
set_option linter.unusedVariables false
set_option linter.unusedSimpArgs false
namespace Go.Proofs.YtabmcfnefjipbaaGreatDoor
open Go.RowKit
section
variable {P : Program} {T : List (Nat × Ty)} [hT : Tys P T] {nt : Nt} {ty : TypeId} {pos : String} {af : Array Edge} {gd : Option (Nat × Bool)} {K : Kt}
theorem Raw.eqNilSl {d : Nat} {x : Operand} {t u e : TypeId} {xv : V} {b : Bool} {tmT : List (Nat × SV)} {ob : List (Nat × Ob)} {i : Ty} (hx : evT tmT x = some (.d (.u xv))) (hv : (xv = .nl ∧ b = true) ∨ (∃ sz r rs,xv = .sl sz (r :: rs) ∧ b = false)) (ht : lk t T = some i) (hk : i.k = .sl e) (hd : Nat.blt d nt = true) (k : K ((d,.d (.u (.bool b))) :: tmT) ob) : Raw P nt ⟨some d,.binOp .eql t x (.const (.slice none 0 0)) u,ty,pos,af,gd⟩ tmT ob K := ⟨fun Q c tm h ρ G g => by
 obtain ⟨F,w0,hp⟩ := h
 obtain ⟨v,v1,v2⟩ := g.ev hx
 have ku := (hT.ok t i ht).kind
 rw [hk] at ku
 have ku : P.underlying t = some (.slice e) := ku
 have hf : ∃ A l c,v = .slice A l c ∧ A.isNone = b := by
  cases v2 with | d v2 => cases v2 with | u v2 =>
  rcases hv with ⟨rfl,rfl⟩ | ⟨sz,r,rs,rfl,rfl⟩
  ·cases v2 with | nl => exact ⟨_,_,_,rfl,rfl⟩
  ·cases v2 with | sl us hn hc hm hr hA => exact ⟨_,_,_,rfl,by rw [(hA (by simp)).1];rfl⟩
 obtain ⟨A,l,c',rfl,rfl⟩ := hf
 refine OpS.of_run hd fun a w ha hw' => ⟨.bool A.isNone,w,_,?_,hw',.of (Gd.put (d := d) (st := ⟨tmT,ob⟩) g (.d (.u (.bool _)))) k⟩
 have he : a.eval (.const (.slice none 0 0)) = .slice none 0 0 := rfl
 simp [execOp,ha.ev v1,he,eqGuard,binOp,run_equal_slice_nil w t e A l c' ku]⟩
end
end Go.Proofs.YtabmcfnefjipbaaGreatDoor
namespace Go.Proofs.YtabmcfnefjipbaaGreatDoor
open Go.RowKit
def bkV : List Bp → V
 | [] => .nl
 | b :: r => bks (b :: r)
def wordsB (ws : List ByteArray) (n : Int) : Bp := if ws.length = 4 then ⟨ws[0]?.getD emB,n,ws[2]?.getD emB,ws[3]?.getD emB⟩ else ⟨ws[0]?.getD emB,n,emB,emB⟩
abbrev whatB : ByteArray := ByteArray.mk #[119,104,97,116,63]
abbrev refusedB : ByteArray := ByteArray.mk #[114,101,102,117,115,101,100]
abbrev bkpB : ByteArray := ByteArray.mk #[98,114,101,97,107,112,111,105,110,116,32]
theorem clone_T (bs : List Bp) (hb : bs.length ≤ 1000000) : CallsA Tryz.prog 117 [.d (.u (bkV bs))] [] (Is (.d (.u (bkV bs)))) := by
 cases bs with
 | nil =>
  refine callsA_of_vc (T := tt) Tryz.func117 rfl rfl rfl rfl rfl ?_
  repeat' ((conv => whnf);first | refine Raw.eqNilSl (T := tt) rfl (.inl ⟨rfl,rfl⟩) rfl rfl rfl ?_ | refine Gs.id ?_ | with_reducible refine Brn.T rfl ?_ | fail)
  all_goals (conv => whnf)
  all_goals exact Ret.is rfl
 | cons b r =>
  have hl : (List.map Bp.row (b :: r)).length = r.length + 1 := by simp
  rw [List.length_cons] at hb
  refine callsA_of_vc (T := tt) Tryz.func117 rfl rfl rfl rfl rfl ?_
  repeat' ((conv => whnf);first | refine Raw.eqNilSl (T := tt) rfl (.inr ⟨_,_,_,rfl,rfl⟩) rfl rfl rfl ?_ | refine Gs.id ?_ | with_reducible refine Brn.F rfl ?_ | refine Len.mk (by first | rfl | fail) ?_ | refine Apd.mk (by first | rfl | fail) (by first | rfl | fail) (by (try simp only [smT]);first | omega | fail) (by unfold maxLen;first | (simp;omega) | fail) ?_ | fail)
  all_goals (conv => whnf)
  all_goals exact Ret.is rfl
theorem cloneO_T (b : Bp) (r : List Bp) (hb : (b :: r).length ≤ 1000000) : CallsA Tryz.prog 117 [.d (.u (bks (b :: r)))] [] (Iso (.d (.ow 930 (b :: r).length)) [(930,.ar 62 4 ((b :: r).map Bp.row))]) := by
 have hl : (List.map Bp.row (b :: r)).length = r.length + 1 := by simp
 rw [List.length_cons] at hb
 refine callsA_of_vcO (T := tt) Tryz.func117 rfl rfl rfl rfl rfl ?_
 repeat' ((conv => whnf);first | refine Raw.eqNilSl (T := tt) rfl (.inr ⟨_,_,_,rfl,rfl⟩) rfl rfl rfl ?_ | refine Gs.id ?_ | with_reducible refine Brn.F rfl ?_ | refine Apd.mk (by first | rfl | fail) (by first | rfl | fail) (by (try simp only [smT]);first | omega | fail) (by unfold maxLen;first | (simp;omega) | fail) ?_ | fail)
 all_goals (conv => whnf)
 all_goals refine RetO.mk ⟨[(930,.k 7)],_,_,(by first | exact LeS.d (by first | exact LeD.ow rfl (by simp) | fail) | fail),(by repeat (first | exact LeO.nil | refine LeO.ar rfl rfl (by first | rfl | fail) ?_ | fail)),rfl,rfl⟩
def addG (bs : List Bp) (ws : List ByteArray) (n : Int) : ByteArray × List Bp :=
 if (validB (bs ++ [wordsB ws n])).1 ≠ 0 ∨ (ws.length = 4 ∧ (wordsB ws n).nm = emB) then (refusedB,bs)
 else (bkpB ++ itoaB ((bs ++ [wordsB ws n]).length : Nat),bs ++ [wordsB ws n])
abbrev sesV (l : List Ev) (p : Int) (bs : List Bp) : List D := [.u (evs l),.u (.int .i64 p),.u (bkV bs)]
theorem bkV_app (bs : List Bp) (b : Bp) : bkV (bs ++ [b]) = bks (bs ++ [b]) := by cases bs <;> rfl
end Go.Proofs.YtabmcfnefjipbaaGreatDoor
namespace Go.Proofs.YtabmcfnefjipbaaGreatDoor
open Go.RowKit
set_option maxHeartbeats 20000000 in
theorem addA_2ok (us : List Value) (zb : Fz) (l : List Ev) (p : Int) (bs : List Bp) (ws : List ByteArray) (hb : bs.length ≤ 1000) (w1 : ByteArray) (hw1 : ws[1]?.getD emB = w1) (n : Int) (hat : CallsA Tryz.prog 116 [dsr w1] [] (Is (.t [.d (.u (.int .i64 n)),.d (.u (.v .nilIface))]))) (hw : ws.length = 2) (h9 : w1.size ≤ 9) (hn0 : 0 ≤ n ∧ n < 1000000000) (hi : itoaB n = w1) (zt : Fz) (hz : Tab zt) (hc : (validB (bs ++ [wordsB ws n])).1 = 0) :
  CallsA Tryz.prog 100 [.d (.p 1 0),.d (.u (.sl 1 (strs ws)))] [(902,.ab [.p 1 0] us zb (· = [])),(1,.bx 120 (sesV l p bs)),(907,tbOb zt)] (Iso (dsr (addG bs ws n).1) [(902,.ab [.p 1 0] us zb (· = [])),(1,.bx 120 (sesV l p (addG bs ws n).2)),(907,tbOb zt)]) := by
 have hr0 : ∀ {K : List V → Prop} {j : Int},j = 0 → K [V.str (ws[0]?.getD emB)] → Ix (strs ws) j K := fun h k => ⟨⟨0,_,h,by unfold strs;rw [List.getElem?_map,List.getElem?_eq_getElem (show 0 < ws.length by omega)];rfl,k⟩⟩
 have hr1 : ∀ {K : List V → Prop} {j : Int},j = 1 → K [V.str (ws[1]?.getD emB)] → Ix (strs ws) j K := fun h k => ⟨⟨1,_,h,by unfold strs;rw [List.getElem?_map,List.getElem?_eq_getElem (show 1 < ws.length by omega)];rfl,k⟩⟩
 rw [hw1] at hr1
 have hit := itoa_T n (by omega) (by omega) zt hz
 have hq := toList_beq (itoaB n) w1
 rw [decide_eq_true hi] at hq
 obtain ⟨b,hbE⟩ : ∃ b,wordsB ws n = b := ⟨_,rfl⟩
 rw [hbE] at hc 
 have hva := validateB_T (bs ++ [b])
 have hit2 := itoa_T ((bs.map Bp.row ++ [b.row]).length : Nat) (by omega) (by simp;omega) zt hz
 have his2 := itoaB_size (n := ((bs.map Bp.row ++ [b.row]).length : Nat)) (by omega) (by simp;omega)
 have hbk : (ByteArray.mk #[98,114,101,97,107,112,111,105,110,116,32]).size = 11 := rfl
 have hrw : bks (bs ++ [b]) = .sl 4 (bs.map Bp.row ++ [b.row]) := by simp
 have hll : (bs.map Bp.row ++ [b.row]).length = (bs ++ [b]).length := by simp
 rw [hrw] at hva
 unfold addG
 rw [hbE]
 have hses : sesV l p (bs ++ [b]) = [.u (evs l),.u (.int .i64 p),.u (.sl 4 (bs.map Bp.row ++ [b.row]))] := by rw [sesV,bkV_app,hrw]
 generalize validB (bs ++ [b]) = v at *
 obtain ⟨c,ci⟩ := v
 dsimp only at hva hc ⊢
 have hwb : b = ⟨ws[0]?.getD emB,n,emB,emB⟩ := by rw [← hbE,wordsB,if_neg (by omega)]
 have hlw : ((strs ws).length : Int) = 2 := by simp [hw]
 subst hwb
 clear hbE hw1
 generalize ws[0]?.getD emB = w0 at *
 subst hc
 rw [if_neg (by rintro (h | ⟨h,_⟩) <;> omega)]
 dsimp only
 rw [hses,← hll]
 cases bs with
 | nil =>
  have hcl : CallsA Tryz.prog 117 [.d (.u .nl)] [] (Is (.d (.u .nl))) := clone_T [] (by simp)
  refine callsA_of_vcO (T := tt) Tryz.func100 rfl rfl rfl rfl rfl ?_
  repeat' ((conv => whnf);first | refine Cat.mk (by unfold maxLen;(try simp only [ByteArray.size_append]);omega) ?_ | refine hr0 rfl ?_ | refine hr1 rfl ?_ | refine Raw.neqNil rfl (by kernel_rfl) rfl ?_ | rw [hq] | refine Gs.go (i := 11) (Ghost.frzA 60 rfl (by repeat ((conv => whnf);first | exact trivial | refine Len.mk (by first | rfl | fail) ?_))) ?_ | refine Gs.id ?_ | with_reducible refine And.intro ?_ ?_ | with_reducible refine Brn.F rfl ?_ | refine Brn.F (by (try simp only [smT]);first | rfl | omega | fail) ?_ | (refine Bnd.mk (fun hm => ?_);(try simp only [smT] at hm)) | refine Apd.mk (by first | rfl | fail) (by first | rfl | fail) (by (try simp only [smT]);first | omega | fail) (by unfold maxLen;first | (simp;done) | fail) ?_ | refine Drw.ofT (T := tt) (i := 2) [1,4] [0,2,3,5,6,7,8,9,10,11,12,13,14,15,16,17,18,19,20] (OF.fst 0 (OF.alt 1 (OF.fst 2 (OF.fst 3 (OF.fst 5 (OF.fst 6 (OF.fst 7 (OF.alt 4 (OF.fst 8 (OF.fst 9 (OF.fst 10 (OF.fst 11 (OF.fst 12 (OF.fst 13 (OF.fst 14 (OF.fst 15 (OF.fst 16 (OF.fst 17 (OF.fst 18 (OF.fst 19 (OF.fst 20 OF.nil))))))))))))) OF.nil)))))) OF.nil)) (by kernel_rfl) ?_ | refine Drw.ofT (T := tt) (i := 7) [3,4,5,6,7] [0,1,2,8] (OF.fst 0 (OF.fst 1 (OF.fst 2 (OF.alt 3 (OF.alt 4 (OF.alt 5 (OF.alt 6 (OF.alt 7 (OF.fst 8 OF.nil) OF.nil) OF.nil) OF.nil) (OF.alt 5 (OF.alt 4 (OF.alt 6 (OF.alt 7 (OF.fst 8 OF.nil) OF.nil) OF.nil) (OF.alt 6 (OF.alt 4 (OF.alt 7 (OF.fst 8 OF.nil) OF.nil) OF.nil) OF.nil)) OF.nil)) (OF.alt 5 (OF.alt 3 (OF.alt 4 (OF.alt 6 (OF.alt 7 (OF.fst 8 OF.nil) OF.nil) OF.nil) (OF.alt 6 (OF.alt 4 (OF.alt 7 (OF.fst 8 OF.nil) OF.nil) OF.nil) OF.nil)) (OF.alt 6 (OF.alt 3 (OF.alt 4 (OF.alt 7 (OF.fst 8 OF.nil) OF.nil) OF.nil) OF.nil) OF.nil)) OF.nil))))) (by kernel_rfl) ?_ | (refine CL.mk (Or.inl ?_);(conv => whnf);first | refine Cl.is (hat) rfl (by first | exact fun _ => rfl | fail) ?_ | refine Cl.is (hcl) rfl (by first | exact fun _ => rfl | fail) ?_ | fail) | (refine CL.mk (Or.inl ?_);(conv => whnf);refine ClO.mk (Or.inl ?_);(repeat ((conv => whnf);refine Len.mk (by first | rfl | fail) ?_));(conv => whnf);refine Cl.is (hva) rfl (by first | exact fun _ => rfl | fail) ?_) | (refine CL.mk (Or.inr (Raw.callI [907] [907] rfl rfl rfl rfl rfl rfl rfl (hit) ?_));rintro _ _ ⟨rfl,rfl⟩;refine Bk.mk rfl rfl ?_) | (refine CL.mk (Or.inr (Raw.callI [907] [907] rfl rfl rfl rfl rfl rfl rfl (hit2) ?_));rintro _ _ ⟨rfl,rfl⟩;refine Bk.mk rfl rfl ?_))
  all_goals (conv => whnf)
  all_goals first | (exfalso;simp_all;done) | (exfalso;simp at *;omega) | (refine RetO.mk ⟨[(902,.k 902),(1,.k 1),(907,.k 907)],_,_,(by first | exact LeS.d (by first | exact LeD.u rfl | fail) | fail),(by repeat (first | exact LeO.nil | refine LeO.bx rfl rfl (by repeat (first | exact LeL.nil | refine LeL.cons (by first | exact LeD.u rfl | fail) ?_)) ?_ | refine LeO.ab rfl rfl (by repeat (first | exact LeL.nil | refine LeL.cons (by first | exact LeD.p rfl | fail) ?_)) (by first | rfl | fail) ?_ | fail)),rfl,rfl⟩)
 | cons b0 r0 =>
  have hcl := cloneO_T b0 r0 (by omega)
  have hlb : (List.map Bp.row (b0 :: r0)).length = r0.length + 1 := by simp
  rw [List.length_cons] at hb
  refine callsA_of_vcO (T := tt) Tryz.func100 rfl rfl rfl rfl rfl ?_
  repeat' ((conv => whnf);first | refine Cat.mk (by unfold maxLen;(try simp only [ByteArray.size_append]);omega) ?_ | refine hr0 rfl ?_ | refine hr1 rfl ?_ | refine Raw.neqNil rfl (by kernel_rfl) rfl ?_ | rw [hq] | refine Gs.go (i := 11) (Ghost.frzA 60 rfl (by repeat ((conv => whnf);first | exact trivial | refine Len.mk (by first | rfl | fail) ?_))) ?_ | refine Gs.id ?_ | with_reducible refine And.intro ?_ ?_ | with_reducible refine Brn.F rfl ?_ | refine Brn.F (by (try simp only [smT]);first | rfl | omega | fail) ?_ | (refine Bnd.mk (fun hm => ?_);(try simp only [smT] at hm)) | refine Apd.mk (by first | rfl | simp) (by first | rfl | fail) (by (try simp only [smT]);first | omega | fail) (by unfold maxLen;first | (simp;omega) | fail) ?_ | refine Drw.ofT (T := tt) (i := 2) [1,4] [0,2,3,5,6,7,8,9,10,11,12,13,14,15,16,17,18,19,20] (OF.fst 0 (OF.alt 1 (OF.fst 2 (OF.fst 3 (OF.fst 5 (OF.fst 6 (OF.fst 7 (OF.alt 4 (OF.fst 8 (OF.fst 9 (OF.fst 10 (OF.fst 11 (OF.fst 12 (OF.fst 13 (OF.fst 14 (OF.fst 15 (OF.fst 16 (OF.fst 17 (OF.fst 18 (OF.fst 19 (OF.fst 20 OF.nil))))))))))))) OF.nil)))))) OF.nil)) (by kernel_rfl) ?_ | refine Drw.ofT (T := tt) (i := 7) [3,4,5,6,7] [0,1,2,8] (OF.fst 0 (OF.fst 1 (OF.fst 2 (OF.alt 3 (OF.alt 4 (OF.alt 5 (OF.alt 6 (OF.alt 7 (OF.fst 8 OF.nil) OF.nil) OF.nil) OF.nil) (OF.alt 5 (OF.alt 4 (OF.alt 6 (OF.alt 7 (OF.fst 8 OF.nil) OF.nil) OF.nil) (OF.alt 6 (OF.alt 4 (OF.alt 7 (OF.fst 8 OF.nil) OF.nil) OF.nil) OF.nil)) OF.nil)) (OF.alt 5 (OF.alt 3 (OF.alt 4 (OF.alt 6 (OF.alt 7 (OF.fst 8 OF.nil) OF.nil) OF.nil) (OF.alt 6 (OF.alt 4 (OF.alt 7 (OF.fst 8 OF.nil) OF.nil) OF.nil) OF.nil)) (OF.alt 6 (OF.alt 3 (OF.alt 4 (OF.alt 7 (OF.fst 8 OF.nil) OF.nil) OF.nil) OF.nil) OF.nil)) OF.nil))))) (by kernel_rfl) ?_ | (refine CL.mk (Or.inl ?_);(conv => whnf);first | refine Cl.is (hat) rfl (by first | exact fun _ => rfl | fail) ?_ | fail) | (refine CL.mk (Or.inl ?_);(conv => whnf);refine ClO.mk (Or.inl ?_);(repeat ((conv => whnf);refine Len.mk (by first | rfl | fail) ?_));(conv => whnf);refine Cl.is (hva) rfl (by first | exact fun _ => rfl | fail) ?_) | (refine CL.mk (Or.inr (Raw.callI [907] [907] rfl rfl rfl rfl rfl rfl rfl (hit) ?_));rintro _ _ ⟨rfl,rfl⟩;refine Bk.mk rfl rfl ?_) | (refine CL.mk (Or.inr (Raw.callI [] [930] rfl rfl rfl rfl rfl rfl rfl (hcl) ?_));rintro _ _ ⟨rfl,rfl⟩;refine Bk.mk rfl rfl ?_) | (refine CL.mk (Or.inr (Raw.callI [907] [907] rfl rfl rfl rfl rfl rfl rfl (hit2) ?_));rintro _ _ ⟨rfl,rfl⟩;refine Bk.mk rfl rfl ?_))
  all_goals (conv => whnf)
  all_goals first | (exfalso;simp_all;done) | (exfalso;simp at *;omega) | (refine RetO.mk ⟨[(902,.k 902),(1,.k 1),(907,.k 907)],_,_,(by first | exact LeS.d (by first | exact LeD.u rfl | fail) | fail),(by repeat (first | exact LeO.nil | refine LeO.bx rfl rfl (by repeat (first | exact LeL.nil | refine LeL.cons (by first | exact LeD.u rfl | fail) ?_)) ?_ | refine LeO.ab rfl rfl (by repeat (first | exact LeL.nil | refine LeL.cons (by first | exact LeD.p rfl | fail) ?_)) (by first | rfl | fail) ?_ | fail)),rfl,rfl⟩)
end Go.Proofs.YtabmcfnefjipbaaGreatDoor
namespace Go.Proofs.YtabmcfnefjipbaaGreatDoor
open Go.RowKit
set_option maxHeartbeats 20000000 in
theorem addA_2no (us : List Value) (zb : Fz) (l : List Ev) (p : Int) (bs : List Bp) (ws : List ByteArray) (hb : bs.length ≤ 1000) (w1 : ByteArray) (hw1 : ws[1]?.getD emB = w1) (n : Int) (hat : CallsA Tryz.prog 116 [dsr w1] [] (Is (.t [.d (.u (.int .i64 n)),.d (.u (.v .nilIface))]))) (hw : ws.length = 2) (h9 : w1.size ≤ 9) (hn0 : 0 ≤ n ∧ n < 1000000000) (hi : itoaB n = w1) (zt : Fz) (hz : Tab zt) (hc : (validB (bs ++ [wordsB ws n])).1 ≠ 0) :
  CallsA Tryz.prog 100 [.d (.p 1 0),.d (.u (.sl 1 (strs ws)))] [(902,.ab [.p 1 0] us zb (· = [])),(1,.bx 120 (sesV l p bs)),(907,tbOb zt)] (Iso (dsr (addG bs ws n).1) [(902,.ab [.p 1 0] us zb (· = [])),(1,.bx 120 (sesV l p (addG bs ws n).2)),(907,tbOb zt)]) := by
 have hr0 : ∀ {K : List V → Prop} {j : Int},j = 0 → K [V.str (ws[0]?.getD emB)] → Ix (strs ws) j K := fun h k => ⟨⟨0,_,h,by unfold strs;rw [List.getElem?_map,List.getElem?_eq_getElem (show 0 < ws.length by omega)];rfl,k⟩⟩
 have hr1 : ∀ {K : List V → Prop} {j : Int},j = 1 → K [V.str (ws[1]?.getD emB)] → Ix (strs ws) j K := fun h k => ⟨⟨1,_,h,by unfold strs;rw [List.getElem?_map,List.getElem?_eq_getElem (show 1 < ws.length by omega)];rfl,k⟩⟩
 rw [hw1] at hr1
 have hit := itoa_T n (by omega) (by omega) zt hz
 have hq := toList_beq (itoaB n) w1
 rw [decide_eq_true hi] at hq
 obtain ⟨b,hbE⟩ : ∃ b,wordsB ws n = b := ⟨_,rfl⟩
 rw [hbE] at hc 
 have hva := validateB_T (bs ++ [b])
 have hit2 := itoa_T ((bs.map Bp.row ++ [b.row]).length : Nat) (by omega) (by simp;omega) zt hz
 have his2 := itoaB_size (n := ((bs.map Bp.row ++ [b.row]).length : Nat)) (by omega) (by simp;omega)
 have hbk : (ByteArray.mk #[98,114,101,97,107,112,111,105,110,116,32]).size = 11 := rfl
 have hrw : bks (bs ++ [b]) = .sl 4 (bs.map Bp.row ++ [b.row]) := by simp
 have hll : (bs.map Bp.row ++ [b.row]).length = (bs ++ [b]).length := by simp
 rw [hrw] at hva
 unfold addG
 rw [hbE]
 have hses : sesV l p (bs ++ [b]) = [.u (evs l),.u (.int .i64 p),.u (.sl 4 (bs.map Bp.row ++ [b.row]))] := by rw [sesV,bkV_app,hrw]
 generalize validB (bs ++ [b]) = v at *
 obtain ⟨c,ci⟩ := v
 dsimp only at hva hc ⊢
 have hwb : b = ⟨ws[0]?.getD emB,n,emB,emB⟩ := by rw [← hbE,wordsB,if_neg (by omega)]
 have hlw : ((strs ws).length : Int) = 2 := by simp [hw]
 subst hwb
 clear hbE hw1
 generalize ws[0]?.getD emB = w0 at *
 rw [if_pos (.inl hc)]
 cases bs with
 | nil =>
  have hcl : CallsA Tryz.prog 117 [.d (.u .nl)] [] (Is (.d (.u .nl))) := clone_T [] (by simp)
  refine callsA_of_vcO (T := tt) Tryz.func100 rfl rfl rfl rfl rfl ?_
  repeat' ((conv => whnf);first | refine hr0 rfl ?_ | refine hr1 rfl ?_ | refine Raw.neqNil rfl (by kernel_rfl) rfl ?_ | rw [hq] | refine Gs.id ?_ | with_reducible refine And.intro ?_ ?_ | with_reducible refine Brn.T rfl ?_ | with_reducible refine Brn.F rfl ?_ | refine Brn.T (by (try simp only [smT]);first | rfl | assumption | fail) ?_ | refine Brn.F (by (try simp only [smT]);first | rfl | omega | fail) ?_ | (refine Bnd.mk (fun hm => ?_);(try simp only [smT] at hm)) | refine Apd.mk (by first | rfl | fail) (by first | rfl | fail) (by (try simp only [smT]);first | omega | fail) (by unfold maxLen;first | (simp;done) | fail) ?_ | refine Drw.ofT (T := tt) (i := 2) [1,4] [0,2,3,5,6,7,8,9,10,11,12,13,14,15,16,17,18,19,20] (OF.fst 0 (OF.alt 1 (OF.fst 2 (OF.fst 3 (OF.fst 5 (OF.fst 6 (OF.fst 7 (OF.alt 4 (OF.fst 8 (OF.fst 9 (OF.fst 10 (OF.fst 11 (OF.fst 12 (OF.fst 13 (OF.fst 14 (OF.fst 15 (OF.fst 16 (OF.fst 17 (OF.fst 18 (OF.fst 19 (OF.fst 20 OF.nil))))))))))))) OF.nil)))))) OF.nil)) (by kernel_rfl) ?_ | refine Drw.ofT (T := tt) (i := 7) [3,4,5,6,7] [0,1,2,8] (OF.fst 0 (OF.fst 1 (OF.fst 2 (OF.alt 3 (OF.alt 4 (OF.alt 5 (OF.alt 6 (OF.alt 7 (OF.fst 8 OF.nil) OF.nil) OF.nil) OF.nil) (OF.alt 5 (OF.alt 4 (OF.alt 6 (OF.alt 7 (OF.fst 8 OF.nil) OF.nil) OF.nil) (OF.alt 6 (OF.alt 4 (OF.alt 7 (OF.fst 8 OF.nil) OF.nil) OF.nil) OF.nil)) OF.nil)) (OF.alt 5 (OF.alt 3 (OF.alt 4 (OF.alt 6 (OF.alt 7 (OF.fst 8 OF.nil) OF.nil) OF.nil) (OF.alt 6 (OF.alt 4 (OF.alt 7 (OF.fst 8 OF.nil) OF.nil) OF.nil) OF.nil)) (OF.alt 6 (OF.alt 3 (OF.alt 4 (OF.alt 7 (OF.fst 8 OF.nil) OF.nil) OF.nil) OF.nil) OF.nil)) OF.nil))))) (by kernel_rfl) ?_ | (refine CL.mk (Or.inl ?_);(conv => whnf);first | refine Cl.is (hat) rfl (by first | exact fun _ => rfl | fail) ?_ | refine Cl.is (hcl) rfl (by first | exact fun _ => rfl | fail) ?_ | fail) | (refine CL.mk (Or.inl ?_);(conv => whnf);refine ClO.mk (Or.inl ?_);(repeat ((conv => whnf);refine Len.mk (by first | rfl | fail) ?_));(conv => whnf);refine Cl.is (hva) rfl (by first | exact fun _ => rfl | fail) ?_) | (refine CL.mk (Or.inr (Raw.callI [907] [907] rfl rfl rfl rfl rfl rfl rfl (hit) ?_));rintro _ _ ⟨rfl,rfl⟩;refine Bk.mk rfl rfl ?_))
  all_goals (conv => whnf)
  all_goals first | (exfalso;simp_all;done) | (exfalso;simp at *;omega) | (refine RetO.mk ⟨[(902,.k 902),(1,.k 1),(907,.k 907)],_,_,(by first | exact LeS.d (by first | exact LeD.u rfl | fail) | fail),(by repeat (first | exact LeO.nil | refine LeO.bx rfl rfl (by repeat (first | exact LeL.nil | refine LeL.cons (by first | exact LeD.u rfl | fail) ?_)) ?_ | refine LeO.ab rfl rfl (by repeat (first | exact LeL.nil | refine LeL.cons (by first | exact LeD.p rfl | fail) ?_)) (by first | rfl | fail) ?_ | fail)),rfl,rfl⟩)
 | cons b0 r0 =>
  have hcl := cloneO_T b0 r0 (by omega)
  have hlb : (List.map Bp.row (b0 :: r0)).length = r0.length + 1 := by simp
  rw [List.length_cons] at hb
  refine callsA_of_vcO (T := tt) Tryz.func100 rfl rfl rfl rfl rfl ?_
  repeat' ((conv => whnf);first | refine hr0 rfl ?_ | refine hr1 rfl ?_ | refine Raw.neqNil rfl (by kernel_rfl) rfl ?_ | rw [hq] | refine Gs.id ?_ | with_reducible refine And.intro ?_ ?_ | with_reducible refine Brn.T rfl ?_ | with_reducible refine Brn.F rfl ?_ | refine Brn.T (by (try simp only [smT]);first | rfl | assumption | fail) ?_ | refine Brn.F (by (try simp only [smT]);first | rfl | omega | fail) ?_ | (refine Bnd.mk (fun hm => ?_);(try simp only [smT] at hm)) | refine Apd.mk (by first | rfl | simp) (by first | rfl | fail) (by (try simp only [smT]);first | omega | fail) (by unfold maxLen;first | (simp;omega) | fail) ?_ | refine Drw.ofT (T := tt) (i := 2) [1,4] [0,2,3,5,6,7,8,9,10,11,12,13,14,15,16,17,18,19,20] (OF.fst 0 (OF.alt 1 (OF.fst 2 (OF.fst 3 (OF.fst 5 (OF.fst 6 (OF.fst 7 (OF.alt 4 (OF.fst 8 (OF.fst 9 (OF.fst 10 (OF.fst 11 (OF.fst 12 (OF.fst 13 (OF.fst 14 (OF.fst 15 (OF.fst 16 (OF.fst 17 (OF.fst 18 (OF.fst 19 (OF.fst 20 OF.nil))))))))))))) OF.nil)))))) OF.nil)) (by kernel_rfl) ?_ | refine Drw.ofT (T := tt) (i := 7) [3,4,5,6,7] [0,1,2,8] (OF.fst 0 (OF.fst 1 (OF.fst 2 (OF.alt 3 (OF.alt 4 (OF.alt 5 (OF.alt 6 (OF.alt 7 (OF.fst 8 OF.nil) OF.nil) OF.nil) OF.nil) (OF.alt 5 (OF.alt 4 (OF.alt 6 (OF.alt 7 (OF.fst 8 OF.nil) OF.nil) OF.nil) (OF.alt 6 (OF.alt 4 (OF.alt 7 (OF.fst 8 OF.nil) OF.nil) OF.nil) OF.nil)) OF.nil)) (OF.alt 5 (OF.alt 3 (OF.alt 4 (OF.alt 6 (OF.alt 7 (OF.fst 8 OF.nil) OF.nil) OF.nil) (OF.alt 6 (OF.alt 4 (OF.alt 7 (OF.fst 8 OF.nil) OF.nil) OF.nil) OF.nil)) (OF.alt 6 (OF.alt 3 (OF.alt 4 (OF.alt 7 (OF.fst 8 OF.nil) OF.nil) OF.nil) OF.nil) OF.nil)) OF.nil))))) (by kernel_rfl) ?_ | (refine CL.mk (Or.inl ?_);(conv => whnf);first | refine Cl.is (hat) rfl (by first | exact fun _ => rfl | fail) ?_ | fail) | (refine CL.mk (Or.inl ?_);(conv => whnf);refine ClO.mk (Or.inl ?_);(repeat ((conv => whnf);refine Len.mk (by first | rfl | fail) ?_));(conv => whnf);refine Cl.is (hva) rfl (by first | exact fun _ => rfl | fail) ?_) | (refine CL.mk (Or.inr (Raw.callI [907] [907] rfl rfl rfl rfl rfl rfl rfl (hit) ?_));rintro _ _ ⟨rfl,rfl⟩;refine Bk.mk rfl rfl ?_) | (refine CL.mk (Or.inr (Raw.callI [] [930] rfl rfl rfl rfl rfl rfl rfl (hcl) ?_));rintro _ _ ⟨rfl,rfl⟩;refine Bk.mk rfl rfl ?_))
  all_goals (conv => whnf)
  all_goals first | (exfalso;simp_all;done) | (exfalso;simp at *;omega) | (refine RetO.mk ⟨[(902,.k 902),(1,.k 1),(907,.k 907)],_,_,(by first | exact LeS.d (by first | exact LeD.u rfl | fail) | fail),(by repeat (first | exact LeO.nil | refine LeO.bx rfl rfl (by repeat (first | exact LeL.nil | refine LeL.cons (by first | exact LeD.u rfl | fail) ?_)) ?_ | refine LeO.ab rfl rfl (by repeat (first | exact LeL.nil | refine LeL.cons (by first | exact LeD.p rfl | fail) ?_)) (by first | rfl | fail) ?_ | fail)),rfl,rfl⟩)
end Go.Proofs.YtabmcfnefjipbaaGreatDoor
namespace Go.Proofs.YtabmcfnefjipbaaGreatDoor
open Go.RowKit
set_option maxHeartbeats 20000000 in
theorem addA_4nn (us : List Value) (zb : Fz) (l : List Ev) (p : Int) (bs : List Bp) (ws : List ByteArray) (hb : bs.length ≤ 1000) (w1 : ByteArray) (hw1 : ws[1]?.getD emB = w1) (n : Int) (hat : CallsA Tryz.prog 116 [dsr w1] [] (Is (.t [.d (.u (.int .i64 n)),.d (.u (.v .nilIface))]))) (hw : ws.length = 4) (h9 : w1.size ≤ 9) (hn0 : 0 ≤ n ∧ n < 1000000000) (hi : itoaB n = w1) (zt : Fz) (hz : Tab zt) (hc : (validB (bs ++ [wordsB ws n])).1 = 0) (hnm : (wordsB ws n).nm = emB) :
  CallsA Tryz.prog 100 [.d (.p 1 0),.d (.u (.sl 1 (strs ws)))] [(902,.ab [.p 1 0] us zb (· = [])),(1,.bx 120 (sesV l p bs)),(907,tbOb zt)] (Iso (dsr (addG bs ws n).1) [(902,.ab [.p 1 0] us zb (· = [])),(1,.bx 120 (sesV l p (addG bs ws n).2)),(907,tbOb zt)]) := by
 have hr0 : ∀ {K : List V → Prop} {j : Int},j = 0 → K [V.str (ws[0]?.getD emB)] → Ix (strs ws) j K := fun h k => ⟨⟨0,_,h,by unfold strs;rw [List.getElem?_map,List.getElem?_eq_getElem (show 0 < ws.length by omega)];rfl,k⟩⟩
 have hr1 : ∀ {K : List V → Prop} {j : Int},j = 1 → K [V.str (ws[1]?.getD emB)] → Ix (strs ws) j K := fun h k => ⟨⟨1,_,h,by unfold strs;rw [List.getElem?_map,List.getElem?_eq_getElem (show 1 < ws.length by omega)];rfl,k⟩⟩
 have hr2 : ∀ {K : List V → Prop} {j : Int},j = 2 → K [V.str (ws[2]?.getD emB)] → Ix (strs ws) j K := fun h k => ⟨⟨2,_,h,by unfold strs;rw [List.getElem?_map,List.getElem?_eq_getElem (show 2 < ws.length by omega)];rfl,k⟩⟩
 have hr3 : ∀ {K : List V → Prop} {j : Int},j = 3 → K [V.str (ws[3]?.getD emB)] → Ix (strs ws) j K := fun h k => ⟨⟨3,_,h,by unfold strs;rw [List.getElem?_map,List.getElem?_eq_getElem (show 3 < ws.length by omega)];rfl,k⟩⟩
 rw [hw1] at hr1
 have hit := itoa_T n (by omega) (by omega) zt hz
 have hq := toList_beq (itoaB n) w1
 rw [decide_eq_true hi] at hq
 obtain ⟨b,hbE⟩ : ∃ b,wordsB ws n = b := ⟨_,rfl⟩
 rw [hbE] at hc hnm
 have hva := validateB_T (bs ++ [b])
 have hit2 := itoa_T ((bs.map Bp.row ++ [b.row]).length : Nat) (by omega) (by simp;omega) zt hz
 have his2 := itoaB_size (n := ((bs.map Bp.row ++ [b.row]).length : Nat)) (by omega) (by simp;omega)
 have hbk : (ByteArray.mk #[98,114,101,97,107,112,111,105,110,116,32]).size = 11 := rfl
 have hrw : bks (bs ++ [b]) = .sl 4 (bs.map Bp.row ++ [b.row]) := by simp
 have hll : (bs.map Bp.row ++ [b.row]).length = (bs ++ [b]).length := by simp
 rw [hrw] at hva
 unfold addG
 rw [hbE]
 have hses : sesV l p (bs ++ [b]) = [.u (evs l),.u (.int .i64 p),.u (.sl 4 (bs.map Bp.row ++ [b.row]))] := by rw [sesV,bkV_app,hrw]
 generalize validB (bs ++ [b]) = v at *
 obtain ⟨c,ci⟩ := v
 dsimp only at hva hc ⊢
 have hwb : b = ⟨ws[0]?.getD emB,n,ws[2]?.getD emB,ws[3]?.getD emB⟩ := by rw [← hbE,wordsB,if_pos hw]
 have hlw : ((strs ws).length : Int) = 4 := by simp [hw]
 subst hwb
 clear hbE hw1
 generalize ws[0]?.getD emB = w0 at *
 generalize ws[2]?.getD emB = w2 at *
 generalize ws[3]?.getD emB = w3 at *
 have hqn := toList_beq w2 emB
 subst hc
 dsimp only at hnm
 rw [decide_eq_true hnm] at hqn
 rw [if_pos (.inr ⟨hw,hnm⟩)]
 cases bs with
 | nil =>
  have hcl : CallsA Tryz.prog 117 [.d (.u .nl)] [] (Is (.d (.u .nl))) := clone_T [] (by simp)
  refine callsA_of_vcO (T := tt) Tryz.func100 rfl rfl rfl rfl rfl ?_
  repeat' ((conv => whnf);first | refine hr0 rfl ?_ | refine hr1 rfl ?_ | refine hr2 rfl ?_ | refine hr3 rfl ?_ | refine Raw.neqNil rfl (by kernel_rfl) rfl ?_ | rw [hq] | rw [hqn] | refine Gs.id ?_ | with_reducible refine And.intro ?_ ?_ | with_reducible refine Brn.T rfl ?_ | with_reducible refine Brn.F rfl ?_ | refine Brn.T (by (try simp only [smT]);first | rfl | omega | fail) ?_ | refine Brn.F (by (try simp only [smT]);first | rfl | omega | fail) ?_ | (refine Bnd.mk (fun hm => ?_);(try simp only [smT] at hm)) | refine Apd.mk (by first | rfl | fail) (by first | rfl | fail) (by (try simp only [smT]);first | omega | fail) (by unfold maxLen;first | (simp;done) | fail) ?_ | refine Drw.ofT (T := tt) (i := 2) [1,4] [0,2,3,5,6,7,8,9,10,11,12,13,14,15,16,17,18,19,20] (OF.fst 0 (OF.alt 1 (OF.fst 2 (OF.fst 3 (OF.fst 5 (OF.fst 6 (OF.fst 7 (OF.alt 4 (OF.fst 8 (OF.fst 9 (OF.fst 10 (OF.fst 11 (OF.fst 12 (OF.fst 13 (OF.fst 14 (OF.fst 15 (OF.fst 16 (OF.fst 17 (OF.fst 18 (OF.fst 19 (OF.fst 20 OF.nil))))))))))))) OF.nil)))))) OF.nil)) (by kernel_rfl) ?_ | refine Drw.ofT (T := tt) (i := 6) [7,9] [0,1,2,3,4,5,6,8] (OF.fst 0 (OF.fst 1 (OF.fst 2 (OF.fst 3 (OF.fst 4 (OF.fst 5 (OF.fst 6 (OF.alt 7 (OF.fst 8 (OF.alt 9 OF.nil OF.nil)) OF.nil)))))))) (by kernel_rfl) ?_ | refine Drw.ofT (T := tt) (i := 7) [3,4,5,6,7] [0,1,2,8] (OF.fst 0 (OF.fst 1 (OF.fst 2 (OF.alt 3 (OF.alt 4 (OF.alt 5 (OF.alt 6 (OF.alt 7 (OF.fst 8 OF.nil) OF.nil) OF.nil) OF.nil) (OF.alt 5 (OF.alt 4 (OF.alt 6 (OF.alt 7 (OF.fst 8 OF.nil) OF.nil) OF.nil) (OF.alt 6 (OF.alt 4 (OF.alt 7 (OF.fst 8 OF.nil) OF.nil) OF.nil) OF.nil)) OF.nil)) (OF.alt 5 (OF.alt 3 (OF.alt 4 (OF.alt 6 (OF.alt 7 (OF.fst 8 OF.nil) OF.nil) OF.nil) (OF.alt 6 (OF.alt 4 (OF.alt 7 (OF.fst 8 OF.nil) OF.nil) OF.nil) OF.nil)) (OF.alt 6 (OF.alt 3 (OF.alt 4 (OF.alt 7 (OF.fst 8 OF.nil) OF.nil) OF.nil) OF.nil) OF.nil)) OF.nil))))) (by kernel_rfl) ?_ | (refine CL.mk (Or.inl ?_);(conv => whnf);first | refine Cl.is (hat) rfl (by first | exact fun _ => rfl | fail) ?_ | refine Cl.is (hcl) rfl (by first | exact fun _ => rfl | fail) ?_ | fail) | (refine CL.mk (Or.inl ?_);(conv => whnf);refine ClO.mk (Or.inl ?_);(repeat ((conv => whnf);refine Len.mk (by first | rfl | fail) ?_));(conv => whnf);refine Cl.is (hva) rfl (by first | exact fun _ => rfl | fail) ?_) | (refine CL.mk (Or.inr (Raw.callI [907] [907] rfl rfl rfl rfl rfl rfl rfl (hit) ?_));rintro _ _ ⟨rfl,rfl⟩;refine Bk.mk rfl rfl ?_))
  all_goals (conv => whnf)
  all_goals first | (exfalso;simp_all;done) | (exfalso;simp at *;omega) | (refine RetO.mk ⟨[(902,.k 902),(1,.k 1),(907,.k 907)],_,_,(by first | exact LeS.d (by first | exact LeD.u rfl | fail) | fail),(by repeat (first | exact LeO.nil | refine LeO.bx rfl rfl (by repeat (first | exact LeL.nil | refine LeL.cons (by first | exact LeD.u rfl | fail) ?_)) ?_ | refine LeO.ab rfl rfl (by repeat (first | exact LeL.nil | refine LeL.cons (by first | exact LeD.p rfl | fail) ?_)) (by first | rfl | fail) ?_ | fail)),rfl,rfl⟩)
 | cons b0 r0 =>
  have hcl := cloneO_T b0 r0 (by omega)
  have hlb : (List.map Bp.row (b0 :: r0)).length = r0.length + 1 := by simp
  rw [List.length_cons] at hb
  refine callsA_of_vcO (T := tt) Tryz.func100 rfl rfl rfl rfl rfl ?_
  repeat' ((conv => whnf);first | refine hr0 rfl ?_ | refine hr1 rfl ?_ | refine hr2 rfl ?_ | refine hr3 rfl ?_ | refine Raw.neqNil rfl (by kernel_rfl) rfl ?_ | rw [hq] | rw [hqn] | refine Gs.id ?_ | with_reducible refine And.intro ?_ ?_ | with_reducible refine Brn.T rfl ?_ | with_reducible refine Brn.F rfl ?_ | refine Brn.T (by (try simp only [smT]);first | rfl | omega | fail) ?_ | refine Brn.F (by (try simp only [smT]);first | rfl | omega | fail) ?_ | (refine Bnd.mk (fun hm => ?_);(try simp only [smT] at hm)) | refine Apd.mk (by first | rfl | simp) (by first | rfl | fail) (by (try simp only [smT]);first | omega | fail) (by unfold maxLen;first | (simp;omega) | fail) ?_ | refine Drw.ofT (T := tt) (i := 2) [1,4] [0,2,3,5,6,7,8,9,10,11,12,13,14,15,16,17,18,19,20] (OF.fst 0 (OF.alt 1 (OF.fst 2 (OF.fst 3 (OF.fst 5 (OF.fst 6 (OF.fst 7 (OF.alt 4 (OF.fst 8 (OF.fst 9 (OF.fst 10 (OF.fst 11 (OF.fst 12 (OF.fst 13 (OF.fst 14 (OF.fst 15 (OF.fst 16 (OF.fst 17 (OF.fst 18 (OF.fst 19 (OF.fst 20 OF.nil))))))))))))) OF.nil)))))) OF.nil)) (by kernel_rfl) ?_ | refine Drw.ofT (T := tt) (i := 6) [7,9] [0,1,2,3,4,5,6,8] (OF.fst 0 (OF.fst 1 (OF.fst 2 (OF.fst 3 (OF.fst 4 (OF.fst 5 (OF.fst 6 (OF.alt 7 (OF.fst 8 (OF.alt 9 OF.nil OF.nil)) OF.nil)))))))) (by kernel_rfl) ?_ | refine Drw.ofT (T := tt) (i := 7) [3,4,5,6,7] [0,1,2,8] (OF.fst 0 (OF.fst 1 (OF.fst 2 (OF.alt 3 (OF.alt 4 (OF.alt 5 (OF.alt 6 (OF.alt 7 (OF.fst 8 OF.nil) OF.nil) OF.nil) OF.nil) (OF.alt 5 (OF.alt 4 (OF.alt 6 (OF.alt 7 (OF.fst 8 OF.nil) OF.nil) OF.nil) (OF.alt 6 (OF.alt 4 (OF.alt 7 (OF.fst 8 OF.nil) OF.nil) OF.nil) OF.nil)) OF.nil)) (OF.alt 5 (OF.alt 3 (OF.alt 4 (OF.alt 6 (OF.alt 7 (OF.fst 8 OF.nil) OF.nil) OF.nil) (OF.alt 6 (OF.alt 4 (OF.alt 7 (OF.fst 8 OF.nil) OF.nil) OF.nil) OF.nil)) (OF.alt 6 (OF.alt 3 (OF.alt 4 (OF.alt 7 (OF.fst 8 OF.nil) OF.nil) OF.nil) OF.nil) OF.nil)) OF.nil))))) (by kernel_rfl) ?_ | (refine CL.mk (Or.inl ?_);(conv => whnf);first | refine Cl.is (hat) rfl (by first | exact fun _ => rfl | fail) ?_ | fail) | (refine CL.mk (Or.inl ?_);(conv => whnf);refine ClO.mk (Or.inl ?_);(repeat ((conv => whnf);refine Len.mk (by first | rfl | fail) ?_));(conv => whnf);refine Cl.is (hva) rfl (by first | exact fun _ => rfl | fail) ?_) | (refine CL.mk (Or.inr (Raw.callI [907] [907] rfl rfl rfl rfl rfl rfl rfl (hit) ?_));rintro _ _ ⟨rfl,rfl⟩;refine Bk.mk rfl rfl ?_) | (refine CL.mk (Or.inr (Raw.callI [] [930] rfl rfl rfl rfl rfl rfl rfl (hcl) ?_));rintro _ _ ⟨rfl,rfl⟩;refine Bk.mk rfl rfl ?_))
  all_goals (conv => whnf)
  all_goals first | (exfalso;simp_all;done) | (exfalso;simp at *;omega) | (refine RetO.mk ⟨[(902,.k 902),(1,.k 1),(907,.k 907)],_,_,(by first | exact LeS.d (by first | exact LeD.u rfl | fail) | fail),(by repeat (first | exact LeO.nil | refine LeO.bx rfl rfl (by repeat (first | exact LeL.nil | refine LeL.cons (by first | exact LeD.u rfl | fail) ?_)) ?_ | refine LeO.ab rfl rfl (by repeat (first | exact LeL.nil | refine LeL.cons (by first | exact LeD.p rfl | fail) ?_)) (by first | rfl | fail) ?_ | fail)),rfl,rfl⟩)
end Go.Proofs.YtabmcfnefjipbaaGreatDoor
namespace Go.Proofs.YtabmcfnefjipbaaGreatDoor
open Go.RowKit
set_option maxHeartbeats 20000000 in
theorem addA_4ok (us : List Value) (zb : Fz) (l : List Ev) (p : Int) (bs : List Bp) (ws : List ByteArray) (hb : bs.length ≤ 1000) (w1 : ByteArray) (hw1 : ws[1]?.getD emB = w1) (n : Int) (hat : CallsA Tryz.prog 116 [dsr w1] [] (Is (.t [.d (.u (.int .i64 n)),.d (.u (.v .nilIface))]))) (hw : ws.length = 4) (h9 : w1.size ≤ 9) (hn0 : 0 ≤ n ∧ n < 1000000000) (hi : itoaB n = w1) (zt : Fz) (hz : Tab zt) (hc : (validB (bs ++ [wordsB ws n])).1 = 0) (hnm : (wordsB ws n).nm ≠ emB) :
  CallsA Tryz.prog 100 [.d (.p 1 0),.d (.u (.sl 1 (strs ws)))] [(902,.ab [.p 1 0] us zb (· = [])),(1,.bx 120 (sesV l p bs)),(907,tbOb zt)] (Iso (dsr (addG bs ws n).1) [(902,.ab [.p 1 0] us zb (· = [])),(1,.bx 120 (sesV l p (addG bs ws n).2)),(907,tbOb zt)]) := by
 have hr0 : ∀ {K : List V → Prop} {j : Int},j = 0 → K [V.str (ws[0]?.getD emB)] → Ix (strs ws) j K := fun h k => ⟨⟨0,_,h,by unfold strs;rw [List.getElem?_map,List.getElem?_eq_getElem (show 0 < ws.length by omega)];rfl,k⟩⟩
 have hr1 : ∀ {K : List V → Prop} {j : Int},j = 1 → K [V.str (ws[1]?.getD emB)] → Ix (strs ws) j K := fun h k => ⟨⟨1,_,h,by unfold strs;rw [List.getElem?_map,List.getElem?_eq_getElem (show 1 < ws.length by omega)];rfl,k⟩⟩
 have hr2 : ∀ {K : List V → Prop} {j : Int},j = 2 → K [V.str (ws[2]?.getD emB)] → Ix (strs ws) j K := fun h k => ⟨⟨2,_,h,by unfold strs;rw [List.getElem?_map,List.getElem?_eq_getElem (show 2 < ws.length by omega)];rfl,k⟩⟩
 have hr3 : ∀ {K : List V → Prop} {j : Int},j = 3 → K [V.str (ws[3]?.getD emB)] → Ix (strs ws) j K := fun h k => ⟨⟨3,_,h,by unfold strs;rw [List.getElem?_map,List.getElem?_eq_getElem (show 3 < ws.length by omega)];rfl,k⟩⟩
 rw [hw1] at hr1
 have hit := itoa_T n (by omega) (by omega) zt hz
 have hq := toList_beq (itoaB n) w1
 rw [decide_eq_true hi] at hq
 obtain ⟨b,hbE⟩ : ∃ b,wordsB ws n = b := ⟨_,rfl⟩
 rw [hbE] at hc hnm
 have hva := validateB_T (bs ++ [b])
 have hit2 := itoa_T ((bs.map Bp.row ++ [b.row]).length : Nat) (by omega) (by simp;omega) zt hz
 have his2 := itoaB_size (n := ((bs.map Bp.row ++ [b.row]).length : Nat)) (by omega) (by simp;omega)
 have hbk : (ByteArray.mk #[98,114,101,97,107,112,111,105,110,116,32]).size = 11 := rfl
 have hrw : bks (bs ++ [b]) = .sl 4 (bs.map Bp.row ++ [b.row]) := by simp
 have hll : (bs.map Bp.row ++ [b.row]).length = (bs ++ [b]).length := by simp
 rw [hrw] at hva
 unfold addG
 rw [hbE]
 have hses : sesV l p (bs ++ [b]) = [.u (evs l),.u (.int .i64 p),.u (.sl 4 (bs.map Bp.row ++ [b.row]))] := by rw [sesV,bkV_app,hrw]
 generalize validB (bs ++ [b]) = v at *
 obtain ⟨c,ci⟩ := v
 dsimp only at hva hc ⊢
 have hwb : b = ⟨ws[0]?.getD emB,n,ws[2]?.getD emB,ws[3]?.getD emB⟩ := by rw [← hbE,wordsB,if_pos hw]
 have hlw : ((strs ws).length : Int) = 4 := by simp [hw]
 subst hwb
 clear hbE hw1
 generalize ws[0]?.getD emB = w0 at *
 generalize ws[2]?.getD emB = w2 at *
 generalize ws[3]?.getD emB = w3 at *
 have hqn := toList_beq w2 emB
 subst hc
 dsimp only at hnm
 rw [decide_eq_false hnm] at hqn
 have hcond : ¬ ((0 : Int) ≠ 0 ∨ (ws.length = 4 ∧ w2 = emB)) := by
  rintro (h | ⟨_,h⟩)
  ·omega
  ·exact hnm h
 rw [if_neg hcond]
 dsimp only
 rw [hses,← hll]
 cases bs with
 | nil =>
  have hcl : CallsA Tryz.prog 117 [.d (.u .nl)] [] (Is (.d (.u .nl))) := clone_T [] (by simp)
  refine callsA_of_vcO (T := tt) Tryz.func100 rfl rfl rfl rfl rfl ?_
  repeat' ((conv => whnf);first | refine Cat.mk (by unfold maxLen;(try simp only [ByteArray.size_append]);omega) ?_ | refine hr0 rfl ?_ | refine hr1 rfl ?_ | refine hr2 rfl ?_ | refine hr3 rfl ?_ | refine Raw.neqNil rfl (by kernel_rfl) rfl ?_ | rw [hq] | rw [hqn] | refine Gs.go (i := 11) (Ghost.frzA 60 rfl (by repeat ((conv => whnf);first | exact trivial | refine Len.mk (by first | rfl | fail) ?_))) ?_ | refine Gs.id ?_ | with_reducible refine And.intro ?_ ?_ | with_reducible refine Brn.F rfl ?_ | refine Brn.T (by (try simp only [smT]);first | rfl | omega | fail) ?_ | refine Brn.F (by (try simp only [smT]);first | rfl | omega | fail) ?_ | (refine Bnd.mk (fun hm => ?_);(try simp only [smT] at hm)) | refine Apd.mk (by first | rfl | fail) (by first | rfl | fail) (by (try simp only [smT]);first | omega | fail) (by unfold maxLen;first | (simp;done) | fail) ?_ | refine Drw.ofT (T := tt) (i := 2) [1,4] [0,2,3,5,6,7,8,9,10,11,12,13,14,15,16,17,18,19,20] (OF.fst 0 (OF.alt 1 (OF.fst 2 (OF.fst 3 (OF.fst 5 (OF.fst 6 (OF.fst 7 (OF.alt 4 (OF.fst 8 (OF.fst 9 (OF.fst 10 (OF.fst 11 (OF.fst 12 (OF.fst 13 (OF.fst 14 (OF.fst 15 (OF.fst 16 (OF.fst 17 (OF.fst 18 (OF.fst 19 (OF.fst 20 OF.nil))))))))))))) OF.nil)))))) OF.nil)) (by kernel_rfl) ?_ | refine Drw.ofT (T := tt) (i := 6) [7,9] [0,1,2,3,4,5,6,8] (OF.fst 0 (OF.fst 1 (OF.fst 2 (OF.fst 3 (OF.fst 4 (OF.fst 5 (OF.fst 6 (OF.alt 7 (OF.fst 8 (OF.alt 9 OF.nil OF.nil)) OF.nil)))))))) (by kernel_rfl) ?_ | refine Drw.ofT (T := tt) (i := 7) [3,4,5,6,7] [0,1,2,8] (OF.fst 0 (OF.fst 1 (OF.fst 2 (OF.alt 3 (OF.alt 4 (OF.alt 5 (OF.alt 6 (OF.alt 7 (OF.fst 8 OF.nil) OF.nil) OF.nil) OF.nil) (OF.alt 5 (OF.alt 4 (OF.alt 6 (OF.alt 7 (OF.fst 8 OF.nil) OF.nil) OF.nil) (OF.alt 6 (OF.alt 4 (OF.alt 7 (OF.fst 8 OF.nil) OF.nil) OF.nil) OF.nil)) OF.nil)) (OF.alt 5 (OF.alt 3 (OF.alt 4 (OF.alt 6 (OF.alt 7 (OF.fst 8 OF.nil) OF.nil) OF.nil) (OF.alt 6 (OF.alt 4 (OF.alt 7 (OF.fst 8 OF.nil) OF.nil) OF.nil) OF.nil)) (OF.alt 6 (OF.alt 3 (OF.alt 4 (OF.alt 7 (OF.fst 8 OF.nil) OF.nil) OF.nil) OF.nil) OF.nil)) OF.nil))))) (by kernel_rfl) ?_ | (refine CL.mk (Or.inl ?_);(conv => whnf);first | refine Cl.is (hat) rfl (by first | exact fun _ => rfl | fail) ?_ | refine Cl.is (hcl) rfl (by first | exact fun _ => rfl | fail) ?_ | fail) | (refine CL.mk (Or.inl ?_);(conv => whnf);refine ClO.mk (Or.inl ?_);(repeat ((conv => whnf);refine Len.mk (by first | rfl | fail) ?_));(conv => whnf);refine Cl.is (hva) rfl (by first | exact fun _ => rfl | fail) ?_) | (refine CL.mk (Or.inr (Raw.callI [907] [907] rfl rfl rfl rfl rfl rfl rfl (hit) ?_));rintro _ _ ⟨rfl,rfl⟩;refine Bk.mk rfl rfl ?_) | (refine CL.mk (Or.inr (Raw.callI [907] [907] rfl rfl rfl rfl rfl rfl rfl (hit2) ?_));rintro _ _ ⟨rfl,rfl⟩;refine Bk.mk rfl rfl ?_))
  all_goals (conv => whnf)
  all_goals first | (exfalso;simp_all;done) | (exfalso;simp at *;omega) | (refine RetO.mk ⟨[(902,.k 902),(1,.k 1),(907,.k 907)],_,_,(by first | exact LeS.d (by first | exact LeD.u rfl | fail) | fail),(by repeat (first | exact LeO.nil | refine LeO.bx rfl rfl (by repeat (first | exact LeL.nil | refine LeL.cons (by first | exact LeD.u rfl | fail) ?_)) ?_ | refine LeO.ab rfl rfl (by repeat (first | exact LeL.nil | refine LeL.cons (by first | exact LeD.p rfl | fail) ?_)) (by first | rfl | fail) ?_ | fail)),rfl,rfl⟩)
 | cons b0 r0 =>
  have hcl := cloneO_T b0 r0 (by omega)
  have hlb : (List.map Bp.row (b0 :: r0)).length = r0.length + 1 := by simp
  rw [List.length_cons] at hb
  refine callsA_of_vcO (T := tt) Tryz.func100 rfl rfl rfl rfl rfl ?_
  repeat' ((conv => whnf);first | refine Cat.mk (by unfold maxLen;(try simp only [ByteArray.size_append]);omega) ?_ | refine hr0 rfl ?_ | refine hr1 rfl ?_ | refine hr2 rfl ?_ | refine hr3 rfl ?_ | refine Raw.neqNil rfl (by kernel_rfl) rfl ?_ | rw [hq] | rw [hqn] | refine Gs.go (i := 11) (Ghost.frzA 60 rfl (by repeat ((conv => whnf);first | exact trivial | refine Len.mk (by first | rfl | fail) ?_))) ?_ | refine Gs.id ?_ | with_reducible refine And.intro ?_ ?_ | with_reducible refine Brn.F rfl ?_ | refine Brn.T (by (try simp only [smT]);first | rfl | omega | fail) ?_ | refine Brn.F (by (try simp only [smT]);first | rfl | omega | fail) ?_ | (refine Bnd.mk (fun hm => ?_);(try simp only [smT] at hm)) | refine Apd.mk (by first | rfl | simp) (by first | rfl | fail) (by (try simp only [smT]);first | omega | fail) (by unfold maxLen;first | (simp;omega) | fail) ?_ | refine Drw.ofT (T := tt) (i := 2) [1,4] [0,2,3,5,6,7,8,9,10,11,12,13,14,15,16,17,18,19,20] (OF.fst 0 (OF.alt 1 (OF.fst 2 (OF.fst 3 (OF.fst 5 (OF.fst 6 (OF.fst 7 (OF.alt 4 (OF.fst 8 (OF.fst 9 (OF.fst 10 (OF.fst 11 (OF.fst 12 (OF.fst 13 (OF.fst 14 (OF.fst 15 (OF.fst 16 (OF.fst 17 (OF.fst 18 (OF.fst 19 (OF.fst 20 OF.nil))))))))))))) OF.nil)))))) OF.nil)) (by kernel_rfl) ?_ | refine Drw.ofT (T := tt) (i := 6) [7,9] [0,1,2,3,4,5,6,8] (OF.fst 0 (OF.fst 1 (OF.fst 2 (OF.fst 3 (OF.fst 4 (OF.fst 5 (OF.fst 6 (OF.alt 7 (OF.fst 8 (OF.alt 9 OF.nil OF.nil)) OF.nil)))))))) (by kernel_rfl) ?_ | refine Drw.ofT (T := tt) (i := 7) [3,4,5,6,7] [0,1,2,8] (OF.fst 0 (OF.fst 1 (OF.fst 2 (OF.alt 3 (OF.alt 4 (OF.alt 5 (OF.alt 6 (OF.alt 7 (OF.fst 8 OF.nil) OF.nil) OF.nil) OF.nil) (OF.alt 5 (OF.alt 4 (OF.alt 6 (OF.alt 7 (OF.fst 8 OF.nil) OF.nil) OF.nil) (OF.alt 6 (OF.alt 4 (OF.alt 7 (OF.fst 8 OF.nil) OF.nil) OF.nil) OF.nil)) OF.nil)) (OF.alt 5 (OF.alt 3 (OF.alt 4 (OF.alt 6 (OF.alt 7 (OF.fst 8 OF.nil) OF.nil) OF.nil) (OF.alt 6 (OF.alt 4 (OF.alt 7 (OF.fst 8 OF.nil) OF.nil) OF.nil) OF.nil)) (OF.alt 6 (OF.alt 3 (OF.alt 4 (OF.alt 7 (OF.fst 8 OF.nil) OF.nil) OF.nil) OF.nil) OF.nil)) OF.nil))))) (by kernel_rfl) ?_ | (refine CL.mk (Or.inl ?_);(conv => whnf);first | refine Cl.is (hat) rfl (by first | exact fun _ => rfl | fail) ?_ | fail) | (refine CL.mk (Or.inl ?_);(conv => whnf);refine ClO.mk (Or.inl ?_);(repeat ((conv => whnf);refine Len.mk (by first | rfl | fail) ?_));(conv => whnf);refine Cl.is (hva) rfl (by first | exact fun _ => rfl | fail) ?_) | (refine CL.mk (Or.inr (Raw.callI [907] [907] rfl rfl rfl rfl rfl rfl rfl (hit) ?_));rintro _ _ ⟨rfl,rfl⟩;refine Bk.mk rfl rfl ?_) | (refine CL.mk (Or.inr (Raw.callI [] [930] rfl rfl rfl rfl rfl rfl rfl (hcl) ?_));rintro _ _ ⟨rfl,rfl⟩;refine Bk.mk rfl rfl ?_) | (refine CL.mk (Or.inr (Raw.callI [907] [907] rfl rfl rfl rfl rfl rfl rfl (hit2) ?_));rintro _ _ ⟨rfl,rfl⟩;refine Bk.mk rfl rfl ?_))
  all_goals (conv => whnf)
  all_goals first | (exfalso;simp_all;done) | (exfalso;simp at *;omega) | (refine RetO.mk ⟨[(902,.k 902),(1,.k 1),(907,.k 907)],_,_,(by first | exact LeS.d (by first | exact LeD.u rfl | fail) | fail),(by repeat (first | exact LeO.nil | refine LeO.bx rfl rfl (by repeat (first | exact LeL.nil | refine LeL.cons (by first | exact LeD.u rfl | fail) ?_)) ?_ | refine LeO.ab rfl rfl (by repeat (first | exact LeL.nil | refine LeL.cons (by first | exact LeD.p rfl | fail) ?_)) (by first | rfl | fail) ?_ | fail)),rfl,rfl⟩)
end Go.Proofs.YtabmcfnefjipbaaGreatDoor
namespace Go.Proofs.YtabmcfnefjipbaaGreatDoor
open Go.RowKit
set_option maxHeartbeats 20000000 in
theorem addA_4no (us : List Value) (zb : Fz) (l : List Ev) (p : Int) (bs : List Bp) (ws : List ByteArray) (hb : bs.length ≤ 1000) (w1 : ByteArray) (hw1 : ws[1]?.getD emB = w1) (n : Int) (hat : CallsA Tryz.prog 116 [dsr w1] [] (Is (.t [.d (.u (.int .i64 n)),.d (.u (.v .nilIface))]))) (hw : ws.length = 4) (h9 : w1.size ≤ 9) (hn0 : 0 ≤ n ∧ n < 1000000000) (hi : itoaB n = w1) (zt : Fz) (hz : Tab zt) (hc : (validB (bs ++ [wordsB ws n])).1 ≠ 0) :
  CallsA Tryz.prog 100 [.d (.p 1 0),.d (.u (.sl 1 (strs ws)))] [(902,.ab [.p 1 0] us zb (· = [])),(1,.bx 120 (sesV l p bs)),(907,tbOb zt)] (Iso (dsr (addG bs ws n).1) [(902,.ab [.p 1 0] us zb (· = [])),(1,.bx 120 (sesV l p (addG bs ws n).2)),(907,tbOb zt)]) := by
 have hr0 : ∀ {K : List V → Prop} {j : Int},j = 0 → K [V.str (ws[0]?.getD emB)] → Ix (strs ws) j K := fun h k => ⟨⟨0,_,h,by unfold strs;rw [List.getElem?_map,List.getElem?_eq_getElem (show 0 < ws.length by omega)];rfl,k⟩⟩
 have hr1 : ∀ {K : List V → Prop} {j : Int},j = 1 → K [V.str (ws[1]?.getD emB)] → Ix (strs ws) j K := fun h k => ⟨⟨1,_,h,by unfold strs;rw [List.getElem?_map,List.getElem?_eq_getElem (show 1 < ws.length by omega)];rfl,k⟩⟩
 have hr2 : ∀ {K : List V → Prop} {j : Int},j = 2 → K [V.str (ws[2]?.getD emB)] → Ix (strs ws) j K := fun h k => ⟨⟨2,_,h,by unfold strs;rw [List.getElem?_map,List.getElem?_eq_getElem (show 2 < ws.length by omega)];rfl,k⟩⟩
 have hr3 : ∀ {K : List V → Prop} {j : Int},j = 3 → K [V.str (ws[3]?.getD emB)] → Ix (strs ws) j K := fun h k => ⟨⟨3,_,h,by unfold strs;rw [List.getElem?_map,List.getElem?_eq_getElem (show 3 < ws.length by omega)];rfl,k⟩⟩
 rw [hw1] at hr1
 have hit := itoa_T n (by omega) (by omega) zt hz
 have hq := toList_beq (itoaB n) w1
 rw [decide_eq_true hi] at hq
 obtain ⟨b,hbE⟩ : ∃ b,wordsB ws n = b := ⟨_,rfl⟩
 rw [hbE] at hc 
 have hva := validateB_T (bs ++ [b])
 have hit2 := itoa_T ((bs.map Bp.row ++ [b.row]).length : Nat) (by omega) (by simp;omega) zt hz
 have his2 := itoaB_size (n := ((bs.map Bp.row ++ [b.row]).length : Nat)) (by omega) (by simp;omega)
 have hbk : (ByteArray.mk #[98,114,101,97,107,112,111,105,110,116,32]).size = 11 := rfl
 have hrw : bks (bs ++ [b]) = .sl 4 (bs.map Bp.row ++ [b.row]) := by simp
 have hll : (bs.map Bp.row ++ [b.row]).length = (bs ++ [b]).length := by simp
 rw [hrw] at hva
 unfold addG
 rw [hbE]
 have hses : sesV l p (bs ++ [b]) = [.u (evs l),.u (.int .i64 p),.u (.sl 4 (bs.map Bp.row ++ [b.row]))] := by rw [sesV,bkV_app,hrw]
 generalize validB (bs ++ [b]) = v at *
 obtain ⟨c,ci⟩ := v
 dsimp only at hva hc ⊢
 have hwb : b = ⟨ws[0]?.getD emB,n,ws[2]?.getD emB,ws[3]?.getD emB⟩ := by rw [← hbE,wordsB,if_pos hw]
 have hlw : ((strs ws).length : Int) = 4 := by simp [hw]
 subst hwb
 clear hbE hw1
 generalize ws[0]?.getD emB = w0 at *
 generalize ws[2]?.getD emB = w2 at *
 generalize ws[3]?.getD emB = w3 at *
 have hqn := toList_beq w2 emB
 rw [if_pos (.inl hc)]
 generalize decide (w2 = emB) = bq at *
 cases bs with
 | nil =>
  have hcl : CallsA Tryz.prog 117 [.d (.u .nl)] [] (Is (.d (.u .nl))) := clone_T [] (by simp)
  refine callsA_of_vcO (T := tt) Tryz.func100 rfl rfl rfl rfl rfl ?_
  repeat' ((conv => whnf);first | refine hr0 rfl ?_ | refine hr1 rfl ?_ | refine hr2 rfl ?_ | refine hr3 rfl ?_ | refine Raw.neqNil rfl (by kernel_rfl) rfl ?_ | rw [hq] | refine Gs.id ?_ | with_reducible refine And.intro ?_ ?_ | with_reducible refine Brn.T rfl ?_ | with_reducible refine Brn.F rfl ?_ | refine Brn.T (by (try simp only [smT]);first | rfl | assumption | omega | fail) ?_ | refine Brn.F (by (try simp only [smT]);first | rfl | omega | fail) ?_ | (refine Bnd.mk (fun hm => ?_);(try simp only [smT] at hm)) | refine Apd.mk (by first | rfl | fail) (by first | rfl | fail) (by (try simp only [smT]);first | omega | fail) (by unfold maxLen;first | (simp;done) | fail) ?_ | refine Drw.ofT (T := tt) (i := 2) [1,4] [0,2,3,5,6,7,8,9,10,11,12,13,14,15,16,17,18,19,20] (OF.fst 0 (OF.alt 1 (OF.fst 2 (OF.fst 3 (OF.fst 5 (OF.fst 6 (OF.fst 7 (OF.alt 4 (OF.fst 8 (OF.fst 9 (OF.fst 10 (OF.fst 11 (OF.fst 12 (OF.fst 13 (OF.fst 14 (OF.fst 15 (OF.fst 16 (OF.fst 17 (OF.fst 18 (OF.fst 19 (OF.fst 20 OF.nil))))))))))))) OF.nil)))))) OF.nil)) (by kernel_rfl) ?_ | refine Drw.ofT (T := tt) (i := 6) [7,9] [0,1,2,3,4,5,6,8] (OF.fst 0 (OF.fst 1 (OF.fst 2 (OF.fst 3 (OF.fst 4 (OF.fst 5 (OF.fst 6 (OF.alt 7 (OF.fst 8 (OF.alt 9 OF.nil OF.nil)) OF.nil)))))))) (by kernel_rfl) ?_ | refine Drw.ofT (T := tt) (i := 7) [3,4,5,6,7] [0,1,2,8] (OF.fst 0 (OF.fst 1 (OF.fst 2 (OF.alt 3 (OF.alt 4 (OF.alt 5 (OF.alt 6 (OF.alt 7 (OF.fst 8 OF.nil) OF.nil) OF.nil) OF.nil) (OF.alt 5 (OF.alt 4 (OF.alt 6 (OF.alt 7 (OF.fst 8 OF.nil) OF.nil) OF.nil) (OF.alt 6 (OF.alt 4 (OF.alt 7 (OF.fst 8 OF.nil) OF.nil) OF.nil) OF.nil)) OF.nil)) (OF.alt 5 (OF.alt 3 (OF.alt 4 (OF.alt 6 (OF.alt 7 (OF.fst 8 OF.nil) OF.nil) OF.nil) (OF.alt 6 (OF.alt 4 (OF.alt 7 (OF.fst 8 OF.nil) OF.nil) OF.nil) OF.nil)) (OF.alt 6 (OF.alt 3 (OF.alt 4 (OF.alt 7 (OF.fst 8 OF.nil) OF.nil) OF.nil) OF.nil) OF.nil)) OF.nil))))) (by kernel_rfl) ?_ | (refine CL.mk (Or.inl ?_);(conv => whnf);first | refine Cl.is (hat) rfl (by first | exact fun _ => rfl | fail) ?_ | refine Cl.is (hcl) rfl (by first | exact fun _ => rfl | fail) ?_ | fail) | (refine CL.mk (Or.inl ?_);(conv => whnf);refine ClO.mk (Or.inl ?_);(repeat ((conv => whnf);refine Len.mk (by first | rfl | fail) ?_));(conv => whnf);refine Cl.is (hva) rfl (by first | exact fun _ => rfl | fail) ?_) | (refine CL.mk (Or.inr (Raw.callI [907] [907] rfl rfl rfl rfl rfl rfl rfl (hit) ?_));rintro _ _ ⟨rfl,rfl⟩;refine Bk.mk rfl rfl ?_))
  all_goals (conv => whnf)
  all_goals first | (exfalso;simp_all;done) | (exfalso;simp at *;omega) | (refine RetO.mk ⟨[(902,.k 902),(1,.k 1),(907,.k 907)],_,_,(by first | exact LeS.d (by first | exact LeD.u rfl | fail) | fail),(by repeat (first | exact LeO.nil | refine LeO.bx rfl rfl (by repeat (first | exact LeL.nil | refine LeL.cons (by first | exact LeD.u rfl | fail) ?_)) ?_ | refine LeO.ab rfl rfl (by repeat (first | exact LeL.nil | refine LeL.cons (by first | exact LeD.p rfl | fail) ?_)) (by first | rfl | fail) ?_ | fail)),rfl,rfl⟩)
 | cons b0 r0 =>
  have hcl := cloneO_T b0 r0 (by omega)
  have hlb : (List.map Bp.row (b0 :: r0)).length = r0.length + 1 := by simp
  rw [List.length_cons] at hb
  refine callsA_of_vcO (T := tt) Tryz.func100 rfl rfl rfl rfl rfl ?_
  repeat' ((conv => whnf);first | refine hr0 rfl ?_ | refine hr1 rfl ?_ | refine hr2 rfl ?_ | refine hr3 rfl ?_ | refine Raw.neqNil rfl (by kernel_rfl) rfl ?_ | rw [hq] | refine Gs.id ?_ | with_reducible refine And.intro ?_ ?_ | with_reducible refine Brn.T rfl ?_ | with_reducible refine Brn.F rfl ?_ | refine Brn.T (by (try simp only [smT]);first | rfl | assumption | omega | fail) ?_ | refine Brn.F (by (try simp only [smT]);first | rfl | omega | fail) ?_ | (refine Bnd.mk (fun hm => ?_);(try simp only [smT] at hm)) | refine Apd.mk (by first | rfl | simp) (by first | rfl | fail) (by (try simp only [smT]);first | omega | fail) (by unfold maxLen;first | (simp;omega) | fail) ?_ | refine Drw.ofT (T := tt) (i := 2) [1,4] [0,2,3,5,6,7,8,9,10,11,12,13,14,15,16,17,18,19,20] (OF.fst 0 (OF.alt 1 (OF.fst 2 (OF.fst 3 (OF.fst 5 (OF.fst 6 (OF.fst 7 (OF.alt 4 (OF.fst 8 (OF.fst 9 (OF.fst 10 (OF.fst 11 (OF.fst 12 (OF.fst 13 (OF.fst 14 (OF.fst 15 (OF.fst 16 (OF.fst 17 (OF.fst 18 (OF.fst 19 (OF.fst 20 OF.nil))))))))))))) OF.nil)))))) OF.nil)) (by kernel_rfl) ?_ | refine Drw.ofT (T := tt) (i := 6) [7,9] [0,1,2,3,4,5,6,8] (OF.fst 0 (OF.fst 1 (OF.fst 2 (OF.fst 3 (OF.fst 4 (OF.fst 5 (OF.fst 6 (OF.alt 7 (OF.fst 8 (OF.alt 9 OF.nil OF.nil)) OF.nil)))))))) (by kernel_rfl) ?_ | refine Drw.ofT (T := tt) (i := 7) [3,4,5,6,7] [0,1,2,8] (OF.fst 0 (OF.fst 1 (OF.fst 2 (OF.alt 3 (OF.alt 4 (OF.alt 5 (OF.alt 6 (OF.alt 7 (OF.fst 8 OF.nil) OF.nil) OF.nil) OF.nil) (OF.alt 5 (OF.alt 4 (OF.alt 6 (OF.alt 7 (OF.fst 8 OF.nil) OF.nil) OF.nil) (OF.alt 6 (OF.alt 4 (OF.alt 7 (OF.fst 8 OF.nil) OF.nil) OF.nil) OF.nil)) OF.nil)) (OF.alt 5 (OF.alt 3 (OF.alt 4 (OF.alt 6 (OF.alt 7 (OF.fst 8 OF.nil) OF.nil) OF.nil) (OF.alt 6 (OF.alt 4 (OF.alt 7 (OF.fst 8 OF.nil) OF.nil) OF.nil) OF.nil)) (OF.alt 6 (OF.alt 3 (OF.alt 4 (OF.alt 7 (OF.fst 8 OF.nil) OF.nil) OF.nil) OF.nil) OF.nil)) OF.nil))))) (by kernel_rfl) ?_ | (refine CL.mk (Or.inl ?_);(conv => whnf);first | refine Cl.is (hat) rfl (by first | exact fun _ => rfl | fail) ?_ | fail) | (refine CL.mk (Or.inl ?_);(conv => whnf);refine ClO.mk (Or.inl ?_);(repeat ((conv => whnf);refine Len.mk (by first | rfl | fail) ?_));(conv => whnf);refine Cl.is (hva) rfl (by first | exact fun _ => rfl | fail) ?_) | (refine CL.mk (Or.inr (Raw.callI [907] [907] rfl rfl rfl rfl rfl rfl rfl (hit) ?_));rintro _ _ ⟨rfl,rfl⟩;refine Bk.mk rfl rfl ?_) | (refine CL.mk (Or.inr (Raw.callI [] [930] rfl rfl rfl rfl rfl rfl rfl (hcl) ?_));rintro _ _ ⟨rfl,rfl⟩;refine Bk.mk rfl rfl ?_))
  all_goals (conv => whnf)
  all_goals first | (exfalso;simp_all;done) | (exfalso;simp at *;omega) | (refine RetO.mk ⟨[(902,.k 902),(1,.k 1),(907,.k 907)],_,_,(by first | exact LeS.d (by first | exact LeD.u rfl | fail) | fail),(by repeat (first | exact LeO.nil | refine LeO.bx rfl rfl (by repeat (first | exact LeL.nil | refine LeL.cons (by first | exact LeD.u rfl | fail) ?_)) ?_ | refine LeO.ab rfl rfl (by repeat (first | exact LeL.nil | refine LeL.cons (by first | exact LeD.p rfl | fail) ?_)) (by first | rfl | fail) ?_ | fail)),rfl,rfl⟩)
end Go.Proofs.YtabmcfnefjipbaaGreatDoor
namespace Go.Proofs.YtabmcfnefjipbaaGreatDoor
open Go.RowKit
theorem addA_G (us : List Value) (zb : Fz) (l : List Ev) (p : Int) (bs : List Bp) (ws : List ByteArray) (hb : bs.length ≤ 1000) (w1 : ByteArray) (hw1 : ws[1]?.getD emB = w1) (n : Int) (hat : CallsA Tryz.prog 116 [dsr w1] [] (Is (.t [.d (.u (.int .i64 n)),.d (.u (.v .nilIface))]))) (hw : ws.length = 2 ∨ ws.length = 4) (h9 : w1.size ≤ 9) (hn0 : 0 ≤ n ∧ n < 1000000000) (hi : itoaB n = w1) (zt : Fz) (hz : Tab zt) :
  CallsA Tryz.prog 100 [.d (.p 1 0),.d (.u (.sl 1 (strs ws)))] [(902,.ab [.p 1 0] us zb (· = [])),(1,.bx 120 (sesV l p bs)),(907,tbOb zt)] (Iso (dsr (addG bs ws n).1) [(902,.ab [.p 1 0] us zb (· = [])),(1,.bx 120 (sesV l p (addG bs ws n).2)),(907,tbOb zt)]) := by
 by_cases hc : (validB (bs ++ [wordsB ws n])).1 = 0
 ·rcases hw with hw | hw
  ·exact addA_2ok us zb l p bs ws hb w1 hw1 n hat hw h9 hn0 hi zt hz hc
  ·by_cases hnm : (wordsB ws n).nm = emB
   ·exact addA_4nn us zb l p bs ws hb w1 hw1 n hat hw h9 hn0 hi zt hz hc hnm
   ·exact addA_4ok us zb l p bs ws hb w1 hw1 n hat hw h9 hn0 hi zt hz hc hnm
 ·rcases hw with hw | hw
  ·exact addA_2no us zb l p bs ws hb w1 hw1 n hat hw h9 hn0 hi zt hz hc
  ·exact addA_4no us zb l p bs ws hb w1 hw1 n hat hw h9 hn0 hi zt hz hc
set_option maxHeartbeats 4000000 in
theorem addA_what (us : List Value) (zb : Fz) (l : List Ev) (p : Int) (bs : List Bp) (ws : List ByteArray) (hb : bs.length ≤ 1000) (w1 : ByteArray) (hw1 : ws[1]?.getD emB = w1) (n : Int) (hat : CallsA Tryz.prog 116 [dsr w1] [] (Is (.t [.d (.u (.int .i64 n)),.d (.u (.v .nilIface))]))) (hw : ws.length = 2 ∨ ws.length = 4) (hn0 : 0 ≤ n ∧ n < 1000000000) (hi : itoaB n ≠ w1) (zt : Fz) (hz : Tab zt) :
  CallsA Tryz.prog 100 [.d (.p 1 0),.d (.u (.sl 1 (strs ws)))] [(902,.ab [.p 1 0] us zb (· = [])),(1,.bx 120 (sesV l p bs)),(907,tbOb zt)] (Iso (dsr whatB) [(902,.ab [.p 1 0] us zb (· = [])),(1,.bx 120 (sesV l p bs)),(907,tbOb zt)]) := by
 have hr1 : ∀ {K : List V → Prop} {j : Int},j = 1 → K [V.str (ws[1]?.getD emB)] → Ix (strs ws) j K := fun h k => ⟨⟨1,_,h,by unfold strs;rw [List.getElem?_map,List.getElem?_eq_getElem (show 1 < ws.length by omega)];rfl,k⟩⟩
 rw [hw1] at hr1
 have hit := itoa_T n (by omega) (by omega) zt hz
 have hq := toList_beq (itoaB n) w1
 rw [decide_eq_false hi] at hq
 refine callsA_of_vcO (T := tt) Tryz.func100 rfl rfl rfl rfl rfl ?_
 repeat' ((conv => whnf);first | refine hr1 rfl ?_ | refine Raw.neqNil rfl (by kernel_rfl) rfl ?_ | rw [hq] | refine Gs.id ?_ | with_reducible refine Brn.T rfl ?_ | with_reducible refine Brn.F rfl ?_ | refine Drw.ofT (T := tt) (i := 2) [1,4] [0,2,3,5,6,7,8,9,10,11,12,13,14,15,16,17,18,19,20] (OF.fst 0 (OF.alt 1 (OF.fst 2 (OF.fst 3 (OF.fst 5 (OF.fst 6 (OF.fst 7 (OF.alt 4 (OF.fst 8 (OF.fst 9 (OF.fst 10 (OF.fst 11 (OF.fst 12 (OF.fst 13 (OF.fst 14 (OF.fst 15 (OF.fst 16 (OF.fst 17 (OF.fst 18 (OF.fst 19 (OF.fst 20 OF.nil))))))))))))) OF.nil)))))) OF.nil)) (by kernel_rfl) ?_ | (refine CL.mk (Or.inl ?_);(conv => whnf);refine Cl.is (hat) rfl (by first | exact fun _ => rfl | fail) ?_) | (refine CL.mk (Or.inr (Raw.callI [907] [907] rfl rfl rfl rfl rfl rfl rfl (hit) ?_));rintro _ _ ⟨rfl,rfl⟩;refine Bk.mk rfl rfl ?_))
 all_goals (conv => whnf)
 all_goals refine RetO.mk ⟨[(902,.k 902),(1,.k 1),(907,.k 907)],_,_,(by first | exact LeS.d (by first | exact LeD.u rfl | fail) | fail),(by repeat (first | exact LeO.nil | refine LeO.bx rfl rfl (by repeat (first | exact LeL.nil | refine LeL.cons (by first | exact LeD.u rfl | fail) ?_)) ?_ | refine LeO.ab rfl rfl (by repeat (first | exact LeL.nil | refine LeL.cons (by first | exact LeD.p rfl | fail) ?_)) (by first | rfl | fail) ?_ | fail)),rfl,rfl⟩
def addM (bs : List Bp) (ws : List ByteArray) : ByteArray × List Bp :=
 if itoaB (numU (ws[1]?.getD emB) (ws[1]?.getD emB).size) ≠ ws[1]?.getD emB then (whatB,bs) else addG bs ws (numU (ws[1]?.getD emB) (ws[1]?.getD emB).size)
theorem addA_T (us : List Value) (zb : Fz) (l : List Ev) (p : Int) (bs : List Bp) (ws : List ByteArray) (hb : bs.length ≤ 1000) (hw : ws.length = 2 ∨ ws.length = 4) (h1 : 1 ≤ (ws[1]?.getD emB).size) (h9 : (ws[1]?.getD emB).size ≤ 9) (hd : digsB (ws[1]?.getD emB)) (zt : Fz) (hz : Tab zt) :
  CallsA Tryz.prog 100 [.d (.p 1 0),.d (.u (.sl 1 (strs ws)))] [(902,.ab [.p 1 0] us zb (· = [])),(1,.bx 120 (sesV l p bs)),(907,tbOb zt)] (Iso (dsr (addM bs ws).1) [(902,.ab [.p 1 0] us zb (· = [])),(1,.bx 120 (sesV l p (addM bs ws).2)),(907,tbOb zt)]) := by
 have hat := atoi_T _ h1 h9 hd
 have hn := numU_bd hd (ws[1]?.getD emB).size (Nat.le_refl _)
 have hp9 := pow9 h9
 have hn0 : 0 ≤ numU (ws[1]?.getD emB) (ws[1]?.getD emB).size ∧ numU (ws[1]?.getD emB) (ws[1]?.getD emB).size < 1000000000 := by omega
 by_cases hi : itoaB (numU (ws[1]?.getD emB) (ws[1]?.getD emB).size) = ws[1]?.getD emB
 ·have e : addM bs ws = addG bs ws (numU (ws[1]?.getD emB) (ws[1]?.getD emB).size) := by rw [addM,if_neg (by simpa using hi)]
  rw [e]
  exact addA_G us zb l p bs ws hb _ rfl _ hat hw h9 hn0 hi zt hz
 ·have e : addM bs ws = (whatB,bs) := by rw [addM,if_pos hi]
  rw [e]
  exact addA_what us zb l p bs ws hb _ rfl _ hat hw hn0 hi zt hz
end Go.Proofs.YtabmcfnefjipbaaGreatDoor
namespace Go.Proofs.YtabmcfnefjipbaaGreatDoor
open Go.RowKit
def isRF : Code → Bool
 | .rangeFunc _ _ _ _ => true
 | _ => false
def hasRF : Code → Bool
 | .seq a b => hasRF a || hasRF b
 | .cond _ a b => hasRF a || hasRF b
 | .block _ a => hasRF a
 | .rangeFunc _ _ _ _ => true
 | _ => false
def vcHC (P : Program) (T : List (Nat × Ty)) (nt : Nt) (Kr : Kt) (KL : Operand → Array Tmp → Code → Code → List Code → Kt) (Kn : Kt) : Nat → List Code → Kt
 | 0,_ => fun _ _ => False
 | _ + 1,[] => Kn
 | f + 1,.seq x y :: r => vcHC P T nt Kr KL Kn f (x :: y :: r)
 | f + 1,.block i y :: r => match y with
  | .rangeFunc g ps asg bd => KL g ps asg bd r
  | y => fun tm ob => bif hasRF y then vcHC P T nt Kr KL Kn f (y :: r) tm ob else vcC P T nt Kr (.block i y) (vcHC P T nt Kr KL Kn f r) (fun _ _ _ => False) tm ob
 | f + 1,.cond cn x y :: r => fun tm ob => bif hasRF x || hasRF y then (match evT tm cn with
   | some (.d (.u (.bool b))) => Brn b (vcHC P T nt Kr KL Kn f (x :: r) tm ob) (vcHC P T nt Kr KL Kn f (y :: r) tm ob)
   | _ => False) else vcC P T nt Kr (.cond cn x y) (vcHC P T nt Kr KL Kn f r) (fun _ _ _ => False) tm ob
 | f + 1,c :: r => vcC P T nt Kr c (vcHC P T nt Kr KL Kn f r) (fun _ _ _ => False)
section
variable {P : Program} {T : List (Nat × Ty)} [hT : Tys P T]
theorem vcHC_sound {n : Nat} {nd : List Deferred} {Kr : Kt} {KL : Operand → Array Tmp → Code → Code → List Code → Kt} {Kn : Kt} {c : Cx} {Q : Exit → Act → World → Prop} [PanicOk Q] (hQ : ∀ j a w,¬ Q (.exit j) a w) (hn : ∀ st tm h ρ G,Gd c st tm h ρ G → Kn st.tm st.ob → ∀ a w,Slt ⟨n,nd⟩ tm a → Hp h w → Q .normal a w) (hr : ∀ st tm h ρ G,Gd c st tm h ρ G → Kr st.tm st.ob → AWq ⟨n,nd⟩ Q .ret tm h)
  (hL : ∀ i g ps asg bd r st tm h ρ G,Gd c st tm h ρ G → KL g ps asg bd r st.tm st.ob → ∀ a w,Slt ⟨n,nd⟩ tm a → Hp h w → runs (RF none) 0 P (.block i (.rangeFunc g ps asg bd) :: r) Q a w) :
  ∀ (f : Nat) (l : List Code) (st : St) (tm : List (Nat × Value)) (h : Hs) (ρ : Rho) (G : FG),Gd c st tm h ρ G → vcHC P T ⟨n,nd⟩ Kr KL Kn f l st.tm st.ob → ∀ a w,Slt ⟨n,nd⟩ tm a → Hp h w → runs (RF none) 0 P l Q a w := by
 have gen : ∀ (f : Nat) (cd : Code) (r : List Code),(∀ (st : St) (tm : List (Nat × Value)) (h : Hs) (ρ : Rho) (G : FG),Gd c st tm h ρ G → vcHC P T ⟨n,nd⟩ Kr KL Kn f r st.tm st.ob → ∀ a w,Slt ⟨n,nd⟩ tm a → Hp h w → runs (RF none) 0 P r Q a w) → ∀ (st : St) (tm : List (Nat × Value)) (h : Hs) (ρ : Rho) (G : FG),Gd c st tm h ρ G → vcC P T ⟨n,nd⟩ Kr cd (vcHC P T ⟨n,nd⟩ Kr KL Kn f r) (fun _ _ _ => False) st.tm st.ob → ∀ a w,Slt ⟨n,nd⟩ tm a → Hp h w → runs (RF none) 0 P (cd :: r) Q a w := by
  intro f cd r ih st tm h ρ G g k a w ha hw
  refine (vcC_sound (T := T) (c := c) (nt := ⟨n,nd⟩) cd _ _ _ _ _ ρ G (Exit.then (runs (RF none) 0 P r Q) Q) (fun st tm h ρ G g k => ⟨fun a w ha hw => ih st tm h ρ G g k a w ha hw⟩) (fun _ _ _ _ _ _ _ k => k.elim) (fun st tm h ρ G g k => ⟨fun a w ha hw => (hr st tm h ρ G g k).out a w ha hw⟩) g k).out a w ha hw none
 intro f
 induction f with
 | zero => intro l st tm h ρ G g k;exact k.elim
 | succ f ih =>
  intro l st tm h ρ G g k a w ha hw
  cases l with
  | nil => exact hn st tm h ρ G g k a w ha hw
  | cons x r =>
   have gn := fun k => gen f x r (ih r) st tm h ρ G g k a w ha hw
   cases x with
   | seq x y => exact runs_seq (ih (x :: y :: r) st tm h ρ G g k a w ha hw)
   | block i y =>
    have hb : runs (RF none) 0 P (y :: r) Q a w → runs (RF none) 0 P (.block i y :: r) Q a w := fun q => wpIn_block (wpIn_mono q fun e a w q => by
     cases e with
     | exit j => exact (hQ j a w q).elim
     | _ => exact q)
    by_cases hr : isRF y = true
    ·cases y <;> first | (simp only [isRF] at hr;cases hr;done) | exact hL _ _ _ _ _ _ st tm h ρ G g k a w ha hw
    ·have k' : (bif hasRF y then vcHC P T ⟨n,nd⟩ Kr KL Kn f (y :: r) st.tm st.ob else vcC P T ⟨n,nd⟩ Kr (.block i y) (vcHC P T ⟨n,nd⟩ Kr KL Kn f r) (fun _ _ _ => False) st.tm st.ob) := by
      cases y <;> first | exact k | exact absurd rfl hr
     cases hh : hasRF y <;> rw [hh] at k'
     ·exact gn k'
     ·exact hb (ih (y :: r) st tm h ρ G g k' a w ha hw)
   | cond cn x y =>
    simp only [vcHC] at k
    cases hh : hasRF x || hasRF y <;> rw [hh] at k
    ·exact gn k
    ·simp only [cond_true] at k
     split at k
     ·rename_i b hc
      refine wpIn_cond (t := b) (ha.ev (evT_bool g hc)) ?_
      cases b
      ·exact ih (y :: r) st tm h ρ G g (k.f rfl) a w ha hw
      ·exact ih (x :: r) st tm h ρ G g (k.t rfl) a w ha hw
     ·exact k.elim
   | _ => exact gn k
end
end Go.Proofs.YtabmcfnefjipbaaGreatDoor
namespace Go.Proofs.YtabmcfnefjipbaaGreatDoor
open Go.RowKit
section
variable {P : Program} {T : List (Nat × Ty)} [hT : Tys P T]
theorem rf_wpS {n : Nat} {gop : Operand} {ps : Array Tmp} {assign body : Code} {KB : Nat → Kt} {c : Cx} {st : St} {tm : List (Nat × Value)} {h : Hs} {ρ : Rho} {G : FG} {R : Act → World → Prop} (hcG : ∀ b,c.G b → c.F b) (g : Gd c st tm h ρ G) (k : Rf P T n gop ps assign body KB st.tm st.ob)
  (hR : ∀ D c' st' tm' h' ρ' G',CxD c D c' → Gd c' st' tm' h' ρ' G' → (∃ wz,Same c.F c.w wz ∧ Mz ⟨G,wz⟩ ⟨G',h'.w0⟩) → KB D st'.tm st'.ob → ∀ a w,Slt ⟨n,[markD D]⟩ tm' a → Hp h' w → R a w) :
  ∀ a w,Slt ⟨n,[]⟩ tm a → Hp h w → (Code.rangeFunc gop ps assign body).wpIn (RF none) 0 P (onlyN R) a w := by
 intro a w ha hw0
 obtain ⟨ι,Φ,Fin,Arg,nx,S,x0,tmS,pins,src,f,ks,kp,zs,k1,kz,k2,k3,k4,k5,k6,k7,k8,k9,k10,k11⟩ := k.out
 obtain ⟨h0,hh,g⟩ := g.le k2
 have hw := hh w hw0
 clear hh hw0
 obtain ⟨ck1,ck2⟩ := chkP_ok k3
 refine wpIn_rangeFunc fun fnid _ => ?_
 obtain ⟨us0,e1,e2,e3⟩ := fnT_ev g k4
 have hev : a.eval gop = .func (.func f) #[] us0.toArray := ha.ev e1
 obtain ⟨W1,hW1⟩ : ∃ W1,(w.alloc (.deferred (some []))).alloc (.loop { state := .ready,pending := none,fn := fnid,tmps := a.tmps,params := ps,assign,body,defers := w.heap.size }) = W1 := ⟨_,rfl⟩
 obtain ⟨rec,hrec⟩ : ∃ rec : Loop,rec = { state := .ready,pending := none,fn := fnid,tmps := a.tmps,params := ps,assign,body,defers := w.heap.size } := ⟨_,rfl⟩
 have hL1 : W1.heap[w.heap.size + 1]? = some (.loop rec) := by
  rw [← hW1,hrec];have := World.alloc_heap_new (w.alloc (.deferred (some []))) (.loop { state := .ready,pending := none,fn := fnid,tmps := a.tmps,params := ps,assign,body,defers := w.heap.size });rwa [World.size_alloc] at this
 have hD1 : W1.heap[w.heap.size]? = some (.deferred (some [])) := by
  rw [← hW1];exact (Below.heap_alloc _ _ _ (by simp)).trans (World.alloc_heap_new w _)
 have hb1 : Below w.heap.size w W1 := by rw [← hW1];exact ((Below.refl _ w).alloc (Nat.le_refl _) _).alloc (by simp) _
 have hsz1 : W1.heap.size = w.heap.size + 2 := by rw [← hW1];simp
 have hold : ∀ b,b < w.heap.size → W1.heap[b]? = w.heap[b]? := fun b hb => hb1.block b hb
 have hwW : Hp h0 W1 := hw.below hb1
 obtain ⟨fn,cd,fn1,fn2,fn3⟩ := (k10 0 ⟨⟨fun _ => False,fun _ => [],fun _ => False⟩,w⟩ (fun _ _ => False) (fun x ss h1 h2 => ⟨fun F w G ρ X vs _ hf => hf.elim⟩)).fn
 have hcall : ∀ (args : Array Value) (w : World),(callFunc f args).run P w = .ok (.enter f args) w := fun args w => by
  have hnm' : ¬ fn.name = "runtime.NumGoroutine" := by simpa using fn3
  simp [callFunc,fn1,fn2,hnm']
 refine ⟨w.heap.size + 1,[markD w.heap.size],W1,{ target := .fn (.func f) us0.toArray,args := #[.func (.yield (w.heap.size + 1)) #[] #[]] },W1,f,#[.func (.yield (w.heap.size + 1)) #[] #[]] ++ us0.toArray,W1,?_,?_,fun _ _ => trivial,?_,fun h0 => (by cases h0),?_⟩
 ·rw [← hW1];exact run_enterLoop_outer _ _ _ _ _
 ·simp only [resolve,hev]
  simp [go_sem]
 ·simp [invoke,go_sem,hcall]
 ·refine calls_RF ?_
  have hzG : ∀ b,G b → b < w.heap.size := fun b hb => hw.Flt (g.gF b hb)
  let zb : Fz := ⟨⟨G.on,G.fam,fun _ => False⟩,W1⟩
  have hm1 : Mz ⟨G,h0.w0⟩ ⟨G,W1⟩ := ⟨fun _ h => h,fun b hb => (hold b (hzG b hb)).trans (hw.same.block b (g.gF b hb)),fun _ _ _ h => h⟩
  have hmz : Mz ⟨G,h0.w0⟩ zb := ⟨hm1.g,hm1.w,fun _ _ _ h => h⟩
  obtain ⟨us,u1,u2⟩ := pins_get g.tm (l := pins) fun p hp => (ck1 p hp).2.1
  have hrst : Rst zs P n rec G W1 tmS pins us tm := by
   subst hrec
   refine ⟨fun zt hzt => ?_,rfl,rfl,⟨rfl,ha.sz,ha.tm⟩,fun p hp => ?_,k3,fun k s hk hn => ?_,u2⟩
   ·obtain ⟨k,φ,hk⟩ := kz zt hzt
    obtain ⟨X,f,⟨_,hm,_⟩,_⟩ := g.ob.at_ hk
    exact hm.trans hm1
   ·have := List.all_eq_true.1 k6 p hp
    simpa using this
   ·obtain ⟨v,v1,v2⟩ := g.tm k s hk
    exact ⟨srcR src ρ,v,v1,v2.mono hm1 .refl⟩
  have hpar : rec.params = ps := by rw [hrec]
  have hY : ∀ x ss,Φ x → Arg x ss → YieldsA P (w.heap.size + 1) ss zb (rfφ (w.heap.size + 1) rec G W1 (pins.map Prod.snd) us (S x)) (rfφ (w.heap.size + 1) rec G W1 (pins.map Prod.snd) us (S (nx x ss))) := fun x ss hx ha => by
   obtain ⟨q1,q2,q3⟩ := k8 x ss hx ha
   refine round_yields (T := T) (kp := kp) hrst (by rw [hpar];exact q2) q3 (k7 _ q1) fun zb => ?_
   have := k9 x ss hx ha us zb
   rw [hrec]
   exact this
  have hc := k10 (w.heap.size + 1) zb (fun x => rfφ (w.heap.size + 1) rec G W1 (pins.map Prod.snd) us (S x)) hY
  have hwf : ∀ x,(w.heap.size + 1,x) ∉ h0.hp := fun x hx => by
   have := (hw.blk _ x hx).lt
   omega
  have hφ0 : rfφ (w.heap.size + 1) rec G W1 (pins.map Prod.snd) us (S x0) ((w.heap.size + 1,⟨0,[],.l rec⟩) :: h0.hp) := ⟨_,G.fam,h0.hp,rfl,.refl _,g.ob.mono hm1 .refl,u1.mono hm1 .refl⟩
  have hargs : (#[Value.func (.yield (w.heap.size + 1)) #[] #[]] ++ us0.toArray : Array Value) = (Value.func (.yield (w.heap.size + 1)) #[] #[] :: us0).toArray := by simp
  rw [hargs]
  have hob0 : ObsOk (srcR src ρ) ⟨⟨G.on,G.fam,fun _ => False⟩,W1⟩ [(900,.ab [] [] zb (rfφ (w.heap.size + 1) rec G W1 (pins.map Prod.snd) us (S x0)))] ((w.heap.size + 1,⟨0,[],.l rec⟩) :: h0.hp) := ⟨_,[],(List.append_nil _).symm,⟨hφ0,.refl,.nil⟩,rfl⟩
  have hout := hc.out ⟨fun b => h0.F b ∨ b = w.heap.size,W1,⟨G.on,G.fam,fun _ => False⟩⟩ (srcR src ρ) ((w.heap.size + 1,⟨0,[],.l rec⟩) :: h0.hp) (.func (.yield (w.heap.size + 1)) #[] #[] :: us0) W1
  refine (hout ⟨Same.refl _ _,fun b hb => ?_,fun b x hx => ?_,?_,fun b x hx hb => ?_⟩ (by simp [e2]) ⟨fun _ h => h,Same.refl _ _,fun b hb => .inl (g.gF b hb),fun b hb => .inl hb,.refl _,fun k s hk => ?_,hob0⟩).mono ?_
  ·rcases hb with hb | hb
   ·have := hw.Flt hb;rw [hsz1];omega
   ·rw [hsz1,hb];omega
  ·rcases List.mem_cons.1 hx with hx | hx
   ·cases hx;exact ⟨rfl,hL1⟩
   ·exact hwW.blk b x hx
  ·rw [List.map_cons,List.nodup_cons]
   exact ⟨fun hm => by obtain ⟨⟨_,x⟩,hx,hxe⟩ := List.mem_map.1 hm;dsimp only at hxe;subst hxe;exact hwf x hx,hw.nd⟩
  ·rcases List.mem_cons.1 hx with hx | hx
   ·cases hx
    rcases hb with hb | hb
    ·have := hw.Flt hb;omega
    ·omega
   ·rcases hb with hb | hb
    ·exact hw.out b x hx hb
    ·subst hb;have := (hw.blk _ x hx).lt;omega
  ·obtain ⟨q1,q2⟩ := lk_slT hk
   cases hk0 : k - 0 with
   | zero =>
    rw [hk0] at q2
    simp at q2
    subst q2
    exact ⟨_,lk_slots q1 (by rw [hk0];rfl),.d (.u (.v rfl))⟩
   | succ j =>
    rw [hk0] at q2
    have q2' : ks[j]? = some s := by simpa using q2
    have hlt : j < us0.length := by rw [e2];exact (List.getElem?_eq_some_iff.1 q2').1
    refine ⟨us0[j],lk_slots q1 (by rw [hk0];simp [List.getElem?_eq_getElem hlt]),(e3 j s _ q2' (List.getElem?_eq_getElem hlt)).nml hmz (k5 s (List.mem_of_getElem? q2'))⟩
  ·rintro e w' ⟨v,h',s,ob',ρ',G',rfl,hw',g',x,hΦ,hFin,rfl⟩
   obtain ⟨X,hp'',ee,⟨q1,q2,q3⟩,q4⟩ := g'.ob
   have q4' : hp'' = [] := q4
   subst q4'
   rw [List.append_nil] at ee
   obtain ⟨ρx,fam,X1,rfl,hfam,hobs,hpin⟩ := q1
   have hl' : w'.heap[w.heap.size + 1]? = some (.loop rec) := (hw'.blk (w.heap.size + 1) ⟨0,[],.l rec⟩ (by rw [ee];exact List.mem_cons_self)).2
   have hlt' : w.heap.size + 1 < w'.heap.size := (Array.getElem?_eq_some_iff.1 hl').1
   have hst : rec.state = .ready := by rw [hrec]
   have hpd : rec.pending = none := by rw [hrec]
   have hend := run_endLoop (P := P) hl' (by rw [hst];simp)
   rw [hpd] at hend
   refine ⟨none,_,hend,?_⟩
   obtain ⟨w4,hw4⟩ : ∃ w4,w'.putObj (w.heap.size + 1) (.loop { rec with state := .exhausted }) = w4 := ⟨_,rfl⟩
   rw [hpd] at hw4
   rw [hw4]
   have hoth : ∀ b,b ≠ w.heap.size + 1 → w4.heap[b]? = w'.heap[b]? := fun b hb => by rw [← hw4];exact World.putObj_heap_other hb
   have hsz4 : w4.heap.size = w'.heap.size := by rw [← hw4];simp
   have hkF : ∀ b,h0.F b ∨ b = w.heap.size → w4.heap[b]? = W1.heap[b]? := fun b hb => by
    have hne : b ≠ w.heap.size + 1 := by rcases hb with hb | hb;(have := hw.Flt hb;omega);(omega)
    exact (hoth b hne).trans ((hw'.same.block b (g'.fF b hb)).trans (g'.fw.block b hb))
   have hkG : ∀ b,G b → w4.heap[b]? = W1.heap[b]? := fun b hb => hkF b (.inl (g.gF b hb))
   have hlX : ∀ y,(w.heap.size + 1,y) ∉ X1 := fun y hy => by
    have hnd := hw'.nd
    rw [ee,List.map_cons,List.nodup_cons] at hnd
    exact hnd.1 (List.mem_map.2 ⟨_,hy,rfl⟩)
   have hm4 : Mz ⟨G,h0.w0⟩ ⟨⟨G.on,fam,G.own⟩,w4⟩ := ⟨fun _ h => h,fun b hb => (hkG b hb).trans (hm1.w b hb),hfam.gr⟩
   have hm5 : Mz ⟨⟨G.on,fam,G.own⟩,W1⟩ ⟨⟨G.on,fam,G.own⟩,w4⟩ := ⟨fun _ h => h,fun b hb => hkG b hb,fun _ _ _ h => h⟩
   have hncD : ¬ c.F w.heap.size := fun hb => by have := hw.Flt (g.fF _ hb);omega
   have hnd4 := hw'.nd
   rw [ee,List.map_cons,List.nodup_cons] at hnd4
   refine hR w.heap.size ⟨fun b => c.F b ∨ b = w.heap.size,w4,c.G⟩ ⟨tmS,S x⟩ tm ⟨fun b => h0.F b ∨ b = w.heap.size,w4,X1⟩ ρx ⟨G.on,fam,G.own⟩ ⟨fun b => Iff.rfl,hncD,fun hb => hncD (hcG _ hb),rfl,?_,?_⟩ ⟨fun b hb => hb.imp (g.fF b) id,Same.refl _ _,fun b hb => .inl (g.gF b hb),fun b hb => ?_,g.fm.trans hfam,fun k s hk => ?_,hobs.mono hm5 .refl⟩ ⟨h0.w0,g.fw,hm4⟩ (k11 x hΦ hFin w.heap.size) _ _ ⟨by show [markD w.heap.size] ++ a.defers = _;rw [ha.df];rfl,ha.sz,ha.tm⟩ ⟨Same.refl _ _,fun b hb => ?_,fun b y hy => ?_,hnd4.2,fun b y hy hb => ?_⟩
   ·exact (hkF _ (.inr rfl)).trans hD1
   ·have s1 : Same c.F c.w w := g.fw.trans (hw.same.mono g.fF)
    have s2 : Same c.F w W1 := Same.of_below hb1 fun b hb => hw.Flt (g.fF b hb)
    have s3 : Same c.F W1 w' := (g'.fw.trans (hw'.same.mono g'.fF)).mono fun b hb => .inl (g.fF b hb)
    have s4 : Same c.F w' w4 := by
     rw [← hw4]
     exact Same.putObj w' _ fun hb => by have := hw.Flt (g.fF _ hb);omega
    exact ((s1.trans s2).trans s3).trans s4
   ·rcases g.gx b hb with hb' | hb'
    ·exact .inl hb'
    ·refine .inr fun hq => hq.elim hb' fun e => ?_
     have := hzG b hb
     omega
   ·rcases ck2 k s hk with hn | ⟨y,rfl,hm⟩
    ·obtain ⟨v,v1,v2⟩ := g.tm k s hk
     exact ⟨v,v1,v2.nml hm4 hn⟩
    ·obtain ⟨j,hj⟩ := List.mem_iff_getElem?.1 hm
     have hj' : (pins.map Prod.snd)[j]? = some y := by rw [List.getElem?_map,hj];rfl
     obtain ⟨u,y1,y2⟩ := hpin.get hj'
     exact ⟨u,u2 j _ u hj y1,.d (y2.pin (ck1 _ hm).2.2)⟩
   ·rw [hsz4]
    rcases hb with hb | hb
    ·have := hw.Flt hb;omega
    ·omega
   ·exact (hw'.blk b y (by rw [ee];exact List.mem_cons_of_mem _ hy)).of_block (hoth b fun e => hlX y (e ▸ hy))
   ·exact hw'.out b y (by rw [ee];exact List.mem_cons_of_mem _ hy) (g'.fF b hb)
structure RfC (P : Program) (T : List (Nat × Ty)) (n : Nat) (g : Operand) (ps : Array Tmp) (assign body : Code) (KB : Nat → Kt) (tmT : List (Nat × SV)) (ob : List (Nat × Ob)) : Prop where
 out : ∃ (src : Src) (tm1 : List (Nat × SV)) (ob1 : List (Nat × Ob)) (k1 k2 : Nat) (t : TypeId) (ys : List V) (us : List Value) (zb : Fz),
  LeSt src ⟨tmT,ob⟩ ⟨tm1,(k1,.bx t (ys.map D.u)) :: (k2,.ab [.p k1 0] us zb (· = [])) :: ob1⟩ ∧
  Rf P T n g ps assign body (fun Dm tm ob => (newN k1 tm ob = true ∧ newN k2 tm ob = true) ∧ KB Dm tm ((k1,.bx t (ys.map D.u)) :: (k2,.ab [.p k1 0] us zb (· = [])) :: ob)) tm1 ob1
theorem rf_wpC {n : Nat} {gop : Operand} {ps : Array Tmp} {assign body : Code} {KB : Nat → Kt} {c : Cx} {st : St} {tm : List (Nat × Value)} {h : Hs} {ρ : Rho} {G : FG} {R : Act → World → Prop} (hcG : ∀ b,c.G b → c.F b) (g : Gd c st tm h ρ G) (k : RfC P T n gop ps assign body KB st.tm st.ob)
  (hR : ∀ D c' st' tm' h' ρ' G',CxD c D c' → Gd c' st' tm' h' ρ' G' → KB D st'.tm st'.ob → ∀ a w,Slt ⟨n,[markD D]⟩ tm' a → Hp h' w → R a w) :
  ∀ a w,Slt ⟨n,[]⟩ tm a → Hp h w → (Code.rangeFunc gop ps assign body).wpIn (RF none) 0 P (onlyN R) a w := by
 intro a w ha hw
 obtain ⟨src,tm1,ob1,k1,k2,t,ys,us,zb,hle,hrf⟩ := k.out
 obtain ⟨h0,hh,g⟩ := g.le hle
 have hw := hh w hw
 clear hh
 generalize srcR src ρ = ρ at g
 obtain ⟨F,w0,hp⟩ := h0
 obtain ⟨X1,hp1,e1,⟨b,vs,rfl,l1,l3⟩,X2,hp2,e2,⟨hX2,hzb,l4⟩,ho⟩ := g.ob
 have hX2 : X2 = [] := hX2
 subst hX2
 dsimp only at e1 e2 l1 l3 l4 hzb ho
 rw [List.nil_append] at e2
 subst e2
 have e1 : hp = [(b,⟨t,vs,(ys.map D.u).length⟩)] ++ hp1 := e1
 subst e1
 have hmb : (b,(⟨t,vs,(ys.map D.u).length⟩ : Hb)) ∈ [(b,(⟨t,vs,(ys.map D.u).length⟩ : Hb))] ++ hp1 := by simp
 have hbF : ¬ F b := hw.out b _ hmb
 have hnd := hw.nd
 rw [List.singleton_append,List.map_cons,List.nodup_cons] at hnd
 have hb1 : ∀ x,(b,x) ∉ hp1 := fun x hx => hnd.1 (List.mem_map.2 ⟨_,hx,rfl⟩)
 have hm0 : Mz ⟨G,w0⟩ ⟨G,w⟩ := ⟨fun _ h => h,fun x hx => hw.same.block x (g.gF x hx),fun _ _ _ h => h⟩
 let c1 : Cx := ⟨fun x => F x ∨ x = b,w,G⟩
 have g1 : Gd c1 ⟨tm1,ob1⟩ tm ⟨fun x => F x ∨ x = b,w,hp1⟩ ρ G := ⟨fun x hx => hx,Same.refl _ _,fun x hx => .inl (g.gF x hx),fun x hx => .inl hx,.refl _,fun j s hj => let ⟨v,v1,v2⟩ := g.tm j s hj;⟨v,v1,v2.mono hm0 .refl⟩,ho.mono hm0 .refl⟩
 have hw1 : Hp ⟨fun x => F x ∨ x = b,w,hp1⟩ w := ⟨Same.refl _ _,fun x hx => hx.elim (fun hx => hw.Flt hx) (fun e => e ▸ (hw.blk b _ hmb).lt),fun x y hx => hw.blk x y (List.mem_append_right _ hx),hnd.2,fun x y hx hq => hq.elim (hw.out x y (List.mem_append_right _ hx)) (fun e => hb1 y (e ▸ hx))⟩
 refine rf_wpS (c := c1) (fun x hx => .inl (g.gF x hx)) g1 hrf (fun Dm c' st' tm' h' ρ' G' hx g' hz hk a' w' ha' hw' => ?_) a w ha hw1
 obtain ⟨⟨n1,_⟩,hk⟩ := hk
 obtain ⟨wz,z1,z2⟩ := hz
 obtain ⟨tn1,on1⟩ := newN_tm (st := st') n1
 have hcF : ∀ x,c.F x → F x := g.fF
 have hDb : Dm ≠ b := fun e => hx.nF (.inr e)
 have hFc : ∀ x,F x → c'.F x := fun x hx' => (hx.F x).2 (.inl (.inl hx'))
 have hbc : c'.F b := (hx.F b).2 (.inl (.inr rfl))
 have hcD : ∀ x,c.F x ∨ x = Dm → c'.F x := fun x hx' => hx'.elim (fun q => hFc x (hcF x q)) (fun e => (hx.F x).2 (.inr e))
 have hGb : ¬ G b := fun q => hbF (g.gF b q)
 have hcG' : ∀ x,c'.G x → G x := fun x q => by rw [hx.G] at q;exact q
 have hG'b : ¬ G' b := fun q => (g'.gx b q).elim (fun q => hGb (hcG' b q)) fun q => q hbc
 have hmw : Mz ⟨G',h'.w0⟩ ⟨G',w'⟩ := ⟨fun _ h => h,fun x q => hw'.same.block x (g'.gF x q),fun _ _ _ h => h⟩
 have hmz : Mz ⟨G,w⟩ ⟨G',w'⟩ := by
  have q : Mz ⟨G,w⟩ ⟨G,wz⟩ := ⟨fun _ h => h,fun x q => z1.block x (.inl (g.gF x q)),fun _ _ _ h => h⟩
  exact (q.trans z2).trans hmw
 have hmz0 : Mz ⟨G,w0⟩ ⟨G',w'⟩ := hm0.trans hmz
 have hbw : w'.heap[b]? = w.heap[b]? := (hw'.same.block b (g'.fF b hbc)).trans ((g'.fw.block b hbc).trans (hx.same.block b (.inr rfl)))
 obtain ⟨L,hL,hLe⟩ : ∃ L,ρ k1 = some L ∧ ∀ L',ρ k1 = some L' → L' = L := ⟨_,l1,fun L' h => by rw [l1] at h;exact (Option.some.inj h).symm⟩
 have hu : (upd ρ' k1 L) k1 = ρ k1 := by rw [hL];simp [upd]
 refine hR Dm ⟨fun x => c.F x ∨ x = Dm,c'.w,c.G⟩ ⟨st'.tm,(k1,.bx t (ys.map D.u)) :: (k2,.ab [.p k1 0] us zb (· = [])) :: st'.ob⟩ tm' ⟨fun x => h'.F x ∧ x ≠ b,w',[(b,⟨t,vs,(ys.map D.u).length⟩)] ++ h'.hp⟩ (upd ρ' k1 L) G' ⟨fun x => Iff.rfl,fun q => hx.nF (.inl (hcF Dm q)),fun q => hx.nF (.inl (hcF Dm (hcG Dm q))),rfl,hx.df,?_⟩ ⟨fun x q => ⟨g'.fF x (hcD x q),fun e => ?_⟩,?_,fun x q => ⟨g'.gF x q,fun e => hG'b (e ▸ q)⟩,fun x q => ?_,?_,fun j s hj => ?_,?_⟩ hk a' w' ha' ⟨Same.refl _ _,fun x q => hw'.Flt q.1,fun x y q => ?_,?_,fun x y q hq => ?_⟩
 ·exact (g.fw.trans (hw.same.mono hcF)).trans (hx.same.mono fun x q => .inl (hcF x q))
 ·subst e
  rcases q with q | q
  ·exact hbF (hcF _ q)
  ·exact hDb q.symm
 ·exact (g'.fw.mono fun x q => hcD x q).trans (hw'.same.mono fun x q => g'.fF x (hcD x q))
 ·rcases g'.gx x q with q1 | q1
  ·have q2 := hcG' x q1
   rcases g.gx x q2 with r | r
   ·exact .inl r
   ·exact .inr fun s => s.elim r fun e => hx.nF (e ▸ .inl (g.gF x q2))
  ·exact .inr fun s => q1 (hcD x s)
 ·have q := g'.fm
  rw [hx.G] at q
  exact g.fm.trans q
 ·obtain ⟨v,v1,v2⟩ := g'.tm j s hj
  exact ⟨v,v1,(v2.mono hmw .refl).upd (hasTm_get tn1 j s hj)⟩
 ·refine ⟨[(b,⟨t,vs,(ys.map D.u).length⟩)],h'.hp,rfl,⟨b,vs,rfl,hu.trans l1,l3.len,l3.one,fun j d u e1 e2 => ?_⟩,[],h'.hp,rfl,⟨rfl,hzb.trans hmz0,l4.len,l4.one,fun j d u e1 e2 => ?_⟩,(g'.ob.mono hmw .refl).upd on1⟩
  ·have q := l3.den j d u e1 e2
   rw [List.getElem?_map] at e1
   cases hy : ys[j]? with
   | none => rw [hy] at e1;cases e1
   | some y =>
    rw [hy] at e1
    injection e1 with e1
    subst e1
    cases q with | u q => exact .u (q.mono hmz0)
  ·have q := l4.den j d u e1 e2
   have hd : d = .p k1 0 := by
    cases j with
    | zero => simpa using e1.symm
    | succ j => simp at e1
   subst hd
   cases q with | p q => exact .p (by rw [hu];exact q)
 ·rcases List.mem_append.1 q with q | q
  ·simp only [List.mem_cons,List.not_mem_nil,or_false,Prod.mk.injEq] at q
   obtain ⟨rfl,rfl⟩ := q
   exact (hw.blk _ _ hmb).of_block hbw
  ·exact hw'.blk x y q
 ·rw [List.singleton_append,List.map_cons,List.nodup_cons]
  refine ⟨fun q => ?_,hw'.nd⟩
  obtain ⟨p,q1,q2⟩ := List.mem_map.1 q
  exact hw'.out p.1 p.2 q1 (q2 ▸ g'.fF b hbc)
 ·rcases List.mem_append.1 q with q | q
  ·simp only [List.mem_cons,List.not_mem_nil,or_false,Prod.mk.injEq] at q
   exact hq.2 q.1
  ·exact hw'.out x y q hq.1
theorem callsA_of_rdK {n : Nat} {f : FuncId} {fn : Func} {cd : Code} {ss : List SV} {ob : List (Nat × Ob)} {Q : SV → List (Nat × Ob) → Prop} (Kr : Kt) (hK : KrOk P fn Kr Q) (hf : P.funcs[f]? = some fn) (hb : fn.body = some cd) (hnm : (fn.name == "runtime.NumGoroutine") = false) (hn : fn.ntmps = n) (hv : Nat.ble ss.length n = true)
  (k : vcHC P T ⟨n,[]⟩ Kr (fun g ps asg bd r => RfC P T n g ps asg bd fun D => vcHL P T ⟨n,[markD D]⟩ Kr (fun _ _ _ _ _ _ _ => False) Kr 1000 r) Kr 1000 [cd] (slT 0 ss) ob) : CallsA P f ss ob Q := by
 refine ⟨⟨fn,cd,hf,hb,hnm⟩,fun c ρ hp vs w hw hl g => ?_⟩
 have hcG : ∀ b,c.G b → c.F b := g.gF
 have hle : vs.length ≤ n := by rw [hl];simpa using hv
 refine (callsIn_wide (n := 0)).1 (show CallsIn (RF none) 0 P f vs.toArray w (Ans c Q) from ?_)
 refine callsIn_of_wp_marks hf hb trivial ?_
 have hs : Slt ⟨n,[]⟩ (slots 0 vs) { tmps := vs.toArray ++ Array.replicate (fn.ntmps - vs.toArray.size) undef,defers := [] } := by
  refine ⟨rfl,?_,?_⟩
  ·simp [hn];omega
  ·intro j v hj
   obtain ⟨_,h2⟩ := slots_lk vs 0 j v hj
   have hlt : j < vs.length := by
    rcases Nat.lt_or_ge j vs.length with h' | h'
    ·exact h'
    ·rw [Nat.sub_zero,List.getElem?_eq_none h'] at h2;cases h2
   rw [Nat.sub_zero] at h2
   simp [hlt,hn] at h2 ⊢
   rw [← h2]
   simp [Array.getElem?_append,hlt]
 have hend : ∀ st tm h ρ G,Gd c st tm h ρ G → Kr st.tm st.ob → ∀ a w,Slt ⟨n,[]⟩ tm a → Hp h w → LeavesInM (RF none) 0 P fn a.tmps (Ans c Q) a.defers .returning w := fun st tm h ρ G g k a w ha hw => by
  obtain ⟨q1,q2⟩ := hK.out ⟨n,[]⟩ c st tm h ρ G g k a w ha hw
  rw [q1]
  exact q2
 have hrun := vcHC_sound (fun _ _ _ h => h) (T := T) (n := n) (nd := []) (Q := bodyQ P fn (Ans c Q)) (Kn := Kr) (Kr := Kr) (c := c) hend (fun st tm h ρ G g k => ⟨hend st tm h ρ G g k⟩) (fun i g0 ps asg bd r st tm h ρ G g k a w ha hw => ?_) 1000 [cd] ⟨slT 0 ss,ob⟩ (slots 0 vs) _ ρ c.G g k _ w hs hw
 ·refine wpIn_mono hrun fun e a w hq => ?_
  cases e with
  | normal => exact hq
  | ret => exact hq
  | _ => exact hq.elim
 ·refine wpIn_block (wpIn_mono (rf_wpC (T := T) (R := runs (RF none) 0 P r (bodyQ P fn (Ans c Q))) hcG g k (fun D c' st' tm' h' ρ' G' hx g' k' a w ha hw => ?_) a w ha hw) fun e a w hq => ?_)
  ·exact vcHL_sound (T := T) (n := n) (nd := [markD D]) (Q := bodyQ P fn (Ans c Q)) (Kn := Kr) (Kr := Kr) (c := c') (fun st tm h ρ G g k a w ha hw => leave_mark hK hx g k a w ha hw) (fun st tm h ρ G g k => ⟨fun a w ha hw => leave_mark hK hx g k a w ha hw⟩) (fun _ _ _ _ _ _ _ _ _ _ _ _ k => k.elim) 1000 r st' tm' h' ρ' G' g' k' a w ha hw
  ·cases e with
   | normal => exact hq
   | _ => exact hq.elim
theorem callsA_of_rdO {n : Nat} {f : FuncId} {fn : Func} {cd : Code} {ss : List SV} {ob : List (Nat × Ob)} {Q : SV → List (Nat × Ob) → Prop} {rs : List ResultVar} (hf : P.funcs[f]? = some fn) (hb : fn.body = some cd) (hnm : (fn.name == "runtime.NumGoroutine") = false) (hn : fn.ntmps = n) (hrs : fn.results.toList = rs) (hv : Nat.ble ss.length n = true)
  (k : vcHC P T ⟨n,[]⟩ (RetKO T rs Q) (fun g ps asg bd r => RfC P T n g ps asg bd fun D => vcHL P T ⟨n,[markD D]⟩ (RetKO T rs Q) (fun _ _ _ _ _ _ _ => False) (RetKO T rs Q) 1000 r) (RetKO T rs Q) 1000 [cd] (slT 0 ss) ob) : CallsA P f ss ob Q := by
 subst hrs
 exact callsA_of_rdK _ ⟨fun nt c st tm h ρ G g k => RetKO_ok g k⟩ hf hb hnm hn hv k
end
end Go.Proofs.YtabmcfnefjipbaaGreatDoor
namespace Go.Proofs.YtabmcfnefjipbaaGreatDoor
open Go.RowKit
def NorP : Ob → Prop
 | .bx _ cs => ∀ x ∈ cs,norD x = true
 | .ar _ _ _ => True
 | .fm _ rs => ∀ row ∈ rs,∀ e ∈ row,∃ x,e = .v x
 | .mp _ _ _ => True
 | .fa _ _ _ => False
 | .ab cs _ _ _ => ∀ x ∈ cs,norD x = true
section
variable {ρ ρ' : Rho} {z : Fz}
theorem ObsOk.norP (e : ∀ k,ρ' k = ρ k) : ∀ {ob : List (Nat × Ob)} {hp : List (Nat × Hb)},(∀ p ∈ ob,NorP p.2) → ObsOk ρ z ob hp → ObsOk ρ' z ob hp
 | [],_,_,h => h
 | (k,.bx t cs) :: r,_,ho,⟨X,hp',h1,⟨b,us,h2,h3,h4⟩,h5⟩ => ⟨X,hp',h1,⟨b,us,h2,by rw [e];exact h3,h4.nor e (ho (k,.bx t cs) (by simp))⟩,h5.norP e fun p hp => ho p (by simp [hp])⟩
 | (k,.ar t sz rs) :: r,_,ho,⟨X,hp',h1,⟨A,c,us,h2,h3,h4⟩,h5⟩ => ⟨X,hp',h1,⟨A,c,us,h2,by rw [e];exact h3,h4⟩,h5.norP e fun p hp => ho p (by simp [hp])⟩
 | (k,.fm t rs) :: r,_,ho,⟨X,hp',h1,⟨h2,h3⟩,h5⟩ => ⟨X,hp',h1,⟨h2.nor (ho (k,.fm t rs) (by simp)),h3⟩,h5.norP e fun p hp => ho p (by simp [hp])⟩
 | (k,.mp kg vg es) :: r,_,ho,⟨X,hp',h1,⟨b,vs,h2,h3,h4⟩,h5⟩ => ⟨X,hp',h1,⟨b,vs,h2,by rw [e];exact h3,h4⟩,h5.norP e fun p hp => ho p (by simp [hp])⟩
 | (k,.fa t sz rs) :: r,_,ho,_ => (ho (k,.fa t sz rs) (by simp) : False).elim
 | (k,.ab cs us zb φ) :: r,_,ho,⟨X,hp',h1,⟨h2,h3,h4⟩,h5⟩ => ⟨X,hp',h1,⟨h2,h3,h4.nor e (ho (k,.ab cs us zb φ) (by simp))⟩,h5.norP e fun p hp => ho p (by simp [hp])⟩
end
theorem CallsP.ofP {P : Program} {f : FuncId} {ss : List SV} {obP ob0 : List (Nat × Ob)} {s0 : SV} (K : Nat) (ks : List Nat) (hs : NorS s0) (ho : ∀ p ∈ ob0,NorP p.2) (hb : ∀ k ∈ ks,∃ t cs t' cs',lk k obP = some (.bx t cs) ∧ lk k ob0 = some (.bx t' cs') ∧ cs.length = cs'.length)
  (h : ∀ us zb,CallsA P f ss ((K,.ab (ks.map fun k => .p k 0) us zb (· = [])) :: obP) (Iso s0 ((K,.ab (ks.map fun k => .p k 0) us zb (· = [])) :: ob0))) : CallsP P f ss obP ks (Iso s0 ob0) := by
 refine ⟨(h [] ⟨⟨fun _ => False,fun _ => [],fun _ => False⟩,⟨#[],fun _ _ => 0,0,default,#[]⟩⟩).fn,fun c ρ hp vs w hw hl g => ?_⟩
 have hpin : ∀ l : List Nat,(∀ k ∈ l,k ∈ ks) → ∃ us : List Value,DenL ρ ⟨c.G,c.w⟩ (l.map fun k => D.p k 0) us := by
  intro l
  induction l with
  | nil => exact fun _ => ⟨[],.nil⟩
  | cons k r ih =>
   intro hm
   obtain ⟨us,hus⟩ := ih fun j hj => hm j (by simp [hj])
   obtain ⟨t,cs,t',cs',q1,_,_⟩ := hb k (hm k (by simp))
   obtain ⟨b,hb1⟩ := g.ob.bx q1
   exact ⟨_ :: us,hus.cons (.p hb1)⟩
 obtain ⟨us,hus⟩ := hpin ks fun _ h => h
 refine ((h us ⟨c.G,c.w⟩).out c ρ hp vs w hw hl ⟨g.fF,g.fw,g.gF,g.gx,g.fm,g.tm,⟨[],hp,rfl,⟨rfl,.refl,hus⟩,g.ob⟩⟩).mono ?_
 rintro e w' ⟨v,h',s,ob',ρ',G',rfl,hw',g',rfl,rfl⟩
 obtain ⟨X,hp',e1,⟨e2,e3,e4⟩,e5⟩ := g'.ob
 have e2' : X = [] := e2
 subst e2'
 have hloc : ∀ k,inN ks k = true → ρ' k = ρ k := fun k hk => by
  have hm : k ∈ ks := mem_inN hk
  obtain ⟨t,cs,t',cs',q1,q2,q3⟩ := hb k hm
  obtain ⟨b,b1⟩ := g.ob.bx q1
  obtain ⟨b',b2⟩ := e5.bx q2
  obtain ⟨j,hj⟩ := List.mem_iff_getElem?.1 hm
  have hj' : (ks.map fun k => D.p k 0)[j]? = some (.p k 0) := by rw [List.getElem?_map,hj];rfl
  obtain ⟨u,u1,u2⟩ := e4.get hj'
  have u3 := hus.den j _ u hj' u1
  cases u2 with | p z1 =>
  cases u3 with | p z2 =>
  rw [b2] at z1
  rw [b1] at z2
  injection z1 with z1;injection z1 with z1 _ _;injection z1 with z1;injection z1 with z1 _ _
  injection z2 with z2;injection z2 with z2 _ _;injection z2 with z2;injection z2 with z2 _ _
  rw [b1,b2,z1,z2,q3]
 have hee : ∀ k,(⟨ρ'.loc,fun k => if inN ks k = true then ρ.os k else ρ'.os k⟩ : Rho) k = ρ' k := fun _ => rfl
 refine ⟨v,h',s,ob0,⟨ρ'.loc,fun k => if inN ks k = true then ρ.os k else ρ'.os k⟩,G',rfl,hw',⟨g'.fF,g'.fw,g'.gF,g'.gx,g'.fm,fun k s' hk => ?_,?_⟩,⟨rfl,rfl⟩,fun k hk => ⟨hloc k hk,if_pos hk⟩⟩
 ·obtain ⟨u,u1,u2⟩ := g'.tm k s' hk
  refine ⟨u,u1,u2.nor hee ?_⟩
  simp only [lk] at hk
  cases hk0 : Nat.beq k 0 <;> rw [hk0] at hk
  ·cases hk
  ·simp only [cond_true,Option.some.injEq] at hk
   rw [← hk];exact hs
 ·rw [e1]
  exact e5.norP hee ho
end Go.Proofs.YtabmcfnefjipbaaGreatDoor
namespace Go.Proofs.YtabmcfnefjipbaaGreatDoor
open Go.RowKit
theorem dottedD_size {s : ByteArray} (h : dottedM s = true) : s.size ≤ 60 := by
 unfold dottedM at h
 grind
theorem nameD_size {s : ByteArray} (h : nameB s = true) : s.size ≤ 24 := by
 unfold nameB at h
 simp only [Bool.and_eq_true,decide_eq_true_eq] at h
 omega
structure PcOk (a : Pc) : Prop where
 md : a.md.size ≤ 60
 fn : a.fn.size ≤ 24
 lo : 0 ≤ a.line
 hi : a.line ≤ 9223372036854775807
theorem avAt_ok {l : List Ev} (hv : Vd l) (hn : ∀ e ∈ l,e.line ≤ 9223372036854775807) {q : Nat} : ∀ i,i ≤ l.length → ∀ a ∈ avAt l q i,PcOk a.pc
 | 0,_,a,h => by simp [avAt] at h
 | i + 1,hi,a,h => by
  have he : l[i]? = some l[i] := List.getElem?_eq_getElem (by omega)
  have ok := hv.ok he
  have hm := hn l[i] (List.getElem_mem (by omega))
  have ih := avAt_ok hv hn (q := q) i (by omega)
  have h1 := dottedD_size ok.name.1
  have h2 := nameD_size ok.name.2
  have h3 := ok.line
  rw [avAt_succ he] at h
  unfold stepV at h
  split at h
  ·rcases List.mem_append.1 h with h | h
   ·exact ih a h
   ·simp at h;subst h;exact ⟨h1,h2,h3,hm⟩
  ·split at h
   ·unfold setAv at h
    split at h
    ·rename_i b hb
     rcases List.mem_append.1 h with h | h
     ·exact ih a (List.dropLast_subset _ h)
     ·simp at h
      subst h
      have := ih b (List.mem_of_getLast? hb)
      exact ⟨this.md,this.fn,h3,hm⟩
    ·exact ih a h
   ·split at h
    ·exact ih a (List.dropLast_subset _ h)
    ·exact ih a h
theorem activeM_ok {l : List Ev} (hv : Vd l) (hn : ∀ e ∈ l,e.line ≤ 9223372036854775807) {p : Int} (hp : -1 ≤ p ∧ p ≤ (l.length : Int)) : ∀ a ∈ (activeM l p).map Av.pc,PcOk a := by
 intro a h
 obtain ⟨b,hb,rfl⟩ := List.mem_map.1 h
 unfold activeM at hb
 split at hb
 ·cases hb
 ·exact avAt_ok hv hn _ (by omega) b hb
theorem whereB_size {a : Pc} (h : PcOk a) : (whereB a).size ≤ 110 := by
 have := itoaB_size (n := a.line) (by have := h.lo;omega) h.hi
 have h1 : (ByteArray.mk #[58]).size = 1 := rfl
 have h2 : (ByteArray.mk #[32]).size = 1 := rfl
 have := h.md
 have := h.fn
 simp only [whereB,ByteArray.size_append]
 omega
theorem total_leD {l : List ByteArray} {sep : ByteArray} {m : Nat} (h : ∀ x ∈ l,x.size ≤ m) : ∀ n,total l sep n ≤ n * (sep.size + m)
 | 0 => by simp [total]
 | n + 1 => by
  have ih := total_leD (sep := sep) h n
  have hx : (l[n]?.getD (ByteArray.mk #[])).size ≤ m := by
   cases hn : l[n]? with
   | none => exact Nat.zero_le _
   | some x => exact h x (List.mem_of_getElem? hn)
  rw [total,Nat.add_mul]
  omega
theorem cutR_size (c : ByteArray) : (cutR' c).size ≤ c.size := by
 unfold cutR'
 split
 ·simp
 ·exact Nat.zero_le _
theorem add_P (l : List Ev) (p : Int) (bs : List Bp) (ws : List ByteArray) (hb : bs.length ≤ 1000) (hw : ws.length = 2 ∨ ws.length = 4) (h1 : 1 ≤ (ws[1]?.getD emB).size) (h9 : (ws[1]?.getD emB).size ≤ 9) (hd : digsB (ws[1]?.getD emB)) (zt : Fz) (hz : Tab zt) :
  CallsP Tryz.prog 100 [.d (.p 1 0),.d (.u (.sl 1 (strs ws)))] [(1,.bx 120 (sesV l p bs)),(907,tbOb zt)] [1] (Iso (dsr (addM bs ws).1) [(1,.bx 120 (sesV l p (addM bs ws).2)),(907,tbOb zt)]) := by
 refine .ofP 902 [1] rfl (fun p hp => ?_) (fun j hj => ?_) fun us zb => addA_T us zb l p bs ws hb hw h1 h9 hd zt hz
 ·simp only [List.mem_cons,List.not_mem_nil,or_false] at hp
  rcases hp with rfl | rfl
  ·simp [NorP,norD]
  ·simp [NorP]
 ·simp only [List.mem_cons,List.not_mem_nil,or_false] at hj
  subst hj
  exact ⟨_,_,_,_,rfl,rfl,rfl⟩
end Go.Proofs.YtabmcfnefjipbaaGreatDoor
namespace Go.Proofs.YtabmcfnefjipbaaGreatDoor
open Go.RowKit
abbrev startB : ByteArray := ByteArray.mk #[115,116,97,114,116]
abbrev endB : ByteArray := ByteArray.mk #[101,110,100]
abbrev clearedB : ByteArray := ByteArray.mk #[99,108,101,97,114,101,100]
abbrev clearK : ByteArray := ByteArray.mk #[99,108,101,97,114]
abbrev whereK : ByteArray := ByteArray.mk #[119,104,101,114,101]
abbrev breakK : ByteArray := ByteArray.mk #[98,114,101,97,107]
abbrev nowhereB : ByteArray := ByteArray.mk #[110,111,119,104,101,114,101]
abbrev unknownB : ByteArray := ByteArray.mk #[117,110,107,110,111,119,110]
abbrev semiSp : ByteArray := ByteArray.mk #[59,32]
structure Ses where
 p : Int
 bs : List Bp
def evP (e : Ev) : Pc := ⟨e.md,e.fn,e.line⟩
def atB (l : List Ev) (q : Int) : ByteArray := if q = -1 then startB else if q = (l.length : Int) then endB else match l[q.toNat]? with
 | some e => whereB (evP e)
 | none => endB
def whereL (ps : List Pc) : ByteArray := if ps = [] then nowhereB else joinB (ps.reverse.map whereB) semiSp (ps.reverse.map whereB).length
def doM (l : List Ev) (s : Ses) (c : ByteArray) : ByteArray × Ses :=
 match cmdM (depM l s.p) s.bs c with
 | some (st,g) => (atB l (mvM g l st (s.p + st)),⟨mvM g l st (s.p + st),s.bs⟩)
 | none =>
  if c = clearK then (clearedB,⟨s.p,[]⟩)
  else if c = whereK then (whereL ((activeM l s.p).map Av.pc),s)
  else if cutW c = breakK ∧ ((spN 3 (cutR' c)).length = 2 ∨ (spN 3 (cutR' c)).length = 4) then ((addM s.bs (spN 3 (cutR' c))).1,⟨s.p,(addM s.bs (spN 3 (cutR' c))).2⟩)
  else if isShow c = true then ((if (showM l s.p (cutR' c)).isSome = true ∧ nameB (cutR' c) = true then (showM l s.p (cutR' c)).getD emB else unknownB),s)
  else (whatB,s)
def accW (ps : List Pc) (i : Nat) : List ByteArray := (ps.reverse.map whereB).take i
abbrev whOb (zt : Fz) (ps : List Pc) (i : Nat) : List (Nat × Ob) := [(12,.bx 23 [.ow 901 (accW ps i).length]),(901,.ar 9 1 (strs (accW ps i))),(907,tbOb zt)]
theorem whOb_mf (zt : Fz) (ps : List Pc) (i : Nat) : MfObsZ [zt] (whOb zt ps i) := by
 intro p hp
 simp only [List.mem_cons,List.not_mem_nil,or_false] at hp
 rcases hp with rfl | rfl | rfl
 ·exact .inl (by simp [MfOb,mfD])
 ·refine .inl fun r hr x hx => ?_
  unfold strs at hr
  obtain ⟨s,_,rfl⟩ := List.mem_map.1 hr
  simp at hx
  subst hx
  rfl
 ·exact .inr ⟨zt,_,rfl,by simp⟩
theorem accW_succ {ps : List Pc} {i : Nat} {q : Pc} (hi : i < ps.length) (h : ps[ps.length - 1 - i]? = some q) : accW ps (i + 1) = accW ps i ++ [whereB q] := by
 unfold accW
 rw [List.take_add_one,List.getElem?_map,List.getElem?_reverse (by omega),h]
 rfl
theorem bwSS_nm (n i : Nat) (q : Pc) : ∀ s ∈ bwSS n i q,NmS s := by
 intro s hs
 simp only [List.mem_cons,List.not_mem_nil,or_false] at hs
 rcases hs with rfl | rfl
 ·exact ⟨_,rfl,.int⟩
 ·intro x hx
  simp only [List.mem_cons,List.not_mem_nil,or_false] at hx
  rcases hx with rfl | rfl | rfl
  ·exact ⟨_,rfl,.str⟩
  ·exact ⟨_,rfl,.str⟩
  ·exact ⟨_,rfl,.int⟩
theorem mvM_rng {g : Ev → Bool} {l : List Ev} {s : Int} (hs : s = 1 ∨ s = -1) : ∀ (n : Nat) (p : Int),muM l s p ≤ n → -1 ≤ mvM g l s p ∧ mvM g l s p ≤ (l.length : Int)
 | n,p,h => by
  by_cases hp : 0 ≤ p ∧ p < (l.length : Int)
  ·obtain ⟨i,rfl⟩ : ∃ i : Nat,p = i := ⟨p.toNat,by omega⟩
   have hi : i < l.length := by omega
   have hlt := muM_lt (l := l) hs i hi
   rw [mvM_in hs i l[i] (List.getElem?_eq_getElem hi)]
   split
   ·omega
   ·cases n with
    | zero => omega
    | succ n => exact mvM_rng hs n _ (by omega)
  ·rw [mvM_out p hp,clampM]
   omega
end Go.Proofs.YtabmcfnefjipbaaGreatDoor
namespace Go.Proofs.YtabmcfnefjipbaaGreatDoor
open Go.RowKit
set_option maxHeartbeats 8000000 in
theorem doA_some (us : List Value) (zb : Fz) {l : List Ev} (hv : Vd l) (hL : l.length ≤ 20000) (he : ∀ e ∈ l,e.locs.length ≤ 9000000000) (hn : ∀ e ∈ l,e.line ≤ 9223372036854775807) (p : Int) (hp : -1 ≤ p ∧ p ≤ (l.length : Int)) (bs : List Bp) (hb : bs.length ≤ 1000) (c : ByteArray) (hc : c.size ≤ 4000) (zt : Fz) (hz : Tab zt) {s : Int} {g : Ev → Bool} (hcm : cmdM (depM l p) bs c = some (s,g)) :
  CallsA Tryz.prog 65 [.d (.p 1 0),dsr c] [(902,.ab [.p 1 0] us zb (· = [])),(1,.bx 120 (sesV l p bs)),(907,tbOb zt)] (Iso (dsr (atB l (mvM g l s (p + s)))) [(902,.ab [.p 1 0] us zb (· = [])),(1,.bx 120 (sesV l (mvM g l s (p + s)) (bs))),(907,tbOb zt)]) := by
 have hcut := cutJ_T c (by omega)
 have hmo : CallsA Tryz.prog 54 [.d (.u (evs l)),.d (.u (bkV bs)),di p] [] (Iso (.d (.mp 920)) [(920,.mp false true (motE (depM l p) (bkV bs)))]) := by
  cases bs with
  | nil => exact motions0_T l p hp
  | cons b r => exact motions_T l (b :: r) p hp
 have hmk : ∀ e ∈ l,CallsA Tryz.prog 89 [.a e.ds,.d (.q [bkV bs] 0)] [] (Is (db (bs.any (hitB e)))) := by
  intro e q
  cases bs with
  | nil => exact mrk0_T e (he e q)
  | cons b r => exact mrk_T (b :: r) e (he e q) (by omega)
 obtain ⟨m1,m2⟩ := motE_get (depM l p) (bkV bs) c zMot
 have hok := motE_ok (depM l p) (bkV bs)
 obtain ⟨fv,q1,q2,q3⟩ := cmd_move hp hL hmk hcm
 rw [q1] at m1 m2
 have hrg := mvM_rng (g := g) (l := l) q2 (muM l s (p + s)) (p + s) (Nat.le_refl _)
 generalize mvM g l s (p + s) = q at *
 clear hmk hcm
 refine callsA_of_rdO (T := tt) Tryz.func65 rfl rfl rfl rfl rfl ?_
 refine' cutR (fun _ : Unit => True) (fun _ => ⟨[(0,.d (.p 1 0)),(1,dsr c),(8,.d (.p 8 0)),(9,db true)],[(902,.ab [.p 1 0] us zb (· = [])),(1,.bx 120 (sesV l p bs)),(8,.bx 105 [.u (.int .i64 s),.u fv]),(907,tbOb zt)]⟩) _ (fun hR => ?_) ?_
 rotate_left
 ·repeat' ((conv => whnf);first | refine Mlk.of [.int .i64 s,fv] true (by kernel_rfl) hok m1 m2 ?_ | (exact Gs.cut (i := 3) (by assumption) () [(902,.k 902),(1,.k 1),(8,.k 8),(907,.k 907)] rfl ⟨by (try dsimp only);(repeat (refine LeT.cons rfl (by first | exact LeS.d (by first | exact LeD.u rfl | exact LeD.p rfl | fail) | fail) ?_));(first | exact LeT.nil | fail),by (try dsimp only);(repeat (first | exact LeO.nil | refine LeO.bx rfl rfl (by repeat (first | exact LeL.nil | refine LeL.cons (by first | exact LeD.u rfl | fail) ?_)) ?_ | refine LeO.ab rfl rfl (by repeat (first | exact LeL.nil | refine LeL.cons (by first | exact LeD.p rfl | fail) ?_)) (by first | rfl | fail) ?_ | fail));done⟩ (by trivial)) | refine Gs.id ?_ | with_reducible refine And.intro ?_ ?_ | refine Drw.ofT (T := tt) (i := 2) [3,7,11,12,14,18,19] [0,1,2,4,5,6,8,9,10,13,15,16,17,20] (OF.fst 0 (OF.fst 1 (OF.fst 2 (OF.fst 4 (OF.fst 5 (OF.fst 6 (OF.fst 8 (OF.fst 9 (OF.fst 10 (OF.fst 13 (OF.alt 3 (OF.alt 7 (OF.alt 11 (OF.alt 12 (OF.alt 14 (OF.fst 15 (OF.fst 16 (OF.fst 17 (OF.alt 18 (OF.alt 19 (OF.fst 20 OF.nil) OF.nil) OF.nil)))) (OF.alt 18 (OF.alt 14 (OF.fst 15 (OF.fst 16 (OF.fst 17 (OF.alt 19 (OF.fst 20 OF.nil) OF.nil)))) OF.nil) OF.nil)) (OF.alt 18 (OF.alt 12 (OF.alt 14 (OF.fst 15 (OF.fst 16 (OF.fst 17 (OF.alt 19 (OF.fst 20 OF.nil) OF.nil)))) OF.nil) OF.nil) OF.nil)) (OF.alt 18 (OF.alt 11 (OF.alt 12 (OF.alt 14 (OF.fst 15 (OF.fst 16 (OF.fst 17 (OF.alt 19 (OF.fst 20 OF.nil) OF.nil)))) OF.nil) OF.nil) OF.nil) OF.nil)) (OF.alt 11 (OF.alt 7 (OF.alt 12 (OF.alt 14 (OF.fst 15 (OF.fst 16 (OF.fst 17 (OF.alt 18 (OF.alt 19 (OF.fst 20 OF.nil) OF.nil) OF.nil)))) (OF.alt 18 (OF.alt 14 (OF.fst 15 (OF.fst 16 (OF.fst 17 (OF.alt 19 (OF.fst 20 OF.nil) OF.nil)))) OF.nil) OF.nil)) (OF.alt 18 (OF.alt 12 (OF.alt 14 (OF.fst 15 (OF.fst 16 (OF.fst 17 (OF.alt 19 (OF.fst 20 OF.nil) OF.nil)))) OF.nil) OF.nil) OF.nil)) (OF.alt 18 (OF.alt 7 (OF.alt 12 (OF.alt 14 (OF.fst 15 (OF.fst 16 (OF.fst 17 (OF.alt 19 (OF.fst 20 OF.nil) OF.nil)))) OF.nil) OF.nil) OF.nil) OF.nil)) (OF.alt 18 (OF.alt 7 (OF.alt 11 (OF.alt 12 (OF.alt 14 (OF.fst 15 (OF.fst 16 (OF.fst 17 (OF.alt 19 (OF.fst 20 OF.nil) OF.nil)))) OF.nil) OF.nil) OF.nil) (OF.alt 11 (OF.alt 7 (OF.alt 12 (OF.alt 14 (OF.fst 15 (OF.fst 16 (OF.fst 17 (OF.alt 19 (OF.fst 20 OF.nil) OF.nil)))) OF.nil) OF.nil) OF.nil) OF.nil)) OF.nil))) (OF.alt 7 (OF.alt 3 (OF.alt 11 (OF.alt 12 (OF.alt 14 (OF.fst 15 (OF.fst 16 (OF.fst 17 (OF.alt 18 (OF.alt 19 (OF.fst 20 OF.nil) OF.nil) OF.nil)))) (OF.alt 18 (OF.alt 14 (OF.fst 15 (OF.fst 16 (OF.fst 17 (OF.alt 19 (OF.fst 20 OF.nil) OF.nil)))) OF.nil) OF.nil)) (OF.alt 18 (OF.alt 12 (OF.alt 14 (OF.fst 15 (OF.fst 16 (OF.fst 17 (OF.alt 19 (OF.fst 20 OF.nil) OF.nil)))) OF.nil) OF.nil) OF.nil)) (OF.alt 18 (OF.alt 11 (OF.alt 12 (OF.alt 14 (OF.fst 15 (OF.fst 16 (OF.fst 17 (OF.alt 19 (OF.fst 20 OF.nil) OF.nil)))) OF.nil) OF.nil) OF.nil) OF.nil)) (OF.alt 11 (OF.alt 3 (OF.alt 12 (OF.alt 14 (OF.fst 15 (OF.fst 16 (OF.fst 17 (OF.alt 18 (OF.alt 19 (OF.fst 20 OF.nil) OF.nil) OF.nil)))) (OF.alt 18 (OF.alt 14 (OF.fst 15 (OF.fst 16 (OF.fst 17 (OF.alt 19 (OF.fst 20 OF.nil) OF.nil)))) OF.nil) OF.nil)) (OF.alt 18 (OF.alt 12 (OF.alt 14 (OF.fst 15 (OF.fst 16 (OF.fst 17 (OF.alt 19 (OF.fst 20 OF.nil) OF.nil)))) OF.nil) OF.nil) OF.nil)) (OF.alt 18 (OF.alt 3 (OF.alt 12 (OF.alt 14 (OF.fst 15 (OF.fst 16 (OF.fst 17 (OF.alt 19 (OF.fst 20 OF.nil) OF.nil)))) OF.nil) OF.nil) OF.nil) OF.nil)) (OF.alt 18 (OF.alt 3 (OF.alt 11 (OF.alt 12 (OF.alt 14 (OF.fst 15 (OF.fst 16 (OF.fst 17 (OF.alt 19 (OF.fst 20 OF.nil) OF.nil)))) OF.nil) OF.nil) OF.nil) (OF.alt 11 (OF.alt 3 (OF.alt 12 (OF.alt 14 (OF.fst 15 (OF.fst 16 (OF.fst 17 (OF.alt 19 (OF.fst 20 OF.nil) OF.nil)))) OF.nil) OF.nil) OF.nil) OF.nil)) OF.nil))) (OF.alt 11 (OF.alt 3 (OF.alt 7 (OF.alt 12 (OF.alt 14 (OF.fst 15 (OF.fst 16 (OF.fst 17 (OF.alt 18 (OF.alt 19 (OF.fst 20 OF.nil) OF.nil) OF.nil)))) (OF.alt 18 (OF.alt 14 (OF.fst 15 (OF.fst 16 (OF.fst 17 (OF.alt 19 (OF.fst 20 OF.nil) OF.nil)))) OF.nil) OF.nil)) (OF.alt 18 (OF.alt 12 (OF.alt 14 (OF.fst 15 (OF.fst 16 (OF.fst 17 (OF.alt 19 (OF.fst 20 OF.nil) OF.nil)))) OF.nil) OF.nil) OF.nil)) (OF.alt 18 (OF.alt 7 (OF.alt 12 (OF.alt 14 (OF.fst 15 (OF.fst 16 (OF.fst 17 (OF.alt 19 (OF.fst 20 OF.nil) OF.nil)))) OF.nil) OF.nil) OF.nil) OF.nil)) (OF.alt 7 (OF.alt 3 (OF.alt 12 (OF.alt 14 (OF.fst 15 (OF.fst 16 (OF.fst 17 (OF.alt 18 (OF.alt 19 (OF.fst 20 OF.nil) OF.nil) OF.nil)))) (OF.alt 18 (OF.alt 14 (OF.fst 15 (OF.fst 16 (OF.fst 17 (OF.alt 19 (OF.fst 20 OF.nil) OF.nil)))) OF.nil) OF.nil)) (OF.alt 18 (OF.alt 12 (OF.alt 14 (OF.fst 15 (OF.fst 16 (OF.fst 17 (OF.alt 19 (OF.fst 20 OF.nil) OF.nil)))) OF.nil) OF.nil) OF.nil)) (OF.alt 18 (OF.alt 3 (OF.alt 12 (OF.alt 14 (OF.fst 15 (OF.fst 16 (OF.fst 17 (OF.alt 19 (OF.fst 20 OF.nil) OF.nil)))) OF.nil) OF.nil) OF.nil) OF.nil)) (OF.alt 18 (OF.alt 3 (OF.alt 7 (OF.alt 12 (OF.alt 14 (OF.fst 15 (OF.fst 16 (OF.fst 17 (OF.alt 19 (OF.fst 20 OF.nil) OF.nil)))) OF.nil) OF.nil) OF.nil) (OF.alt 7 (OF.alt 3 (OF.alt 12 (OF.alt 14 (OF.fst 15 (OF.fst 16 (OF.fst 17 (OF.alt 19 (OF.fst 20 OF.nil) OF.nil)))) OF.nil) OF.nil) OF.nil) OF.nil)) OF.nil))) (OF.alt 18 (OF.alt 3 (OF.alt 7 (OF.alt 11 (OF.alt 12 (OF.alt 14 (OF.fst 15 (OF.fst 16 (OF.fst 17 (OF.alt 19 (OF.fst 20 OF.nil) OF.nil)))) OF.nil) OF.nil) OF.nil) (OF.alt 11 (OF.alt 7 (OF.alt 12 (OF.alt 14 (OF.fst 15 (OF.fst 16 (OF.fst 17 (OF.alt 19 (OF.fst 20 OF.nil) OF.nil)))) OF.nil) OF.nil) OF.nil) OF.nil)) (OF.alt 7 (OF.alt 3 (OF.alt 11 (OF.alt 12 (OF.alt 14 (OF.fst 15 (OF.fst 16 (OF.fst 17 (OF.alt 19 (OF.fst 20 OF.nil) OF.nil)))) OF.nil) OF.nil) OF.nil) (OF.alt 11 (OF.alt 3 (OF.alt 12 (OF.alt 14 (OF.fst 15 (OF.fst 16 (OF.fst 17 (OF.alt 19 (OF.fst 20 OF.nil) OF.nil)))) OF.nil) OF.nil) OF.nil) OF.nil)) (OF.alt 11 (OF.alt 3 (OF.alt 7 (OF.alt 12 (OF.alt 14 (OF.fst 15 (OF.fst 16 (OF.fst 17 (OF.alt 19 (OF.fst 20 OF.nil) OF.nil)))) OF.nil) OF.nil) OF.nil) (OF.alt 7 (OF.alt 3 (OF.alt 12 (OF.alt 14 (OF.fst 15 (OF.fst 16 (OF.fst 17 (OF.alt 19 (OF.fst 20 OF.nil) OF.nil)))) OF.nil) OF.nil) OF.nil) OF.nil)) OF.nil))) OF.nil)))))))))))))) (by kernel_rfl) ?_ | (refine CL.mk (Or.inl ?_);(conv => whnf);refine Cl.is (hcut) rfl (by first | exact fun _ => rfl | fail) ?_) | (refine CL.mk (Or.inr (Raw.callI [] [920] rfl rfl rfl rfl rfl rfl rfl (hmo) ?_));rintro _ _ ⟨rfl,rfl⟩;refine Bk.mk rfl rfl ?_))
 ·intro _ _
  dsimp only
  clear hcut hmo m1 m2 hok q1
  have hrow : ∀ (m : Nat),m < l.length → ∃ e,l[m]? = some e ∧ ∀ {K : List V → Prop} {j : Int},j = (m : Int) → K e.row → Ix (l.map Ev.row) j K := fun m hm => ⟨l[m],List.getElem?_eq_getElem hm,fun h k => by subst h;exact Ix.map rfl hm k⟩
  have hok2 : ∀ (m : Nat) e,l[m]? = some e → PcOk (evP e) := fun m e h => by
   have ok := hv.ok h
   exact ⟨dottedD_size ok.name.1,nameD_size ok.name.2,ok.line,hn e (List.mem_of_getElem? h)⟩
  unfold atB
  by_cases g1 : q = -1
  ·rw [if_pos g1]
   subst g1
   repeat' ((conv => whnf);first | refine Gs.id ?_ | with_reducible refine Brn.T rfl ?_ | refine Drw.of (T := tt) (i := 4) [13] [] [(0,true),(1,true),(2,true),(3,true),(4,true),(5,true),(6,true),(7,true),(8,true),(9,true),(10,false),(11,true),(12,true),(13,false)] (by kernel_rfl) ?_ | (refine CL.mk (Or.inl ?_);(conv => whnf);refine Cl.is (q3) rfl (by first | exact fun _ => rfl | fail) ?_) | fail)
   all_goals (conv => whnf)
   all_goals refine RetO.mk ⟨[(902,.k 902),(1,.k 1),(907,.k 907)],_,_,(by first | exact LeS.d (by first | exact LeD.u rfl | fail) | fail),(by repeat (first | exact LeO.nil | refine LeO.bx rfl rfl (by repeat (first | exact LeL.nil | refine LeL.cons (by first | exact LeD.u rfl | fail) ?_)) ?_ | refine LeO.ab rfl rfl (by repeat (first | exact LeL.nil | refine LeL.cons (by first | exact LeD.p rfl | fail) ?_)) (by first | rfl | fail) ?_ | fail)),rfl,rfl⟩
  ·rw [if_neg g1]
   by_cases g2 : q = (l.length : Int)
   ·rw [if_pos g2]
    have g3 : ((l.map Ev.row).length : Int) = q := by rw [g2,List.length_map]
    repeat' ((conv => whnf);first | refine Gs.id ?_ | with_reducible refine Brn.T rfl ?_ | refine Brn.T (by (try simp only [smT]);first | rfl | assumption | fail) ?_ | refine Brn.F (by (try simp only [smT]);first | rfl | assumption | fail) ?_ | (refine Bnd.mk (fun hm => ?_);(try simp only [smT] at hm)) | refine Drw.of (T := tt) (i := 4) [13] [] [(0,true),(1,true),(2,true),(3,true),(4,true),(5,true),(6,true),(7,true),(8,true),(9,true),(10,false),(11,true),(12,true),(13,false)] (by kernel_rfl) ?_ | (refine CL.mk (Or.inl ?_);(conv => whnf);refine Cl.is (q3) rfl (by first | exact fun _ => rfl | fail) ?_) | fail)
    all_goals (conv => whnf)
    all_goals first | (exfalso;simp at *;omega) | (refine RetO.mk ⟨[(902,.k 902),(1,.k 1),(907,.k 907)],_,_,(by first | exact LeS.d (by first | exact LeD.u rfl | fail) | fail),(by repeat (first | exact LeO.nil | refine LeO.bx rfl rfl (by repeat (first | exact LeL.nil | refine LeL.cons (by first | exact LeD.u rfl | fail) ?_)) ?_ | refine LeO.ab rfl rfl (by repeat (first | exact LeL.nil | refine LeL.cons (by first | exact LeD.p rfl | fail) ?_)) (by first | rfl | fail) ?_ | fail)),rfl,rfl⟩)
   ·rw [if_neg g2]
    obtain ⟨m,rfl⟩ : ∃ m : Nat,q = m := ⟨q.toNat,by omega⟩
    obtain ⟨e,hme,hrw⟩ := hrow m (by omega)
    have hpk := hok2 m e hme
    rw [Int.toNat_natCast,hme]
    dsimp only
    have hwh := where_T (evP e) (by have := hpk.lo;omega) hpk.hi (by have := hpk.md;omega) (by have := hpk.fn;omega) zt hz
    generalize whereB (evP e) = wq at *
    clear hrow hok2
    have g4 : ((l.map Ev.row).length : Int) = (l.length : Int) := by rw [List.length_map]
    repeat' ((conv => whnf);first | refine hrw rfl ?_ | refine Gs.id ?_ | with_reducible refine Brn.T rfl ?_ | with_reducible refine Brn.F rfl ?_ | refine Brn.F (by (try simp only [smT]);first | rfl | assumption | fail) ?_ | (refine Bnd.mk (fun hm => ?_);(try simp only [smT] at hm)) | refine Drw.of (T := tt) (i := 4) [13] [] [(0,true),(1,true),(2,true),(3,true),(4,true),(5,true),(6,true),(7,true),(8,true),(9,true),(10,false),(11,true),(12,true),(13,false)] (by kernel_rfl) ?_ | refine Drw.of (T := tt) (i := 10) [11] [] [(0,true),(1,true),(2,true),(3,true),(4,true),(5,true),(6,true),(7,true),(8,true),(9,true),(10,false),(11,false)] (by kernel_rfl) ?_ | (refine CL.mk (Or.inl ?_);(conv => whnf);refine Cl.is (q3) rfl (by first | exact fun _ => rfl | fail) ?_) | (refine CL.mk (Or.inr (Raw.callI [907] [907] rfl rfl rfl rfl rfl rfl rfl (hwh) ?_));rintro _ _ ⟨rfl,rfl⟩;refine Bk.mk rfl rfl ?_))
    all_goals (conv => whnf)
    all_goals first | (exfalso;simp at *;omega) | (refine RetO.mk ⟨[(902,.k 902),(1,.k 1),(907,.k 907)],_,_,(by first | exact LeS.d (by first | exact LeD.u rfl | fail) | fail),(by repeat (first | exact LeO.nil | refine LeO.bx rfl rfl (by repeat (first | exact LeL.nil | refine LeL.cons (by first | exact LeD.u rfl | fail) ?_)) ?_ | refine LeO.ab rfl rfl (by repeat (first | exact LeL.nil | refine LeL.cons (by first | exact LeD.p rfl | fail) ?_)) (by first | rfl | fail) ?_ | fail)),rfl,rfl⟩)
end Go.Proofs.YtabmcfnefjipbaaGreatDoor
namespace Go.Proofs.YtabmcfnefjipbaaGreatDoor
open Go.RowKit
set_option maxHeartbeats 8000000 in
theorem doA_clear (us : List Value) (zb : Fz) {l : List Ev} (hv : Vd l) (hL : l.length ≤ 20000) (he : ∀ e ∈ l,e.locs.length ≤ 9000000000) (hn : ∀ e ∈ l,e.line ≤ 9223372036854775807) (p : Int) (hp : -1 ≤ p ∧ p ≤ (l.length : Int)) (bs : List Bp) (hb : bs.length ≤ 1000) (c : ByteArray) (hc : c.size ≤ 4000) (zt : Fz) (hz : Tab zt) (hcm : cmdM (depM l p) bs c = none) (c1 : c = clearK) :
  CallsA Tryz.prog 65 [.d (.p 1 0),dsr c] [(902,.ab [.p 1 0] us zb (· = [])),(1,.bx 120 (sesV l p bs)),(907,tbOb zt)] (Iso (dsr (clearedB)) [(902,.ab [.p 1 0] us zb (· = [])),(1,.bx 120 (sesV l (p) ([]))),(907,tbOb zt)]) := by
 have hcut := cutJ_T c (by omega)
 have hmo : CallsA Tryz.prog 54 [.d (.u (evs l)),.d (.u (bkV bs)),di p] [] (Iso (.d (.mp 920)) [(920,.mp false true (motE (depM l p) (bkV bs)))]) := by
  cases bs with
  | nil => exact motions0_T l p hp
  | cons b r => exact motions_T l (b :: r) p hp
 have hmk : ∀ e ∈ l,CallsA Tryz.prog 89 [.a e.ds,.d (.q [bkV bs] 0)] [] (Is (db (bs.any (hitB e)))) := by
  intro e q
  cases bs with
  | nil => exact mrk0_T e (he e q)
  | cons b r => exact mrk_T (b :: r) e (he e q) (by omega)
 obtain ⟨m1,m2⟩ := motE_get (depM l p) (bkV bs) c zMot
 have hok := motE_ok (depM l p) (bkV bs)
 rw [cmd_none hcm] at m1 m2
 clear hmk hcm
 refine callsA_of_rdO (T := tt) Tryz.func65 rfl rfl rfl rfl rfl ?_
 refine' cutR (fun _ : Unit => True) (fun _ => ⟨[(0,.d (.p 1 0)),(1,dsr c),(5,dsr (cutW c)),(6,dsr (cutR' c)),(9,db false)],[(902,.ab [.p 1 0] us zb (· = [])),(1,.bx 120 (sesV l p bs)),(907,tbOb zt)]⟩) _ (fun hR => ?_) ?_
 rotate_left
 ·repeat' ((conv => whnf);first | refine Mlk.of zMot false (by kernel_rfl) hok m1 m2 ?_ | (exact Gs.cut (i := 3) (by assumption) () [(902,.k 902),(1,.k 1),(907,.k 907)] rfl ⟨by (try dsimp only);(repeat (refine LeT.cons rfl (by first | exact LeS.d (by first | exact LeD.u rfl | exact LeD.p rfl | fail) | fail) ?_));(first | exact LeT.nil | fail),by (try dsimp only);(repeat (first | exact LeO.nil | refine LeO.bx rfl rfl (by repeat (first | exact LeL.nil | refine LeL.cons (by first | exact LeD.u rfl | fail) ?_)) ?_ | refine LeO.ab rfl rfl (by repeat (first | exact LeL.nil | refine LeL.cons (by first | exact LeD.p rfl | fail) ?_)) (by first | rfl | fail) ?_ | fail));done⟩ (by trivial)) | refine Gs.id ?_ | with_reducible refine And.intro ?_ ?_ | refine Drw.ofT (T := tt) (i := 2) [3,7,11,12,14,18,19] [0,1,2,4,5,6,8,9,10,13,15,16,17,20] (OF.fst 0 (OF.fst 1 (OF.fst 2 (OF.fst 4 (OF.fst 5 (OF.fst 6 (OF.fst 8 (OF.fst 9 (OF.fst 10 (OF.fst 13 (OF.alt 3 (OF.alt 7 (OF.alt 11 (OF.alt 12 (OF.alt 14 (OF.fst 15 (OF.fst 16 (OF.fst 17 (OF.alt 18 (OF.alt 19 (OF.fst 20 OF.nil) OF.nil) OF.nil)))) (OF.alt 18 (OF.alt 14 (OF.fst 15 (OF.fst 16 (OF.fst 17 (OF.alt 19 (OF.fst 20 OF.nil) OF.nil)))) OF.nil) OF.nil)) (OF.alt 18 (OF.alt 12 (OF.alt 14 (OF.fst 15 (OF.fst 16 (OF.fst 17 (OF.alt 19 (OF.fst 20 OF.nil) OF.nil)))) OF.nil) OF.nil) OF.nil)) (OF.alt 18 (OF.alt 11 (OF.alt 12 (OF.alt 14 (OF.fst 15 (OF.fst 16 (OF.fst 17 (OF.alt 19 (OF.fst 20 OF.nil) OF.nil)))) OF.nil) OF.nil) OF.nil) OF.nil)) (OF.alt 11 (OF.alt 7 (OF.alt 12 (OF.alt 14 (OF.fst 15 (OF.fst 16 (OF.fst 17 (OF.alt 18 (OF.alt 19 (OF.fst 20 OF.nil) OF.nil) OF.nil)))) (OF.alt 18 (OF.alt 14 (OF.fst 15 (OF.fst 16 (OF.fst 17 (OF.alt 19 (OF.fst 20 OF.nil) OF.nil)))) OF.nil) OF.nil)) (OF.alt 18 (OF.alt 12 (OF.alt 14 (OF.fst 15 (OF.fst 16 (OF.fst 17 (OF.alt 19 (OF.fst 20 OF.nil) OF.nil)))) OF.nil) OF.nil) OF.nil)) (OF.alt 18 (OF.alt 7 (OF.alt 12 (OF.alt 14 (OF.fst 15 (OF.fst 16 (OF.fst 17 (OF.alt 19 (OF.fst 20 OF.nil) OF.nil)))) OF.nil) OF.nil) OF.nil) OF.nil)) (OF.alt 18 (OF.alt 7 (OF.alt 11 (OF.alt 12 (OF.alt 14 (OF.fst 15 (OF.fst 16 (OF.fst 17 (OF.alt 19 (OF.fst 20 OF.nil) OF.nil)))) OF.nil) OF.nil) OF.nil) (OF.alt 11 (OF.alt 7 (OF.alt 12 (OF.alt 14 (OF.fst 15 (OF.fst 16 (OF.fst 17 (OF.alt 19 (OF.fst 20 OF.nil) OF.nil)))) OF.nil) OF.nil) OF.nil) OF.nil)) OF.nil))) (OF.alt 7 (OF.alt 3 (OF.alt 11 (OF.alt 12 (OF.alt 14 (OF.fst 15 (OF.fst 16 (OF.fst 17 (OF.alt 18 (OF.alt 19 (OF.fst 20 OF.nil) OF.nil) OF.nil)))) (OF.alt 18 (OF.alt 14 (OF.fst 15 (OF.fst 16 (OF.fst 17 (OF.alt 19 (OF.fst 20 OF.nil) OF.nil)))) OF.nil) OF.nil)) (OF.alt 18 (OF.alt 12 (OF.alt 14 (OF.fst 15 (OF.fst 16 (OF.fst 17 (OF.alt 19 (OF.fst 20 OF.nil) OF.nil)))) OF.nil) OF.nil) OF.nil)) (OF.alt 18 (OF.alt 11 (OF.alt 12 (OF.alt 14 (OF.fst 15 (OF.fst 16 (OF.fst 17 (OF.alt 19 (OF.fst 20 OF.nil) OF.nil)))) OF.nil) OF.nil) OF.nil) OF.nil)) (OF.alt 11 (OF.alt 3 (OF.alt 12 (OF.alt 14 (OF.fst 15 (OF.fst 16 (OF.fst 17 (OF.alt 18 (OF.alt 19 (OF.fst 20 OF.nil) OF.nil) OF.nil)))) (OF.alt 18 (OF.alt 14 (OF.fst 15 (OF.fst 16 (OF.fst 17 (OF.alt 19 (OF.fst 20 OF.nil) OF.nil)))) OF.nil) OF.nil)) (OF.alt 18 (OF.alt 12 (OF.alt 14 (OF.fst 15 (OF.fst 16 (OF.fst 17 (OF.alt 19 (OF.fst 20 OF.nil) OF.nil)))) OF.nil) OF.nil) OF.nil)) (OF.alt 18 (OF.alt 3 (OF.alt 12 (OF.alt 14 (OF.fst 15 (OF.fst 16 (OF.fst 17 (OF.alt 19 (OF.fst 20 OF.nil) OF.nil)))) OF.nil) OF.nil) OF.nil) OF.nil)) (OF.alt 18 (OF.alt 3 (OF.alt 11 (OF.alt 12 (OF.alt 14 (OF.fst 15 (OF.fst 16 (OF.fst 17 (OF.alt 19 (OF.fst 20 OF.nil) OF.nil)))) OF.nil) OF.nil) OF.nil) (OF.alt 11 (OF.alt 3 (OF.alt 12 (OF.alt 14 (OF.fst 15 (OF.fst 16 (OF.fst 17 (OF.alt 19 (OF.fst 20 OF.nil) OF.nil)))) OF.nil) OF.nil) OF.nil) OF.nil)) OF.nil))) (OF.alt 11 (OF.alt 3 (OF.alt 7 (OF.alt 12 (OF.alt 14 (OF.fst 15 (OF.fst 16 (OF.fst 17 (OF.alt 18 (OF.alt 19 (OF.fst 20 OF.nil) OF.nil) OF.nil)))) (OF.alt 18 (OF.alt 14 (OF.fst 15 (OF.fst 16 (OF.fst 17 (OF.alt 19 (OF.fst 20 OF.nil) OF.nil)))) OF.nil) OF.nil)) (OF.alt 18 (OF.alt 12 (OF.alt 14 (OF.fst 15 (OF.fst 16 (OF.fst 17 (OF.alt 19 (OF.fst 20 OF.nil) OF.nil)))) OF.nil) OF.nil) OF.nil)) (OF.alt 18 (OF.alt 7 (OF.alt 12 (OF.alt 14 (OF.fst 15 (OF.fst 16 (OF.fst 17 (OF.alt 19 (OF.fst 20 OF.nil) OF.nil)))) OF.nil) OF.nil) OF.nil) OF.nil)) (OF.alt 7 (OF.alt 3 (OF.alt 12 (OF.alt 14 (OF.fst 15 (OF.fst 16 (OF.fst 17 (OF.alt 18 (OF.alt 19 (OF.fst 20 OF.nil) OF.nil) OF.nil)))) (OF.alt 18 (OF.alt 14 (OF.fst 15 (OF.fst 16 (OF.fst 17 (OF.alt 19 (OF.fst 20 OF.nil) OF.nil)))) OF.nil) OF.nil)) (OF.alt 18 (OF.alt 12 (OF.alt 14 (OF.fst 15 (OF.fst 16 (OF.fst 17 (OF.alt 19 (OF.fst 20 OF.nil) OF.nil)))) OF.nil) OF.nil) OF.nil)) (OF.alt 18 (OF.alt 3 (OF.alt 12 (OF.alt 14 (OF.fst 15 (OF.fst 16 (OF.fst 17 (OF.alt 19 (OF.fst 20 OF.nil) OF.nil)))) OF.nil) OF.nil) OF.nil) OF.nil)) (OF.alt 18 (OF.alt 3 (OF.alt 7 (OF.alt 12 (OF.alt 14 (OF.fst 15 (OF.fst 16 (OF.fst 17 (OF.alt 19 (OF.fst 20 OF.nil) OF.nil)))) OF.nil) OF.nil) OF.nil) (OF.alt 7 (OF.alt 3 (OF.alt 12 (OF.alt 14 (OF.fst 15 (OF.fst 16 (OF.fst 17 (OF.alt 19 (OF.fst 20 OF.nil) OF.nil)))) OF.nil) OF.nil) OF.nil) OF.nil)) OF.nil))) (OF.alt 18 (OF.alt 3 (OF.alt 7 (OF.alt 11 (OF.alt 12 (OF.alt 14 (OF.fst 15 (OF.fst 16 (OF.fst 17 (OF.alt 19 (OF.fst 20 OF.nil) OF.nil)))) OF.nil) OF.nil) OF.nil) (OF.alt 11 (OF.alt 7 (OF.alt 12 (OF.alt 14 (OF.fst 15 (OF.fst 16 (OF.fst 17 (OF.alt 19 (OF.fst 20 OF.nil) OF.nil)))) OF.nil) OF.nil) OF.nil) OF.nil)) (OF.alt 7 (OF.alt 3 (OF.alt 11 (OF.alt 12 (OF.alt 14 (OF.fst 15 (OF.fst 16 (OF.fst 17 (OF.alt 19 (OF.fst 20 OF.nil) OF.nil)))) OF.nil) OF.nil) OF.nil) (OF.alt 11 (OF.alt 3 (OF.alt 12 (OF.alt 14 (OF.fst 15 (OF.fst 16 (OF.fst 17 (OF.alt 19 (OF.fst 20 OF.nil) OF.nil)))) OF.nil) OF.nil) OF.nil) OF.nil)) (OF.alt 11 (OF.alt 3 (OF.alt 7 (OF.alt 12 (OF.alt 14 (OF.fst 15 (OF.fst 16 (OF.fst 17 (OF.alt 19 (OF.fst 20 OF.nil) OF.nil)))) OF.nil) OF.nil) OF.nil) (OF.alt 7 (OF.alt 3 (OF.alt 12 (OF.alt 14 (OF.fst 15 (OF.fst 16 (OF.fst 17 (OF.alt 19 (OF.fst 20 OF.nil) OF.nil)))) OF.nil) OF.nil) OF.nil) OF.nil)) OF.nil))) OF.nil)))))))))))))) (by kernel_rfl) ?_ | (refine CL.mk (Or.inl ?_);(conv => whnf);refine Cl.is (hcut) rfl (by first | exact fun _ => rfl | fail) ?_) | (refine CL.mk (Or.inr (Raw.callI [] [920] rfl rfl rfl rfl rfl rfl rfl (hmo) ?_));rintro _ _ ⟨rfl,rfl⟩;refine Bk.mk rfl rfl ?_))
 ·intro _ _
  dsimp only
  clear hcut hmo m1 m2 hok
  have hcs := cutR_size c
  have hsp := splitN_T (cutR' c) (by omega)
  have hst := hasShow_T c
  have hsh := show_T hv hL he p hp (cutR' c)
  have hnm := isName_T' (cutR' c)
  have hlw : ((strs (spN 3 (cutR' c))).length : Int) = ((spN 3 (cutR' c)).length : Int) := by simp
  have t1 := toList_beq c clearK
  have t2 := toList_beq c whereK
  have t3 := toList_beq (cutW c) breakK
  have hadd := fun h => add_P l p bs (spN 3 (cutR' c)) hb h
  generalize spN 3 (cutR' c) = ws at *
  generalize cutR' c = rest at *
  generalize cutW c = word at *
  generalize showM l p rest = o at *
  generalize isShow c = bsh at *
  generalize nameB rest = bnm at *
  rw [decide_eq_true c1] at t1
  clear hadd hsh hnm hst t2 t3
  repeat' ((conv => whnf);first | rw [t1] | refine Gs.id ?_ | with_reducible refine Brn.T rfl ?_ | with_reducible refine Brn.F rfl ?_ | (refine CL.mk (Or.inl ?_);(conv => whnf);refine Cl.is (hsp) rfl (by first | (intro e;cases e;done) | fail) ?_) | fail)
  all_goals (conv => whnf)
  all_goals refine RetO.mk ⟨[(902,.k 902),(1,.k 1),(907,.k 907)],_,_,(by first | exact LeS.d (by first | exact LeD.u rfl | fail) | fail),(by repeat (first | exact LeO.nil | refine LeO.bx rfl rfl (by repeat (first | exact LeL.nil | refine LeL.cons (by first | exact LeD.u rfl | fail) ?_)) ?_ | refine LeO.ab rfl rfl (by repeat (first | exact LeL.nil | refine LeL.cons (by first | exact LeD.p rfl | fail) ?_)) (by first | rfl | fail) ?_ | fail)),rfl,rfl⟩
end Go.Proofs.YtabmcfnefjipbaaGreatDoor
