/-
  Part 10 of the proofs of ureport_holds, ucompare_holds, ureports_holds: laws and contracts that they need.
-/
import Derived.Test.YtjpaaaecbgmcgaaGreatDoorYa9
import Derived.Shelf.Vars
set_option linter.unusedVariables false
set_option linter.unusedSimpArgs false
namespace Go.Proofs.YtjpaaaecbgmcgaaGreatDoor
open Go.RowKit
abbrev nil2 (i : Int) : SV := .t [.d (.u .nl),.d (.u .nl),.d (.u (.int .i64 i))]
abbrev own2 (j k n m : Nat) : SV := .t [.d (.ow j n),.d (.ow k m),.d (.u (.int .i64 (-1)))]
abbrev nms (rs : List Rp) : List ByteArray := rs.map (·.1)
abbrev vds (rs : List Rp) : List ByteArray := rs.map (·.2)
def resPost : Nat ⊕ List Rp → SV → List (Nat × Ob) → Prop
 | .inl i => Iso (nil2 i) []
 | .inr rs => Iso (own2 934 935 (nms rs).length (vds rs).length) [(934,.ar 9 1 (strs (nms rs))),(935,.ar 9 1 (strs (vds rs)))]
theorem col_step {s : ByteArray} {k : Nat} (h : k < s.size) : colL (s.data.toList.drop k) = if s[k] = 58 then 0 else colL (s.data.toList.drop (k + 1)) + 1 := by
 have h' : k < s.data.toList.length := by simpa using h
 rw [List.drop_eq_getElem_cons h',colL]
 rfl
set_option maxHeartbeats 8000000 in
theorem results_R (l : List ByteArray) (hl : l.length ≤ 9000000000) (hsz : ∀ s ∈ l,s.size ≤ 9000000000) : CallsA Tryz.prog 32 [.d (.u (strs' l))] [] (resPost (readM l)) := by
 have hln : (strs l).length = l.length := by simp [strs]
 by_cases h0 : l.length = 0
 ·rw [readM,if_pos h0]
  show CallsA _ _ _ _ (Iso (nil2 0) [])
  refine callsA_of_vcO (T := tt) Tryz.func32 rfl rfl rfl rfl rfl ?_
  repeat' ((conv => whnf);first | refine Gs.id ?_ | fail)
  all_goals (conv => whnf)
  refine ⟨⟨Nat,fun i => i = 0,fun _ => 0,fun i => ⟨[(0,.d (.u (strs' l))),(5,.d (.u .nl)),(6,.d (.u .nl)),(7,di i)],[]⟩,0,rfl,⟨[],⟨by (try dsimp only);(repeat (refine LeT.cons rfl (by first | exact LeS.d (by first | exact LeD.u rfl | fail) | fail) ?_));exact LeT.nil,by (try dsimp only);repeat (first | exact LeO.nil | fail)⟩⟩,fun i hi => ?_⟩⟩
  have hi : i = 0 := hi
  subst hi
  dsimp only
  repeat' ((conv => whnf);first | refine Gs.id ?_ | refine Brn.T (by (try simp only [smT]);first | rfl | omega | fail) ?_ | refine Brn.F (by (try simp only [smT]);first | rfl | omega | fail) ?_ | (refine Bnd.mk (fun hm => ?_);(try simp only [smT] at hm)) | refine Rng.mk (by (try simp only [smT]);omega) ?_ | fail)
  all_goals (conv => whnf)
  all_goals refine RetO.mk ⟨[],_,_,(by exact LeS.ts (by repeat (first | exact LeCs.nil | refine LeCs.cons (by first | exact LeC.d (by first | exact LeD.u rfl | fail) | fail) ?_))),(by repeat (first | exact LeO.nil | fail)),rfl,rfl⟩
 have hml : readM l = (match rdM (l.take (l.length - 1)) [] with | .inl i => .inl i | .inr rs => badEnd l rs) := by rw [readM,if_neg h0];rfl
 rw [hml]
 have hlz : (l.take (l.length - 1)).length = l.length - 1 := by rw [List.length_take];omega
 refine callsA_of_vcO (T := tt) Tryz.func32 rfl rfl rfl rfl rfl ?_
 repeat' ((conv => whnf);first | refine Gs.id ?_ | fail)
 all_goals (conv => whnf)
 refine ⟨⟨List Rp,fun acc => WfR acc ∧ acc.length ≤ l.length - 1 ∧ rdM (l.take (l.length - 1)) [] = rdM ((l.take (l.length - 1)).drop acc.length) acc,fun acc => l.length - 1 - acc.length,fun acc => ⟨[(0,.d (.u (strs' l))),(5,.d (.ow 900 (nms acc).length)),(6,.d (.ow 901 (vds acc).length)),(7,di acc.length)],[(900,.ar 9 1 (strs (nms acc))),(901,.ar 9 1 (strs (vds acc)))]⟩,[],⟨.nil,Nat.zero_le _,rfl⟩,⟨[(900,.n 1),(901,.n 1)],⟨by (try dsimp only);(repeat (refine LeT.cons rfl (by first | exact LeS.d (by first | exact LeD.u rfl | exact LeD.no rfl rfl | fail) | fail) ?_));exact LeT.nil,by (try dsimp only);repeat (first | exact LeO.nil | refine LeO.no rfl rfl ?_)⟩⟩,fun acc hi => ?_⟩⟩
 obtain ⟨hw,hi,he⟩ := hi
 dsimp only
 rw [he]
 have hnl : (nms acc).length = acc.length := by simp
 have hvl : (vds acc).length = acc.length := by simp
 by_cases h9 : acc.length < l.length - 1
 ·obtain ⟨s,hs0⟩ : ∃ s,(l.take (l.length - 1))[acc.length]? = some s := ⟨_,List.getElem?_eq_getElem (by omega)⟩
  have hsl : l[acc.length]? = some s := by rw [List.getElem?_take,if_pos h9] at hs0;exact hs0
  have hrs : (strs l)[acc.length]? = some [V.str s] := by unfold strs;rw [List.getElem?_map,hsl];rfl
  have hss := hsz s (List.mem_of_getElem? hsl)
  have hdr : (l.take (l.length - 1)).drop acc.length = s :: (l.take (l.length - 1)).drop (acc.length + 1) := by
   obtain ⟨a,b⟩ := List.getElem?_eq_some_iff.1 hs0
   rw [List.drop_eq_getElem_cons a,b]
  rw [hdr,rdM]
  clear hdr he hs0 hsl
  repeat' ((conv => whnf);first | refine (Ix.mk ⟨acc.length,[V.str s],rfl,hrs,?_⟩) | refine Gs.id ?_ | refine Brn.T (by (try simp only [smT]);first | rfl | omega | fail) ?_ | (refine Bnd.mk (fun hm => ?_);(try simp only [smT] at hm)) | refine Rng.mk (by (try simp only [smT]);omega) ?_ | fail)
  all_goals (conv => whnf)
  refine ⟨⟨Nat,fun k => k ≤ s.size ∧ colI s = k + colL (s.data.toList.drop k),fun k => s.size - k,fun k => ⟨[(0,.d (.u (strs' l))),(5,.d (.ow 900 (nms acc).length)),(6,.d (.ow 901 (vds acc).length)),(7,di acc.length),(8,dsr s),(9,di k)],[(900,.ar 9 1 (strs (nms acc))),(901,.ar 9 1 (strs (vds acc)))]⟩,0,⟨Nat.zero_le _,by rw [Nat.zero_add];rfl⟩,⟨[(900,.k 900),(901,.k 901)],⟨by (try dsimp only);(repeat (refine LeT.cons rfl (by first | exact LeS.d (by first | exact LeD.u rfl | exact LeD.ow rfl rfl | fail) | fail) ?_));exact LeT.nil,by (try dsimp only);repeat (first | exact LeO.nil | refine LeO.ar rfl rfl (by first | rfl | fail) ?_ | fail)⟩⟩,fun k hk => ?_⟩⟩
  obtain ⟨hk,hck⟩ := hk
  dsimp only
  by_cases h8 : k < s.size ∧ s[k]? ≠ some 58
  ·obtain ⟨h8,h7⟩ := h8
   have h7 : s[k] ≠ 58 := fun e => h7 (by rw [getElem?_pos s k h8,e])
   rw [col_step h8,if_neg h7] at hck
   have hcn : ¬ (s[k].toNat : Int) = 58 := fun e => h7 (UInt8.toNat_inj.1 (by show s[k].toNat = 58;omega))
   clear h7
   generalize hx : (s[k].toNat : Int) = x at *
   repeat' ((conv => whnf);first | (refine Sbx.mk ⟨k,h8,rfl,?_⟩;rw [hx]) | refine Gs.id ?_ | refine Brn.T (by (try simp only [smT]);first | rfl | assumption | omega | fail) ?_ | (refine Bnd.mk (fun hm => ?_);(try simp only [smT] at hm)) | refine Rng.mk (by (try simp only [smT]);omega) ?_ | fail)
   all_goals (conv => whnf)
   all_goals exact ⟨k + 1,⟨by omega,by omega⟩,by omega,[(900,.k 900),(901,.k 901)],⟨by (try dsimp only);(repeat (refine LeT.cons rfl (by first | exact LeS.d (by first | exact LeD.u rfl | exact LeD.ow rfl rfl | fail) | fail) ?_));exact LeT.nil,by (try dsimp only);repeat (first | exact LeO.nil | refine LeO.ar rfl rfl (by first | rfl | fail) ?_ | fail)⟩⟩
  ·have hke : colI s = k := by
    by_cases h7 : k < s.size
    ·have : s[k] = 58 := by
      refine Classical.not_not.1 fun e => h8 ⟨h7,fun q => e ?_⟩
      rw [getElem?_pos s k h7] at q
      exact Option.some.inj q
     rw [hck,col_step h7,if_pos this]
     rfl
    ·have : s.data.toList.drop k = [] := List.drop_eq_nil_of_le (by simp;omega)
     rw [hck,this]
     rfl
   have hx8 : ∀ h : k < s.size,(s[k].toNat : Int) = 58 := fun h7 => by
    have : s[k] = 58 := by
     refine Classical.not_not.1 fun e => h8 ⟨h7,fun q => e ?_⟩
     rw [getElem?_pos s k h7] at q
     exact Option.some.inj q
    rw [this];rfl
   have hcut : cutM s = if k + 2 ≤ s.size ∧ s.data[k + 1]? = some 32 then some (s.extract 0 k,s.extract (k + 2) s.size) else none := by rw [cutM,hke]
   clear hck h8 hke
   have hgd : goodL (nms acc) s = match cutM s with | none => none | some p => if (nameB p.1 && !inS p.1 (nms acc) && possB p.2) = true then some p else none := rfl
   rw [hcut] at hgd
   clear hcut
   by_cases h6 : k + 2 ≤ s.size
   ·have h7 : k < s.size := by omega
    have hx7 := hx8 h7
    clear hx8
    have h5 : k + 1 < s.size := by omega
    have hget : s.data[k + 1]? = some s[k + 1] := by simp [ByteArray.getElem_eq_getElem_data,h5]
    rw [hget] at hgd
    by_cases h4 : s[k + 1] = 32
    ·rw [h4,if_pos ⟨h6,rfl⟩] at hgd
     have hx5 : (s[k + 1].toNat : Int) = 32 := by rw [h4];rfl
     clear h4 hget
     have z1 : (s.extract 0 k).size ≤ s.size := by simp only [ByteArray.size_extract];omega
     have z2 : (s.extract (k + 2) s.size).size ≤ s.size := by simp only [ByteArray.size_extract];omega
     have hwf : ∀ p,goodL (nms acc) s = some p → WfR (acc ++ [p]) := fun p h => hw.snoc h
     generalize hn0 : s.extract 0 k = n at *
     generalize hv0 : s.extract (k + 2) s.size = v at *
     dsimp only at hgd
     have hnm := name_R n
     have hct := hasN_R (nms acc) n acc.length (by omega) (by omega)
     rw [show (nms acc).take acc.length = nms acc from List.take_of_length_le (by omega)] at hct
     have hps := possible_R v (by omega)
     rw [hgd] at hwf ⊢
     clear hgd
     generalize nameB n = b1 at *
     generalize inS n (nms acc) = b2 at *
     generalize possB v = b3 at *
     by_cases hall : b1 = true ∧ b2 = false ∧ b3 = true
     ·obtain ⟨rfl,rfl,rfl⟩ := hall
      rw [if_pos (show (true && !false && true) = true from rfl)]
      have hwf := hwf (n,v) (if_pos rfl)
      dsimp only
      have en : nms (acc ++ [(n,v)]) = nms acc ++ [n] := by simp
      have ev : vds (acc ++ [(n,v)]) = vds acc ++ [v] := by simp
      repeat' ((conv => whnf);first | (refine Sbx.mk ⟨k,h7,rfl,?_⟩;rw [hx7]) | (refine Sbx.mk ⟨k + 1,h5,by omega,?_⟩;rw [hx5]) | (refine Slc.mk ⟨0,k,rfl,rfl,by omega,by omega,?_⟩;rw [hn0]) | (refine Slc.mk ⟨k + 2,s.size,by omega,rfl,by omega,by omega,?_⟩;rw [hv0]) | refine Gs.id ?_ | with_reducible refine Brn.F rfl ?_ | refine Brn.T (by (try simp only [smT]);first | rfl | omega | fail) ?_ | refine Brn.F (by (try simp only [smT]);first | rfl | omega | fail) ?_ | (refine Bnd.mk (fun hm => ?_);(try simp only [smT] at hm)) | refine Rng.mk (by (try simp only [smT]);omega) ?_ | refine Apd.mk (by first | rfl | simp) (by first | rfl | fail) (by (try simp only [smT]);first | omega | fail) (by unfold maxLen;first | (simp;omega) | fail) ?_ | (refine CL.mk (Or.inl ?_);(conv => whnf);first | refine Cl.is (hnm) rfl (by first | exact fun _ => rfl | fail) ?_ | refine Cl.is (hps) rfl (by first | exact fun _ => rfl | fail) ?_) | (refine CL.mk (Or.inr (Raw.callR (by repeat (first | exact ArgR.nil | refine ArgR.d rfl (by first | exact BorR.u | exact BorR.ar rfl (by first | rfl | (simp;done)) | fail) ?_ | fail)) rfl (hct) ⟨_,rfl,rfl⟩ rfl ?_));refine Bk.mk rfl rfl ?_))
      all_goals (conv => whnf)
      all_goals exact ⟨acc ++ [(n,v)],⟨hwf,by simp;omega,by rw [List.length_append];rfl⟩,by simp;omega,[(900,.k 74),(901,.k 81)],by (rw [en,ev];exact ⟨by (try dsimp only);(repeat (refine LeT.cons rfl (by first | exact LeS.d (by first | exact LeD.u rfl | exact LeD.ow rfl (by simp) | exact LeD.u (by simp;done) | fail) | fail) ?_));exact LeT.nil,by (try dsimp only);repeat (first | exact LeO.nil | refine LeO.ar rfl rfl (by first | simp) ?_ | fail)⟩)⟩
     ·have e0 : ¬ (b1 && !b2 && b3) = true := fun h => hall (by simpa [and_assoc] using h)
      rw [if_neg e0]
      dsimp only
      clear hwf
      cases b1 <;> cases b2 <;> cases b3
      all_goals first
       | (exfalso;exact hall ⟨rfl,rfl,rfl⟩)
       | (
        clear hall e0
        repeat' ((conv => whnf);first | (refine Sbx.mk ⟨k,h7,rfl,?_⟩;rw [hx7]) | (refine Sbx.mk ⟨k + 1,h5,by omega,?_⟩;rw [hx5]) | (refine Slc.mk ⟨0,k,rfl,rfl,by omega,by omega,?_⟩;rw [hn0]) | (refine Slc.mk ⟨k + 2,s.size,by omega,rfl,by omega,by omega,?_⟩;rw [hv0]) | refine Gs.id ?_ | with_reducible refine Brn.T rfl ?_ | with_reducible refine Brn.F rfl ?_ | refine Brn.T (by (try simp only [smT]);first | rfl | omega | fail) ?_ | refine Brn.F (by (try simp only [smT]);first | rfl | omega | fail) ?_ | (refine Bnd.mk (fun hm => ?_);(try simp only [smT] at hm)) | refine Rng.mk (by (try simp only [smT]);omega) ?_ | (refine CL.mk (Or.inl ?_);(conv => whnf);first | refine Cl.is (hnm) rfl (by first | exact fun _ => rfl | fail) ?_ | refine Cl.is (hps) rfl (by first | exact fun _ => rfl | fail) ?_) | (refine CL.mk (Or.inr (Raw.callR (by repeat (first | exact ArgR.nil | refine ArgR.d rfl (by first | exact BorR.u | exact BorR.ar rfl (by first | rfl | (simp;done)) | fail) ?_ | fail)) rfl (hct) ⟨_,rfl,rfl⟩ rfl ?_));refine Bk.mk rfl rfl ?_))
        all_goals (conv => whnf)
        all_goals refine RetO.mk ⟨[],_,_,(by exact LeS.ts (by repeat (first | exact LeCs.nil | refine LeCs.cons (by first | exact LeC.d (by first | exact LeD.u rfl | fail) | fail) ?_))),(by repeat (first | exact LeO.nil | fail)),rfl,rfl⟩)
    ·have hne : ¬ (some s[k + 1] : Option UInt8) = some 32 := fun e => h4 (Option.some.inj e)
     rw [if_neg (fun q => hne q.2)] at hgd
     rw [hgd]
     have hx5 : ¬ (s[k + 1].toNat : Int) = 32 := fun e => h4 (UInt8.toNat_inj.1 (by show s[k + 1].toNat = 32;omega))
     clear hgd hget hne h4
     dsimp only
     generalize hy : (s[k + 1].toNat : Int) = y at *
     repeat' ((conv => whnf);first | (refine Sbx.mk ⟨k,h7,rfl,?_⟩;rw [hx7]) | (refine Sbx.mk ⟨k + 1,h5,by omega,?_⟩;rw [hy]) | refine Gs.id ?_ | with_reducible refine Brn.T rfl ?_ | with_reducible refine Brn.F rfl ?_ | refine Brn.T (by (try simp only [smT]);first | rfl | assumption | omega | fail) ?_ | refine Brn.F (by (try simp only [smT]);first | rfl | omega | fail) ?_ | (refine Bnd.mk (fun hm => ?_);(try simp only [smT] at hm)) | refine Rng.mk (by (try simp only [smT]);omega) ?_ | fail)
     all_goals (conv => whnf)
     all_goals refine RetO.mk ⟨[],_,_,(by exact LeS.ts (by repeat (first | exact LeCs.nil | refine LeCs.cons (by first | exact LeC.d (by first | exact LeD.u rfl | fail) | fail) ?_))),(by repeat (first | exact LeO.nil | fail)),rfl,rfl⟩
   ·rw [if_neg (fun q => h6 q.1)] at hgd
    rw [hgd]
    clear hgd
    dsimp only
    by_cases h7 : k < s.size
    ·have hx7 := hx8 h7
     clear hx8
     repeat' ((conv => whnf);first | (refine Sbx.mk ⟨k,h7,rfl,?_⟩;rw [hx7]) | refine Gs.id ?_ | with_reducible refine Brn.T rfl ?_ | with_reducible refine Brn.F rfl ?_ | refine Brn.T (by (try simp only [smT]);first | rfl | omega | fail) ?_ | (refine Bnd.mk (fun hm => ?_);(try simp only [smT] at hm)) | refine Rng.mk (by (try simp only [smT]);omega) ?_ | fail)
     all_goals (conv => whnf)
     all_goals refine RetO.mk ⟨[],_,_,(by exact LeS.ts (by repeat (first | exact LeCs.nil | refine LeCs.cons (by first | exact LeC.d (by first | exact LeD.u rfl | fail) | fail) ?_))),(by repeat (first | exact LeO.nil | fail)),rfl,rfl⟩
    ·clear hx8
     repeat' ((conv => whnf);first | refine Gs.id ?_ | with_reducible refine Brn.T rfl ?_ | with_reducible refine Brn.F rfl ?_ | refine Brn.T (by (try simp only [smT]);first | rfl | omega | fail) ?_ | refine Brn.F (by (try simp only [smT]);first | rfl | omega | fail) ?_ | (refine Bnd.mk (fun hm => ?_);(try simp only [smT] at hm)) | refine Rng.mk (by (try simp only [smT]);omega) ?_ | fail)
     all_goals (conv => whnf)
     all_goals refine RetO.mk ⟨[],_,_,(by exact LeS.ts (by repeat (first | exact LeCs.nil | refine LeCs.cons (by first | exact LeC.d (by first | exact LeD.u rfl | fail) | fail) ?_))),(by repeat (first | exact LeO.nil | fail)),rfl,rfl⟩
 ·have hae : acc.length = l.length - 1 := by omega
  have hdr : (l.take (l.length - 1)).drop acc.length = [] := List.drop_eq_nil_of_le (by omega)
  rw [hdr,rdM]
  dsimp only
  obtain ⟨z,hz0⟩ : ∃ z,l[l.length - 1]? = some z := ⟨_,List.getElem?_eq_getElem (by omega)⟩
  have hrz : (strs l)[l.length - 1]? = some [V.str z] := by unfold strs;rw [List.getElem?_map,hz0];rfl
  have hsm := summary_R (vds acc) (by omega)
  unfold badEnd
  rw [hz0,Option.getD_some]
  generalize (ctM (vds acc)).line = ln at *
  have hzl := toList_beq z ln
  clear hdr he hz0
  by_cases hq : z = ln
  ·rw [decide_eq_true hq] at hzl
   rw [if_pos hq]
   clear hq
   repeat' ((conv => whnf);first | refine (Ix.mk ⟨l.length - 1,[V.str z],by omega,hrz,?_⟩) | rw [hzl] | refine Gs.id ?_ | with_reducible refine Brn.F rfl ?_ | refine Brn.F (by (try simp only [smT]);first | rfl | omega | fail) ?_ | (refine Bnd.mk (fun hm => ?_);(try simp only [smT] at hm)) | refine Rng.mk (by (try simp only [smT]);omega) ?_ | refine Drw.ofT (T := tt) (i := 16) [7] [0,1,2,3,4,5,6,8] (OF.fst 0 (OF.fst 1 (OF.fst 2 (OF.fst 3 (OF.fst 4 (OF.fst 5 (OF.fst 6 (OF.alt 7 (OF.fst 8 OF.nil) OF.nil)))))))) (by kernel_rfl) ?_ | (refine CL.mk (Or.inr (Raw.callR (by repeat (first | exact ArgR.nil | refine ArgR.d rfl (by first | exact BorR.ar rfl (by first | rfl | (simp;done)) | fail) ?_ | fail)) rfl (hsm) ⟨_,rfl,rfl⟩ rfl ?_));refine Bk.mk rfl rfl ?_))
   all_goals (conv => whnf)
   all_goals refine RetO.mk ⟨[(934,.k 900),(935,.k 901)],_,_,(by exact LeS.ts (by repeat (first | exact LeCs.nil | refine LeCs.cons (by first | exact LeC.d (by first | exact LeD.u rfl | exact LeD.ow rfl rfl | fail) | fail) ?_))),(by repeat (first | exact LeO.nil | refine LeO.ar rfl rfl (by first | rfl | fail) ?_ | fail)),rfl,rfl⟩
  ·rw [decide_eq_false hq] at hzl
   rw [if_neg hq]
   have hcast : ((l.length - 1 : Nat) : Int) = (l.length : Int) - 1 := by omega
   have hpost : resPost (.inl (l.length - 1)) = Iso (nil2 ((l.length : Int) - 1)) [] := by rw [← hcast];rfl
   rw [hpost]
   clear hq hpost
   repeat' ((conv => whnf);first | refine (Ix.mk ⟨l.length - 1,[V.str z],by omega,hrz,?_⟩) | rw [hzl] | refine Gs.id ?_ | with_reducible refine Brn.T rfl ?_ | refine Brn.F (by (try simp only [smT]);first | rfl | omega | fail) ?_ | (refine Bnd.mk (fun hm => ?_);(try simp only [smT] at hm)) | refine Rng.mk (by (try simp only [smT]);omega) ?_ | refine Drw.ofT (T := tt) (i := 16) [7] [0,1,2,3,4,5,6,8] (OF.fst 0 (OF.fst 1 (OF.fst 2 (OF.fst 3 (OF.fst 4 (OF.fst 5 (OF.fst 6 (OF.alt 7 (OF.fst 8 OF.nil) OF.nil)))))))) (by kernel_rfl) ?_ | (refine CL.mk (Or.inr (Raw.callR (by repeat (first | exact ArgR.nil | refine ArgR.d rfl (by first | exact BorR.ar rfl (by first | rfl | (simp;done)) | fail) ?_ | fail)) rfl (hsm) ⟨_,rfl,rfl⟩ rfl ?_));refine Bk.mk rfl rfl ?_))
   all_goals (conv => whnf)
   all_goals refine RetO.mk ⟨[],_,_,(by exact LeS.ts (by repeat (first | exact LeCs.nil | refine LeCs.cons (by first | exact LeC.d (by first | exact LeD.u rfl | exact LeD.u (by simp;done) | fail) | fail) ?_))),(by repeat (first | exact LeO.nil | fail)),rfl,rfl⟩
end Go.Proofs.YtjpaaaecbgmcgaaGreatDoor
namespace Go.Proofs.YtjpaaaecbgmcgaaGreatDoor
open Go.RowKit
abbrev ownC (k n : Nat) : SV := .t [.d (.ow k n),.a [.u (.int .i64 0),.u (.int .i64 0)]]
def chkPost (zt : Fz) : (Int × Int) ⊕ List Rp → SV → List (Nat × Ob) → Prop
 | .inl f => Iso (nilF f.1 f.2) [(907,tbOb zt)]
 | .inr rs => Iso (ownC 933 rs.length) [(933,.ar 58 2 (rs.map rwV)),(907,tbOb zt)]
set_option maxHeartbeats 2000000 in
theorem check_T (l : List ByteArray) (f m : Int) (hf : 0 ≤ f ∧ f ≤ 1000) (hl : l.length ≤ 9000000000) (hsz : ∀ s ∈ l,s.size < 4294967281) (zt : Fz) (hz : Tab zt) (hmx : TabM zt) :
  CallsA Tryz.prog 30 [.d (.u (strs' l)),di f,di m] [(907,tbOb zt)] (chkPost zt (chkM l f m)) := by
 have hr := read_T l hl hsz zt hz hmx
 unfold chkM
 cases hq : readM l with
 | inl i =>
  rw [hq] at hr
  have hr : CallsA Tryz.prog 49 [.d (.u (strs' l))] [(907,tbOb zt)] (Iso (nilI i) [(907,tbOb zt)]) := hr
  have hb := readM_bad hq
  clear hq
  refine callsA_of_vcO (T := tt) Tryz.func30 rfl rfl rfl rfl rfl ?_
  repeat' ((conv => whnf);first | refine Gs.id ?_ | with_reducible refine Brn.T rfl ?_ | refine Rng.mk (by (try simp only [smT]);omega) ?_ | (refine CL.mk (Or.inr (Raw.callI [907] [907] rfl rfl rfl rfl rfl rfl rfl (hr) ?_));rintro _ _ ⟨rfl,rfl⟩;refine Bk.mk rfl rfl ?_))
  all_goals (conv => whnf)
  all_goals refine RetO.mk ⟨[(907,.k 907)],_,_,(by exact LeS.ts (by repeat (first | exact LeCs.nil | refine LeCs.cons (by first | exact LeC.d (by first | exact LeD.u rfl | fail) | exact LeC.a (by repeat (first | exact LeL.nil | refine LeL.cons (by first | exact LeD.u rfl | fail) ?_))) ?_))),(by repeat (first | exact LeO.nil | refine LeO.ab rfl rfl (by repeat (first | exact LeL.nil | fail)) (by first | rfl | fail) ?_ | fail)),rfl,rfl⟩
 | inr rs =>
  rw [hq] at hr
  have hr : CallsA Tryz.prog 49 [.d (.u (strs' l))] [(907,tbOb zt)] (Iso (ownI rs.length) [(933,.ar 58 2 (rs.map rwV)),(907,tbOb zt)]) := hr
  have hb := (readM_wf hq).2
  clear hq
  dsimp only
  by_cases h : 100 < rs.length
  ·rw [if_pos h]
   refine callsA_of_vcO (T := tt) Tryz.func30 rfl rfl rfl rfl rfl ?_
   repeat' ((conv => whnf);first | refine Gs.id ?_ | with_reducible refine Brn.F rfl ?_ | refine Brn.T (by (try simp only [smT]);first | rfl | omega | fail) ?_ | (refine Bnd.mk (fun hm => ?_);(try simp only [smT] at hm)) | (refine CL.mk (Or.inr (Raw.callI [907] [933,907] rfl rfl rfl rfl rfl rfl rfl (hr) ?_));rintro _ _ ⟨rfl,rfl⟩;refine Bk.mk rfl rfl ?_))
   all_goals (conv => whnf)
   all_goals refine RetO.mk ⟨[(907,.k 907)],_,_,(by exact LeS.ts (by repeat (first | exact LeCs.nil | refine LeCs.cons (by first | exact LeC.d (by first | exact LeD.u rfl | fail) | exact LeC.a (by repeat (first | exact LeL.nil | refine LeL.cons (by first | exact LeD.u rfl | fail) ?_))) ?_))),(by repeat (first | exact LeO.nil | refine LeO.ab rfl rfl (by repeat (first | exact LeL.nil | fail)) (by first | rfl | fail) ?_ | fail)),rfl,rfl⟩
  ·rw [if_neg h]
   refine callsA_of_vcO (T := tt) Tryz.func30 rfl rfl rfl rfl rfl ?_
   repeat' ((conv => whnf);first | refine Gs.id ?_ | with_reducible refine Brn.F rfl ?_ | refine Brn.F (by (try simp only [smT]);first | rfl | omega | fail) ?_ | (refine Bnd.mk (fun hm => ?_);(try simp only [smT] at hm)) | (refine CL.mk (Or.inr (Raw.callI [907] [933,907] rfl rfl rfl rfl rfl rfl rfl (hr) ?_));rintro _ _ ⟨rfl,rfl⟩;refine Bk.mk rfl rfl ?_))
   all_goals (conv => whnf)
   all_goals refine RetO.mk ⟨[(933,.k 933),(907,.k 907)],_,_,(by exact LeS.ts (by repeat (first | exact LeCs.nil | refine LeCs.cons (by first | exact LeC.d (by first | exact LeD.ow rfl rfl | fail) | exact LeC.a (by repeat (first | exact LeL.nil | refine LeL.cons (by first | exact LeD.u rfl | fail) ?_))) ?_))),(by repeat (first | exact LeO.nil | refine LeO.ar rfl rfl (by first | rfl | fail) ?_ | refine LeO.ab rfl rfl (by repeat (first | exact LeL.nil | fail)) (by first | rfl | fail) ?_ | fail)),rfl,rfl⟩
def cmpRes (a b : List ByteArray) : (Int × Int) ⊕ List ByteArray :=
 match chkM a 0 (-1) with
 | .inl f => .inl f
 | .inr x =>
  match chkM b 1000 (-2) with
  | .inl f => .inl f
  | .inr y => .inr (cmpM x y)
def cmpPost (zt : Fz) : (Int × Int) ⊕ List ByteArray → SV → List (Nat × Ob) → Prop
 | .inl f => Iso (nilF f.1 f.2) [(907,tbOb zt)]
 | .inr L => Iso (ownF L.length) [(931,.ar 9 1 (strs L)),(907,tbOb zt)]
theorem chkM_wf {l : List ByteArray} {f m : Int} {rs : List Rp} (h : chkM l f m = .inr rs) : WfR rs ∧ rs.length ≤ 100 := by
 unfold chkM at h
 split at h
 ·cases h
 ·rename_i q hq
  split at h
  ·cases h
  ·cases h
   exact ⟨(readM_wf hq).1,by omega⟩
theorem dif1_len (b : List Rp) (l : List Rp) : (l.filterMap (dif1 b)).length ≤ l.length := List.length_filterMap_le _ _
theorem dif2_len (b : List Rp) (l : List Rp) : (l.filterMap (dif2 b)).length ≤ l.length := List.length_filterMap_le _ _
theorem now_size {b : List Rp} (w : WfR b) (n : ByteArray) : (nowM b n).size ≤ 4010 := by
 unfold nowM findM
 cases h : b.find? fun p => decide (p.1 = n) with
 | none => show goneB.size ≤ 4010;decide
 | some p => exact (w.sz p (List.mem_of_find?_eq_some h)).2
set_option maxHeartbeats 8000000 in
theorem compare_T (a b : List ByteArray) (hla : a.length ≤ 9000000000) (hlb : b.length ≤ 9000000000) (hsa : ∀ s ∈ a,s.size < 4294967281) (hsb : ∀ s ∈ b,s.size < 4294967281) (zt : Fz) (hz : Tab zt) (hmx : TabM zt) :
  CallsA Tryz.prog 12 [.d (.u (strs' a)),.d (.u (strs' b))] [(907,tbOb zt)] (cmpPost zt (cmpRes a b)) := by
 have r1 := check_T a 0 (-1) (by omega) hla hsa zt hz hmx
 have r2 := check_T b 1000 (-2) (by omega) hlb hsb zt hz hmx
 unfold cmpRes
 cases q1 : chkM a 0 (-1) with
 | inl f =>
  obtain ⟨c,i⟩ := f
  rw [q1] at r1
  have r1 : CallsA Tryz.prog 30 [.d (.u (strs' a)),di 0,di (-1)] [(907,tbOb zt)] (Iso (nilF c i) [(907,tbOb zt)]) := r1
  have hc : c ≠ 0 := by
   unfold chkM at q1
   split at q1
   ·cases q1;decide
   ·split at q1
    ·cases q1;decide
    ·cases q1
  refine callsA_of_vcO (T := tt) Tryz.func12 rfl rfl rfl rfl rfl ?_
  repeat' ((conv => whnf);first | refine Gs.id ?_ | refine Brn.T (by (try simp only [smT]);first | rfl | assumption | fail) ?_ | refine Drw.of (T := tt) (i := 3) [2] [] [(0,true),(1,true),(2,false)] (by kernel_rfl) ?_ | (refine CL.mk (Or.inr (Raw.callI [907] [907] rfl rfl rfl rfl rfl rfl rfl (r1) ?_));rintro _ _ ⟨rfl,rfl⟩;refine Bk.mk rfl rfl ?_))
  all_goals (conv => whnf)
  all_goals refine RetO.mk ⟨[(907,.k 907)],_,_,(by exact LeS.ts (by repeat (first | exact LeCs.nil | refine LeCs.cons (by first | exact LeC.d (by first | exact LeD.u rfl | fail) | exact LeC.a (by repeat (first | exact LeL.nil | refine LeL.cons (by first | exact LeD.u rfl | fail) ?_))) ?_))),(by repeat (first | exact LeO.nil | refine LeO.ab rfl rfl (by repeat (first | exact LeL.nil | fail)) (by first | rfl | fail) ?_ | fail)),rfl,rfl⟩
 | inr x =>
  rw [q1] at r1
  have r1 : CallsA Tryz.prog 30 [.d (.u (strs' a)),di 0,di (-1)] [(907,tbOb zt)] (Iso (ownC 933 x.length) [(933,.ar 58 2 (x.map rwV)),(907,tbOb zt)]) := r1
  obtain ⟨wx,hx⟩ := chkM_wf q1
  cases q2 : chkM b 1000 (-2) with
  | inl f =>
   obtain ⟨c,i⟩ := f
   rw [q2] at r2
   have r2 : CallsA Tryz.prog 30 [.d (.u (strs' b)),di 1000,di (-2)] [(907,tbOb zt)] (Iso (nilF c i) [(907,tbOb zt)]) := r2
   have hc : c ≠ 0 := by
    unfold chkM at q2
    split at q2
    ·cases q2;decide
    ·split at q2
     ·cases q2;decide
     ·cases q2
   clear q1 q2
   refine callsA_of_vcO (T := tt) Tryz.func12 rfl rfl rfl rfl rfl ?_
   repeat' ((conv => whnf);first | refine Gs.id ?_ | with_reducible refine Brn.F rfl ?_ | refine Brn.T (by (try simp only [smT]);first | rfl | assumption | fail) ?_ | refine Drw.of (T := tt) (i := 6) [2] [] [(0,true),(1,true),(2,false)] (by kernel_rfl) ?_ | (refine CL.mk (Or.inr (Raw.callI [907] [907] rfl rfl rfl rfl rfl rfl rfl (r2) ?_));rintro _ _ ⟨rfl,rfl⟩;refine Bk.mk rfl rfl ?_) | (refine CL.mk (Or.inr (Raw.callI [907] [933,907] rfl rfl rfl rfl rfl rfl rfl (r1) ?_));rintro _ _ ⟨rfl,rfl⟩;refine Bk.mk rfl rfl ?_))
   all_goals (conv => whnf)
   all_goals refine RetO.mk ⟨[(907,.k 907)],_,_,(by exact LeS.ts (by repeat (first | exact LeCs.nil | refine LeCs.cons (by first | exact LeC.d (by first | exact LeD.u rfl | fail) | exact LeC.a (by repeat (first | exact LeL.nil | refine LeL.cons (by first | exact LeD.u rfl | fail) ?_))) ?_))),(by repeat (first | exact LeO.nil | refine LeO.ab rfl rfl (by repeat (first | exact LeL.nil | fail)) (by first | rfl | fail) ?_ | fail)),rfl,rfl⟩
  | inr y =>
   rw [q2] at r2
   have r2 : CallsA Tryz.prog 30 [.d (.u (strs' b)),di 1000,di (-2)] [(907,tbOb zt)] (Iso (ownC 933 y.length) [(933,.ar 58 2 (y.map rwV)),(907,tbOb zt)]) := r2
   have r2 : CallsA Tryz.prog 30 [.d (.u (strs' b)),di 1000,di (-2)] [(907,tbOb zt)] (Iso (ownC 936 y.length) [(936,.ar 58 2 (y.map rwV)),(907,tbOb zt)]) := r2.renO [(936,.k 933),(907,.k 907)] (by exact LeS.ts (by repeat (first | exact LeCs.nil | refine LeCs.cons (by first | exact LeC.d (by first | exact LeD.ow rfl rfl | fail) | exact LeC.a (by repeat (first | exact LeL.nil | refine LeL.cons (by first | exact LeD.u rfl | fail) ?_))) ?_))) (by repeat (first | exact LeO.nil | refine LeO.ar rfl rfl (by first | rfl | fail) ?_ | refine LeO.ab rfl rfl (by repeat (first | exact LeL.nil | fail)) (by first | rfl | fail) ?_ | fail))
   obtain ⟨wy,hy⟩ := chkM_wf q2
   clear q1 q2
   show CallsA _ _ _ _ (Iso (ownF (cmpM x y).length) [(931,.ar 9 1 (strs (cmpM x y))),(907,tbOb zt)])
   refine callsA_of_vcO (T := tt) Tryz.func12 rfl rfl rfl rfl rfl ?_
   repeat' ((conv => whnf);first | refine Gs.go (i := 8) ((Ghost.frzA 933 rfl (by repeat ((conv => whnf);first | exact trivial | refine Len.mk (by first | rfl | (simp;done) | fail) ?_))).trans (Ghost.frzA 936 rfl (by repeat ((conv => whnf);first | exact trivial | refine Len.mk (by first | rfl | (simp;done) | fail) ?_)))) ?_ | refine Gs.id ?_ | with_reducible refine Brn.F rfl ?_ | (refine Bnd.mk (fun hm => ?_);(try simp only [smT] at hm)) | (refine CL.mk (Or.inr (Raw.callI [907] [936,907] rfl rfl rfl rfl rfl rfl rfl (r2) ?_));rintro _ _ ⟨rfl,rfl⟩;refine Bk.mk rfl rfl ?_) | (refine CL.mk (Or.inr (Raw.callI [907] [933,907] rfl rfl rfl rfl rfl rfl rfl (r1) ?_));rintro _ _ ⟨rfl,rfl⟩;refine Bk.mk rfl rfl ?_))
   all_goals (conv => whnf)
   refine ⟨⟨Nat,fun i => i ≤ x.length,fun i => x.length - i,fun i => ⟨[(5,.d (.p 5 0)),(6,.d (.u (rws x))),(8,.d (.u (rws y))),(9,.d (.ow 900 ((x.take i).filterMap (dif1 y)).length)),(36,.d (.u (rws x))),(37,di x.length),(38,di i)],[(5,.bx 25 [.u (.int .i64 0),.u (.int .i64 0)]),(900,.ar 9 1 (strs ((x.take i).filterMap (dif1 y)))),(907,tbOb zt)]⟩,0,Nat.zero_le _,⟨[(5,.k 5),(900,.n 1),(907,.k 907)],⟨by (try dsimp only);(repeat (refine LeT.cons rfl (by first | exact LeS.d (by first | exact LeD.u rfl | exact LeD.p rfl | exact LeD.no rfl rfl | exact LeD.u (by simp;done) | fail) | fail) ?_));exact LeT.nil,by (try dsimp only);repeat (first | exact LeO.nil | refine LeO.bx rfl rfl (by repeat (first | exact LeL.nil | refine LeL.cons (by first | exact LeD.u rfl | fail) ?_)) ?_ | refine LeO.ab rfl rfl (by repeat (first | exact LeL.nil | fail)) (by first | rfl | fail) ?_ | refine LeO.no rfl rfl ?_)⟩⟩,fun i hi => ?_⟩⟩
   dsimp only at hi ⊢
   by_cases h9 : i < x.length
   ·obtain ⟨p,hp0⟩ : ∃ p,x[i]? = some p := ⟨_,List.getElem?_eq_getElem h9⟩
    have hrow : (x.map rwV)[i]? = some (rwV p) := by rw [List.getElem?_map,hp0];rfl
    have hps := wx.sz p (List.mem_of_getElem? hp0)
    have htk := fm_take (dif1 y) x i p hp0
    have hfl : ((x.take i).filterMap (dif1 y)).length ≤ 100 := by
     have := dif1_len y (x.take i)
     rw [List.length_take] at this
     omega
    have hns := now_size wy p.1
    have hfd := find_T y p.1 (by omega)
    obtain ⟨n,v⟩ := p
    have hrow : (x.map rwV)[i]? = some [V.str n,V.str v] := hrow
    dsimp only at hps hns hfd
    have hnv := toList_beq (nowM y n) v
    have hdf : dif1 y (n,v) = if nowM y n = v then none else some (difL (n,v) (nowM y n)) := rfl
    rw [hdf] at htk
    have hnow : nowM y n = (findM y n).getD goneB := rfl
    clear hdf hp0
    have hcz : (ByteArray.mk #[58,32]).size = 2 := rfl
    have haz : (ByteArray.mk #[32,45,62,32]).size = 4 := rfl
    have hgz : (ByteArray.mk #[103,111,110,101]).size = 4 := rfl
    generalize (x.take i).filterMap (dif1 y) = L at *
    have hsl : (strs L).length = L.length := by simp [strs]
    generalize findM y n = o at *
    generalize nowM y n = now at *
    subst hnow
    cases o with
    | none =>
     dsimp only [Option.getD_none,Option.isSome_none] at *
     by_cases hq : goneB = v
     ·rw [decide_eq_true hq] at hnv
      rw [if_pos hq] at htk
      have htk : (x.take (i + 1)).filterMap (dif1 y) = L := by rw [htk];simp
      clear hq
      repeat' ((conv => whnf);first | refine (Ix.mk ⟨i,[V.str n,V.str v],rfl,hrow,?_⟩) | rw [hnv] | refine Gs.id ?_ | with_reducible refine Brn.T rfl ?_ | with_reducible refine Brn.F rfl ?_ | refine Brn.T (by (try simp only [smT]);first | rfl | omega | fail) ?_ | refine Rng.mk (by (try simp only [smT]);omega) ?_ | (refine CL.mk (Or.inl ?_);(conv => whnf);refine Cl.is (hfd) rfl (by first | exact fun _ => rfl | fail) ?_) | fail)
      all_goals (conv => whnf)
      all_goals exact ⟨i + 1,by omega,by omega,[(5,.k 5),(900,.k 900),(907,.k 907)],by (rw [htk];exact ⟨by (try dsimp only);(repeat (refine LeT.cons rfl (by first | exact LeS.d (by first | exact LeD.u rfl | exact LeD.p rfl | exact LeD.ow rfl rfl | fail) | fail) ?_));exact LeT.nil,by (try dsimp only);repeat (first | exact LeO.nil | refine LeO.bx rfl rfl (by repeat (first | exact LeL.nil | refine LeL.cons (by first | exact LeD.u rfl | fail) ?_)) ?_ | refine LeO.ar rfl rfl (by first | rfl | fail) ?_ | refine LeO.ab rfl rfl (by repeat (first | exact LeL.nil | fail)) (by first | rfl | fail) ?_ | fail)⟩)⟩
     ·rw [decide_eq_false hq] at hnv
      rw [if_neg hq] at htk
      have htk : (x.take (i + 1)).filterMap (dif1 y) = L ++ [difL (n,v) goneB] := htk
      clear hq
      repeat' ((conv => whnf);first | refine (Ix.mk ⟨i,[V.str n,V.str v],rfl,hrow,?_⟩) | rw [hnv] | refine Cat.mk (by unfold maxLen;(try simp only [ByteArray.size_append]);omega) ?_ | refine Gs.id ?_ | with_reducible refine Brn.T rfl ?_ | refine Brn.T (by (try simp only [smT]);first | rfl | omega | fail) ?_ | refine Rng.mk (by (try simp only [smT]);omega) ?_ | refine Apd.mk (by first | rfl | simp) (by first | rfl | fail) (by (try simp only [smT]);first | omega | fail) (by unfold maxLen;first | (simp;omega) | fail) ?_ | (refine CL.mk (Or.inl ?_);(conv => whnf);refine Cl.is (hfd) rfl (by first | exact fun _ => rfl | fail) ?_) | fail)
      all_goals (conv => whnf)
      all_goals exact ⟨i + 1,by omega,by omega,[(5,.k 5),(900,.k 66),(907,.k 907)],by (rw [htk];exact ⟨by (try dsimp only);(repeat (refine LeT.cons rfl (by first | exact LeS.d (by first | exact LeD.u rfl | exact LeD.p rfl | exact LeD.ow rfl (by simp [difL]) | fail) | fail) ?_));exact LeT.nil,by (try dsimp only);repeat (first | exact LeO.nil | refine LeO.bx rfl rfl (by repeat (first | exact LeL.nil | refine LeL.cons (by first | exact LeD.u rfl | fail) ?_)) ?_ | refine LeO.ar rfl rfl (by first | rfl | simp [difL]) ?_ | refine LeO.ab rfl rfl (by repeat (first | exact LeL.nil | fail)) (by first | rfl | fail) ?_ | fail)⟩)⟩
    | some w =>
     dsimp only [Option.getD_some,Option.isSome_some] at *
     by_cases hq : w = v
     ·rw [decide_eq_true hq] at hnv
      rw [if_pos hq] at htk
      have htk : (x.take (i + 1)).filterMap (dif1 y) = L := by rw [htk];simp
      clear hq
      repeat' ((conv => whnf);first | refine (Ix.mk ⟨i,[V.str n,V.str v],rfl,hrow,?_⟩) | rw [hnv] | refine Gs.id ?_ | with_reducible refine Brn.F rfl ?_ | refine Brn.T (by (try simp only [smT]);first | rfl | omega | fail) ?_ | refine Rng.mk (by (try simp only [smT]);omega) ?_ | (refine CL.mk (Or.inl ?_);(conv => whnf);refine Cl.is (hfd) rfl (by first | exact fun _ => rfl | fail) ?_) | fail)
      all_goals (conv => whnf)
      all_goals exact ⟨i + 1,by omega,by omega,[(5,.k 5),(900,.k 900),(907,.k 907)],by (rw [htk];exact ⟨by (try dsimp only);(repeat (refine LeT.cons rfl (by first | exact LeS.d (by first | exact LeD.u rfl | exact LeD.p rfl | exact LeD.ow rfl rfl | fail) | fail) ?_));exact LeT.nil,by (try dsimp only);repeat (first | exact LeO.nil | refine LeO.bx rfl rfl (by repeat (first | exact LeL.nil | refine LeL.cons (by first | exact LeD.u rfl | fail) ?_)) ?_ | refine LeO.ar rfl rfl (by first | rfl | fail) ?_ | refine LeO.ab rfl rfl (by repeat (first | exact LeL.nil | fail)) (by first | rfl | fail) ?_ | fail)⟩)⟩
     ·rw [decide_eq_false hq] at hnv
      rw [if_neg hq] at htk
      have htk : (x.take (i + 1)).filterMap (dif1 y) = L ++ [difL (n,v) w] := htk
      clear hq
      repeat' ((conv => whnf);first | refine (Ix.mk ⟨i,[V.str n,V.str v],rfl,hrow,?_⟩) | rw [hnv] | refine Cat.mk (by unfold maxLen;(try simp only [ByteArray.size_append]);omega) ?_ | refine Gs.id ?_ | with_reducible refine Brn.T rfl ?_ | with_reducible refine Brn.F rfl ?_ | refine Brn.T (by (try simp only [smT]);first | rfl | omega | fail) ?_ | refine Rng.mk (by (try simp only [smT]);omega) ?_ | refine Apd.mk (by first | rfl | simp) (by first | rfl | fail) (by (try simp only [smT]);first | omega | fail) (by unfold maxLen;first | (simp;omega) | fail) ?_ | (refine CL.mk (Or.inl ?_);(conv => whnf);refine Cl.is (hfd) rfl (by first | exact fun _ => rfl | fail) ?_) | fail)
      all_goals (conv => whnf)
      all_goals exact ⟨i + 1,by omega,by omega,[(5,.k 5),(900,.k 66),(907,.k 907)],by (rw [htk];exact ⟨by (try dsimp only);(repeat (refine LeT.cons rfl (by first | exact LeS.d (by first | exact LeD.u rfl | exact LeD.p rfl | exact LeD.ow rfl (by simp [difL]) | fail) | fail) ?_));exact LeT.nil,by (try dsimp only);repeat (first | exact LeO.nil | refine LeO.bx rfl rfl (by repeat (first | exact LeL.nil | refine LeL.cons (by first | exact LeD.u rfl | fail) ?_)) ?_ | refine LeO.ar rfl rfl (by first | rfl | simp [difL]) ?_ | refine LeO.ab rfl rfl (by repeat (first | exact LeL.nil | fail)) (by first | rfl | fail) ?_ | fail)⟩)⟩
   ·obtain rfl : i = x.length := by omega
    have htx : x.take x.length = x := List.take_length
    have hfx := dif1_len y x
    have hcm : cmpM x y = x.filterMap (dif1 y) ++ y.filterMap (dif2 x) := rfl
    rw [htx,hcm]
    generalize x.filterMap (dif1 y) = L1 at *
    repeat' ((conv => whnf);first | refine Gs.id ?_ | refine Brn.F (by (try simp only [smT]);first | rfl | omega | fail) ?_ | (refine Bnd.mk (fun hm => ?_);(try simp only [smT] at hm)) | fail)
    all_goals (conv => whnf)
    refine ⟨⟨Nat,fun k => k ≤ y.length,fun k => y.length - k,fun k => ⟨[(5,.d (.p 5 0)),(6,.d (.u (rws x))),(9,.d (.ow 900 (L1 ++ (y.take k).filterMap (dif2 x)).length)),(68,.d (.u (rws y))),(69,di y.length),(70,di k)],[(5,.bx 25 [.u (.int .i64 0),.u (.int .i64 0)]),(900,.ar 9 1 (strs (L1 ++ (y.take k).filterMap (dif2 x)))),(907,tbOb zt)]⟩,0,Nat.zero_le _,⟨[(5,.k 5),(900,.k 900),(907,.k 907)],⟨by (try dsimp only);(repeat (refine LeT.cons rfl (by first | exact LeS.d (by first | exact LeD.u rfl | exact LeD.p rfl | exact LeD.ow rfl (by simp) | exact LeD.u (by simp;done) | fail) | fail) ?_));exact LeT.nil,by (try dsimp only);repeat (first | exact LeO.nil | refine LeO.bx rfl rfl (by repeat (first | exact LeL.nil | refine LeL.cons (by first | exact LeD.u rfl | fail) ?_)) ?_ | refine LeO.ar rfl rfl (by first | rfl | simp) ?_ | refine LeO.ab rfl rfl (by repeat (first | exact LeL.nil | fail)) (by first | rfl | fail) ?_ | fail)⟩⟩,fun k hk => ?_⟩⟩
    dsimp only at hk ⊢
    by_cases h8 : k < y.length
    ·obtain ⟨p,hp0⟩ : ∃ p,y[k]? = some p := ⟨_,List.getElem?_eq_getElem h8⟩
     have hrow : (y.map rwV)[k]? = some (rwV p) := by rw [List.getElem?_map,hp0];rfl
     have hps := wy.sz p (List.mem_of_getElem? hp0)
     have htk := fm_take (dif2 x) y k p hp0
     have hfl : (L1 ++ (y.take k).filterMap (dif2 x)).length ≤ 200 := by
      have := dif2_len x (y.take k)
      rw [List.length_take] at this
      rw [List.length_append]
      omega
     have hfd := find_T x p.1 (by omega)
     obtain ⟨n,v⟩ := p
     have hrow : (y.map rwV)[k]? = some [V.str n,V.str v] := hrow
     dsimp only at hps hfd
     have hdf : dif2 x (n,v) = if (findM x n).isSome = true then none else some (newL (n,v)) := rfl
     rw [hdf] at htk
     clear hdf hp0
     have hcz : (ByteArray.mk #[58,32,110,101,119,32,45,62,32]).size = 9 := rfl
     generalize findM x n = o at *
     generalize (y.take k).filterMap (dif2 x) = L2 at *
     have hsl : (strs (L1 ++ L2)).length = (L1 ++ L2).length := by simp [strs]
     have hl12 : L1.length + L2.length ≤ 200 := by rw [List.length_append] at hfl;exact hfl
     cases o with
     | none =>
      dsimp only [Option.getD_none,Option.isSome_none] at *
      rw [if_neg (by simp)] at htk
      have hass : L1 ++ (y.take (k + 1)).filterMap (dif2 x) = (L1 ++ L2) ++ [newL (n,v)] := by rw [htk,← List.append_assoc];rfl
      clear htk
      repeat' ((conv => whnf);first | refine (Ix.mk ⟨k,[V.str n,V.str v],rfl,hrow,?_⟩) | refine Cat.mk (by unfold maxLen;(try simp only [ByteArray.size_append]);omega) ?_ | refine Gs.id ?_ | with_reducible refine Brn.T rfl ?_ | refine Brn.T (by (try simp only [smT]);first | rfl | omega | fail) ?_ | refine Rng.mk (by (try simp only [smT]);omega) ?_ | refine Apd.mk (by first | rfl | simp) (by first | rfl | fail) (by (try simp only [smT]);first | omega | fail) (by unfold maxLen;first | (simp;omega) | fail) ?_ | (refine CL.mk (Or.inl ?_);(conv => whnf);refine Cl.is (hfd) rfl (by first | exact fun _ => rfl | fail) ?_) | fail)
      all_goals (conv => whnf)
      all_goals exact ⟨k + 1,by omega,by omega,[(5,.k 5),(900,.k 91),(907,.k 907)],by (rw [hass];exact ⟨by (try dsimp only);(repeat (refine LeT.cons rfl (by first | exact LeS.d (by first | exact LeD.u rfl | exact LeD.p rfl | exact LeD.ow rfl (by simp [newL]) | fail) | fail) ?_));exact LeT.nil,by (try dsimp only);repeat (first | exact LeO.nil | refine LeO.bx rfl rfl (by repeat (first | exact LeL.nil | refine LeL.cons (by first | exact LeD.u rfl | fail) ?_)) ?_ | refine LeO.ar rfl rfl (by first | rfl | simp [newL]) ?_ | refine LeO.ab rfl rfl (by repeat (first | exact LeL.nil | fail)) (by first | rfl | fail) ?_ | fail)⟩)⟩
     | some w =>
      dsimp only [Option.getD_some,Option.isSome_some] at *
      rw [if_pos rfl] at htk
      have e : (y.take (k + 1)).filterMap (dif2 x) = L2 := by rw [htk];simp
      clear htk
      repeat' ((conv => whnf);first | refine (Ix.mk ⟨k,[V.str n,V.str v],rfl,hrow,?_⟩) | refine Gs.id ?_ | with_reducible refine Brn.F rfl ?_ | refine Brn.T (by (try simp only [smT]);first | rfl | omega | fail) ?_ | refine Rng.mk (by (try simp only [smT]);omega) ?_ | (refine CL.mk (Or.inl ?_);(conv => whnf);refine Cl.is (hfd) rfl (by first | exact fun _ => rfl | fail) ?_) | fail)
      all_goals (conv => whnf)
      all_goals exact ⟨k + 1,by omega,by omega,[(5,.k 5),(900,.k 900),(907,.k 907)],by (rw [e];exact ⟨by (try dsimp only);(repeat (refine LeT.cons rfl (by first | exact LeS.d (by first | exact LeD.u rfl | exact LeD.p rfl | exact LeD.ow rfl rfl | fail) | fail) ?_));exact LeT.nil,by (try dsimp only);repeat (first | exact LeO.nil | refine LeO.bx rfl rfl (by repeat (first | exact LeL.nil | refine LeL.cons (by first | exact LeD.u rfl | fail) ?_)) ?_ | refine LeO.ar rfl rfl (by first | rfl | fail) ?_ | refine LeO.ab rfl rfl (by repeat (first | exact LeL.nil | fail)) (by first | rfl | fail) ?_ | fail)⟩)⟩
    ·obtain rfl : k = y.length := by omega
     rw [List.take_length]
     repeat' ((conv => whnf);first | refine Gs.id ?_ | refine Brn.F (by (try simp only [smT]);first | rfl | omega | fail) ?_ | fail)
     all_goals (conv => whnf)
     all_goals refine RetO.mk ⟨[(931,.k 900),(907,.k 907)],_,_,(by exact LeS.ts (by repeat (first | exact LeCs.nil | refine LeCs.cons (by first | exact LeC.d (by first | exact LeD.ow rfl rfl | fail) | exact LeC.a (by repeat (first | exact LeL.nil | refine LeL.cons (by first | exact LeD.u rfl | fail) ?_))) ?_))),(by repeat (first | exact LeO.nil | refine LeO.ar rfl rfl (by first | rfl | fail) ?_ | refine LeO.ab rfl rfl (by repeat (first | exact LeL.nil | fail)) (by first | rfl | fail) ?_ | fail)),rfl,rfl⟩
end Go.Proofs.YtjpaaaecbgmcgaaGreatDoor
namespace Go.Proofs.YtjpaaaecbgmcgaaGreatDoor
open Go.RowKit
theorem lastM_app (n : ByteArray) : ∀ (l r : List Rp) (now : ByteArray),lastM n (l ++ r) now = lastM n r (lastM n l now)
 | [],_,_ => rfl
 | p :: l,r,now => by rw [List.cons_append,lastM,lastM];exact lastM_app n l r _
theorem lastM_take (n : ByteArray) (l : List Rp) (k : Nat) (p : Rp) (now : ByteArray) (h : l[k]? = some p) : lastM n (l.take (k + 1)) now = if p.1 = n then p.2 else lastM n (l.take k) now := by
 rw [List.take_add_one,h,lastM_app];rfl
theorem lastM_size {y : List Rp} (w : WfR y) (n : ByteArray) : ∀ k,(lastM n (y.take k) goneB).size ≤ 4010
 | 0 => by show goneB.size ≤ 4010;decide
 | k + 1 => by
  have ih := lastM_size w n k
  cases h : y[k]? with
  | none => rw [List.take_add_one,h];simpa using ih
  | some p =>
   rw [lastM_take n y k p goneB h]
   split
   ·exact (w.sz p (List.mem_of_getElem? h)).2
   ·exact ih
def cmpPostR : (Int × Int) ⊕ List ByteArray → SV → List (Nat × Ob) → Prop
 | .inl f => Iso (nilF f.1 f.2) []
 | .inr L => Iso (ownG L.length) [(932,.ar 9 1 (strs L))]
set_option maxHeartbeats 8000000 in
theorem compared_R (a b : List ByteArray) (hla : a.length ≤ 9000000000) (hlb : b.length ≤ 9000000000) (hsa : ∀ s ∈ a,s.size ≤ 9000000000) (hsb : ∀ s ∈ b,s.size ≤ 9000000000) :
  CallsA Tryz.prog 13 [.d (.u (strs' a)),.d (.u (strs' b))] [] (cmpPostR (cmpRes a b)) := by
 have hat := fun a b => at_R a b
 have r1 := results_R a hla hsa
 have r2 := results_R b hlb hsb
 unfold cmpRes chkM
 cases q1 : readM a with
 | inl i =>
  rw [q1] at r1
  have r1 : CallsA Tryz.prog 32 [.d (.u (strs' a))] [] (Iso (nil2 i) []) := r1
  have hb := readM_bad q1
  clear q1
  dsimp only
  rw [Int.zero_add]
  refine callsA_of_vcO (T := tt) Tryz.func13 rfl rfl rfl rfl rfl ?_
  repeat' ((conv => whnf);first | refine Gs.id ?_ | with_reducible refine Brn.T rfl ?_ | (refine CL.mk (Or.inl ?_);(conv => whnf);first | refine Cl.is (r1) rfl (by first | exact fun _ => rfl | fail) ?_ | refine Cl.is (hat _ _) rfl (by first | exact fun _ => rfl | fail) ?_) | fail)
  all_goals (conv => whnf)
  all_goals refine RetO.mk ⟨[],_,_,(by exact LeS.ts (by repeat (first | exact LeCs.nil | refine LeCs.cons (by first | exact LeC.d (by first | exact LeD.u rfl | fail) | exact LeC.a (by repeat (first | exact LeL.nil | refine LeL.cons (by first | exact LeD.u rfl | fail) ?_))) ?_))),(by repeat (first | exact LeO.nil | fail)),rfl,rfl⟩
 | inr x =>
  rw [q1] at r1
  have r1 : CallsA Tryz.prog 32 [.d (.u (strs' a))] [] (Iso (own2 934 935 (nms x).length (vds x).length) [(934,.ar 9 1 (strs (nms x))),(935,.ar 9 1 (strs (vds x)))]) := r1
  obtain ⟨wx,hx⟩ := readM_wf q1
  have hnx : (nms x).length = x.length := by simp
  have hvx : (vds x).length = x.length := by simp
  clear q1
  dsimp only
  by_cases h1 : 100 < x.length
  ·rw [if_pos h1]
   refine callsA_of_vcO (T := tt) Tryz.func13 rfl rfl rfl rfl rfl ?_
   repeat' ((conv => whnf);first | refine Gs.id ?_ | with_reducible refine Brn.F rfl ?_ | refine Brn.T (by (try simp only [smT]);first | rfl | omega | fail) ?_ | (refine Bnd.mk (fun hm => ?_);(try simp only [smT] at hm)) | (refine CL.mk (Or.inl ?_);(conv => whnf);refine Cl.is (hat _ _) rfl (by first | exact fun _ => rfl | fail) ?_) | (refine CL.mk (Or.inr (Raw.callI [] [934,935] rfl rfl rfl rfl rfl rfl rfl (r1) ?_));rintro _ _ ⟨rfl,rfl⟩;refine Bk.mk rfl rfl ?_))
   all_goals (conv => whnf)
   all_goals refine RetO.mk ⟨[],_,_,(by exact LeS.ts (by repeat (first | exact LeCs.nil | refine LeCs.cons (by first | exact LeC.d (by first | exact LeD.u rfl | fail) | exact LeC.a (by repeat (first | exact LeL.nil | refine LeL.cons (by first | exact LeD.u rfl | fail) ?_))) ?_))),(by repeat (first | exact LeO.nil | fail)),rfl,rfl⟩
  rw [if_neg h1]
  dsimp only
  cases q2 : readM b with
  | inl i =>
   rw [q2] at r2
   have r2 : CallsA Tryz.prog 32 [.d (.u (strs' b))] [] (Iso (nil2 i) []) := r2
   have hb := readM_bad q2
   clear q2
   dsimp only
   refine callsA_of_vcO (T := tt) Tryz.func13 rfl rfl rfl rfl rfl ?_
   repeat' ((conv => whnf);first | refine Gs.id ?_ | with_reducible refine Brn.T rfl ?_ | with_reducible refine Brn.F rfl ?_ | refine Brn.F (by (try simp only [smT]);first | rfl | omega | fail) ?_ | (refine Bnd.mk (fun hm => ?_);(try simp only [smT] at hm)) | refine Rng.mk (by (try simp only [smT]);omega) ?_ | (refine CL.mk (Or.inl ?_);(conv => whnf);first | refine Cl.is (r2) rfl (by first | exact fun _ => rfl | fail) ?_ | refine Cl.is (hat _ _) rfl (by first | exact fun _ => rfl | fail) ?_) | (refine CL.mk (Or.inr (Raw.callI [] [934,935] rfl rfl rfl rfl rfl rfl rfl (r1) ?_));rintro _ _ ⟨rfl,rfl⟩;refine Bk.mk rfl rfl ?_))
   all_goals (conv => whnf)
   all_goals refine RetO.mk ⟨[],_,_,(by exact LeS.ts (by repeat (first | exact LeCs.nil | refine LeCs.cons (by first | exact LeC.d (by first | exact LeD.u rfl | fail) | exact LeC.a (by repeat (first | exact LeL.nil | refine LeL.cons (by first | exact LeD.u rfl | fail) ?_))) ?_))),(by repeat (first | exact LeO.nil | fail)),rfl,rfl⟩
  | inr y =>
   rw [q2] at r2
   have r2 : CallsA Tryz.prog 32 [.d (.u (strs' b))] [] (Iso (own2 934 935 (nms y).length (vds y).length) [(934,.ar 9 1 (strs (nms y))),(935,.ar 9 1 (strs (vds y)))]) := r2
   have r2 : CallsA Tryz.prog 32 [.d (.u (strs' b))] [] (Iso (own2 936 937 (nms y).length (vds y).length) [(936,.ar 9 1 (strs (nms y))),(937,.ar 9 1 (strs (vds y)))]) := r2.renO [(936,.k 934),(937,.k 935)] (by exact LeS.ts (by repeat (first | exact LeCs.nil | refine LeCs.cons (by first | exact LeC.d (by first | exact LeD.u rfl | exact LeD.ow rfl rfl | fail) | fail) ?_))) (by repeat (first | exact LeO.nil | refine LeO.ar rfl rfl (by first | rfl | fail) ?_ | fail))
   obtain ⟨wy,hy⟩ := readM_wf q2
   have hny : (nms y).length = y.length := by simp
   have hvy : (vds y).length = y.length := by simp
   clear q2
   dsimp only
   by_cases h2 : 100 < y.length
   ·rw [if_pos h2]
    refine callsA_of_vcO (T := tt) Tryz.func13 rfl rfl rfl rfl rfl ?_
    repeat' ((conv => whnf);first | refine Gs.id ?_ | with_reducible refine Brn.F rfl ?_ | refine Brn.T (by (try simp only [smT]);first | rfl | omega | fail) ?_ | refine Brn.F (by (try simp only [smT]);first | rfl | omega | fail) ?_ | (refine Bnd.mk (fun hm => ?_);(try simp only [smT] at hm)) | (refine CL.mk (Or.inl ?_);(conv => whnf);refine Cl.is (hat _ _) rfl (by first | exact fun _ => rfl | fail) ?_) | (refine CL.mk (Or.inr (Raw.callI [] [936,937] rfl rfl rfl rfl rfl rfl rfl (r2) ?_));rintro _ _ ⟨rfl,rfl⟩;refine Bk.mk rfl rfl ?_) | (refine CL.mk (Or.inr (Raw.callI [] [934,935] rfl rfl rfl rfl rfl rfl rfl (r1) ?_));rintro _ _ ⟨rfl,rfl⟩;refine Bk.mk rfl rfl ?_))
    all_goals (conv => whnf)
    all_goals refine RetO.mk ⟨[],_,_,(by exact LeS.ts (by repeat (first | exact LeCs.nil | refine LeCs.cons (by first | exact LeC.d (by first | exact LeD.u rfl | fail) | exact LeC.a (by repeat (first | exact LeL.nil | refine LeL.cons (by first | exact LeD.u rfl | fail) ?_))) ?_))),(by repeat (first | exact LeO.nil | fail)),rfl,rfl⟩
   rw [if_neg h2]
   dsimp only
   show CallsA _ _ _ _ (Iso (ownG (cmpM x y).length) [(932,.ar 9 1 (strs (cmpM x y)))])
   refine callsA_of_vcO (T := tt) Tryz.func13 rfl rfl rfl rfl rfl ?_
   repeat' ((conv => whnf);first | refine Gs.go (i := 12) ((((Ghost.frzA 934 rfl (by repeat ((conv => whnf);first | exact trivial | refine Len.mk (by first | rfl | (simp;done) | fail) ?_))).trans (Ghost.frzA 935 rfl (by repeat ((conv => whnf);first | exact trivial | refine Len.mk (by first | rfl | (simp;done) | fail) ?_)))).trans (Ghost.frzA 936 rfl (by repeat ((conv => whnf);first | exact trivial | refine Len.mk (by first | rfl | (simp;done) | fail) ?_)))).trans (Ghost.frzA 937 rfl (by repeat ((conv => whnf);first | exact trivial | refine Len.mk (by first | rfl | (simp;done) | fail) ?_)))) ?_ | refine Gs.id ?_ | with_reducible refine Brn.F rfl ?_ | refine Brn.F (by (try simp only [smT]);first | rfl | omega | fail) ?_ | (refine Bnd.mk (fun hm => ?_);(try simp only [smT] at hm)) | (refine CL.mk (Or.inr (Raw.callI [] [936,937] rfl rfl rfl rfl rfl rfl rfl (r2) ?_));rintro _ _ ⟨rfl,rfl⟩;refine Bk.mk rfl rfl ?_) | (refine CL.mk (Or.inr (Raw.callI [] [934,935] rfl rfl rfl rfl rfl rfl rfl (r1) ?_));rintro _ _ ⟨rfl,rfl⟩;refine Bk.mk rfl rfl ?_))
   all_goals (conv => whnf)
   refine ⟨⟨Nat,fun i => i ≤ x.length,fun i => x.length - i,fun i => ⟨[(5,.d (.p 5 0)),(6,.d (.u (strs' (nms x)))),(7,.d (.u (strs' (vds x)))),(9,.d (.u (strs' (nms y)))),(10,.d (.u (strs' (vds y)))),(11,.d (.ow 900 ((x.take i).filterMap (dif1 y)).length)),(12,di i)],[(5,.bx 25 [.u (.int .i64 0),.u (.int .i64 0)]),(900,.ar 9 1 (strs ((x.take i).filterMap (dif1 y))))]⟩,0,Nat.zero_le _,⟨[(5,.k 5),(900,.n 1)],⟨by (try dsimp only);(repeat (refine LeT.cons rfl (by first | exact LeS.d (by first | exact LeD.u rfl | exact LeD.p rfl | exact LeD.no rfl rfl | fail) | fail) ?_));exact LeT.nil,by (try dsimp only);repeat (first | exact LeO.nil | refine LeO.bx rfl rfl (by repeat (first | exact LeL.nil | refine LeL.cons (by first | exact LeD.u rfl | fail) ?_)) ?_ | refine LeO.no rfl rfl ?_)⟩⟩,fun i hi => ?_⟩⟩
   dsimp only at hi ⊢
   by_cases h9 : i < x.length
   ·obtain ⟨p,hp0⟩ : ∃ p,x[i]? = some p := ⟨_,List.getElem?_eq_getElem h9⟩
    have hps := wx.sz p (List.mem_of_getElem? hp0)
    have htk := fm_take (dif1 y) x i p hp0
    have hfl : ((x.take i).filterMap (dif1 y)).length ≤ 100 := by
     have := dif1_len y (x.take i)
     rw [List.length_take] at this
     omega
    obtain ⟨n,v⟩ := p
    have hrn : (strs (nms x))[i]? = some [V.str n] := by simp [strs,nms,hp0]
    have hrv : (strs (vds x))[i]? = some [V.str v] := by simp [strs,vds,hp0]
    dsimp only at hps
    have hdf : dif1 y (n,v) = if nowM y n = v then none else some (difL (n,v) (nowM y n)) := rfl
    rw [hdf] at htk
    have hlast : lastM n y goneB = nowM y n := lastM_eq n y goneB wy.nd
    have hlz := lastM_size wy n
    clear hdf hp0
    generalize (x.take i).filterMap (dif1 y) = L at *
    have hsl : (strs L).length = L.length := by simp [strs]
    repeat' ((conv => whnf);first | refine Gs.id ?_ | refine Brn.T (by (try simp only [smT]);first | rfl | omega | fail) ?_ | (refine Bnd.mk (fun hm => ?_);(try simp only [smT] at hm)) | fail)
    all_goals (conv => whnf)
    refine ⟨⟨Nat,fun k => k ≤ y.length,fun k => y.length - k,fun k => ⟨[(5,.d (.p 5 0)),(6,.d (.u (strs' (nms x)))),(7,.d (.u (strs' (vds x)))),(9,.d (.u (strs' (nms y)))),(10,.d (.u (strs' (vds y)))),(11,.d (.ow 900 L.length)),(12,di i),(13,dsr (lastM n (y.take k) goneB)),(14,di k)],[(5,.bx 25 [.u (.int .i64 0),.u (.int .i64 0)]),(900,.ar 9 1 (strs L))]⟩,0,Nat.zero_le _,⟨[(5,.k 5),(900,.k 900)],⟨by (try dsimp only);(repeat (refine LeT.cons rfl (by first | exact LeS.d (by first | exact LeD.u rfl | exact LeD.p rfl | exact LeD.ow rfl rfl | fail) | fail) ?_));exact LeT.nil,by (try dsimp only);repeat (first | exact LeO.nil | refine LeO.bx rfl rfl (by repeat (first | exact LeL.nil | refine LeL.cons (by first | exact LeD.u rfl | fail) ?_)) ?_ | refine LeO.ar rfl rfl (by first | rfl | fail) ?_ | fail)⟩⟩,fun k hk => ?_⟩⟩
    dsimp only at hk ⊢
    by_cases h8 : k < y.length
    ·obtain ⟨p,hq0⟩ : ∃ p,y[k]? = some p := ⟨_,List.getElem?_eq_getElem h8⟩
     have hlt := lastM_take n y k p goneB hq0
     obtain ⟨m,w⟩ := p
     have hrm : (strs (nms y))[k]? = some [V.str m] := by simp [strs,nms,hq0]
     have hrw : (strs (vds y))[k]? = some [V.str w] := by simp [strs,vds,hq0]
     have hmn := toList_beq m n
     dsimp only at hlt
     have hlz1 := hlz k
     clear hlz hq0 hlast
     generalize lastM n (y.take k) goneB = now at *
     by_cases hq : m = n
     ·rw [decide_eq_true hq] at hmn
      rw [if_pos hq] at hlt
      clear hq
      repeat' ((conv => whnf);first | refine (Ix.mk ⟨i,[V.str n],rfl,hrn,?_⟩) | refine (Ix.mk ⟨k,[V.str m],rfl,hrm,?_⟩) | refine (Ix.mk ⟨k,[V.str w],rfl,hrw,?_⟩) | rw [hmn] | refine Gs.id ?_ | with_reducible refine Brn.T rfl ?_ | refine Brn.T (by (try simp only [smT]);first | rfl | omega | fail) ?_ | (refine Bnd.mk (fun hm => ?_);(try simp only [smT] at hm)) | refine Rng.mk (by (try simp only [smT]);omega) ?_ | refine Drw.of (T := tt) (i := 19) [] [] [(0,true),(1,true),(2,true),(3,true),(4,true),(5,true),(6,true),(7,true),(8,true)] (by kernel_rfl) ?_ | fail)
      all_goals (conv => whnf)
      all_goals exact ⟨k + 1,by omega,by omega,[(5,.k 5),(900,.k 900)],by (rw [hlt];exact ⟨by (try dsimp only);(repeat (refine LeT.cons rfl (by first | exact LeS.d (by first | exact LeD.u rfl | exact LeD.p rfl | exact LeD.ow rfl rfl | fail) | fail) ?_));exact LeT.nil,by (try dsimp only);repeat (first | exact LeO.nil | refine LeO.bx rfl rfl (by repeat (first | exact LeL.nil | refine LeL.cons (by first | exact LeD.u rfl | fail) ?_)) ?_ | refine LeO.ar rfl rfl (by first | rfl | fail) ?_ | fail)⟩)⟩
     ·rw [decide_eq_false hq] at hmn
      rw [if_neg hq] at hlt
      clear hq
      repeat' ((conv => whnf);first | refine (Ix.mk ⟨i,[V.str n],rfl,hrn,?_⟩) | refine (Ix.mk ⟨k,[V.str m],rfl,hrm,?_⟩) | rw [hmn] | refine Gs.id ?_ | with_reducible refine Brn.F rfl ?_ | refine Brn.T (by (try simp only [smT]);first | rfl | omega | fail) ?_ | (refine Bnd.mk (fun hm => ?_);(try simp only [smT] at hm)) | refine Rng.mk (by (try simp only [smT]);omega) ?_ | refine Drw.of (T := tt) (i := 19) [] [] [(0,true),(1,true),(2,true),(3,true),(4,true),(5,true),(6,true),(7,true),(8,true)] (by kernel_rfl) ?_ | fail)
      all_goals (conv => whnf)
      all_goals exact ⟨k + 1,by omega,by omega,[(5,.k 5),(900,.k 900)],by (rw [hlt];exact ⟨by (try dsimp only);(repeat (refine LeT.cons rfl (by first | exact LeS.d (by first | exact LeD.u rfl | exact LeD.p rfl | exact LeD.ow rfl rfl | fail) | fail) ?_));exact LeT.nil,by (try dsimp only);repeat (first | exact LeO.nil | refine LeO.bx rfl rfl (by repeat (first | exact LeL.nil | refine LeL.cons (by first | exact LeD.u rfl | fail) ?_)) ?_ | refine LeO.ar rfl rfl (by first | rfl | fail) ?_ | fail)⟩)⟩
    ·obtain rfl : k = y.length := by omega
     have hlz1 := hlz y.length
     rw [List.take_length] at hlz1 ⊢
     rw [hlast] at hlz1 ⊢
     clear hlz hlast
     have hnv := toList_beq (nowM y n) v
     have hcz : (ByteArray.mk #[58,32]).size = 2 := rfl
     have haz : (ByteArray.mk #[32,45,62,32]).size = 4 := rfl
     generalize nowM y n = now at *
     by_cases hq : now = v
     ·rw [decide_eq_true hq] at hnv
      rw [if_pos hq] at htk
      have htk : (x.take (i + 1)).filterMap (dif1 y) = L := by rw [htk];simp
      clear hq
      repeat' ((conv => whnf);first | refine (Ix.mk ⟨i,[V.str v],rfl,hrv,?_⟩) | rw [hnv] | refine Gs.id ?_ | with_reducible refine Brn.F rfl ?_ | refine Brn.F (by (try simp only [smT]);first | rfl | omega | fail) ?_ | (refine Bnd.mk (fun hm => ?_);(try simp only [smT] at hm)) | refine Rng.mk (by (try simp only [smT]);omega) ?_ | fail)
      all_goals (conv => whnf)
      all_goals exact ⟨i + 1,by omega,by omega,[(5,.k 5),(900,.k 900)],by (rw [htk];exact ⟨by (try dsimp only);(repeat (refine LeT.cons rfl (by first | exact LeS.d (by first | exact LeD.u rfl | exact LeD.p rfl | exact LeD.ow rfl rfl | fail) | fail) ?_));exact LeT.nil,by (try dsimp only);repeat (first | exact LeO.nil | refine LeO.bx rfl rfl (by repeat (first | exact LeL.nil | refine LeL.cons (by first | exact LeD.u rfl | fail) ?_)) ?_ | refine LeO.ar rfl rfl (by first | rfl | fail) ?_ | fail)⟩)⟩
     ·rw [decide_eq_false hq] at hnv
      rw [if_neg hq] at htk
      have htk : (x.take (i + 1)).filterMap (dif1 y) = L ++ [difL (n,v) now] := htk
      clear hq
      repeat' ((conv => whnf);first | refine (Ix.mk ⟨i,[V.str n],rfl,hrn,?_⟩) | refine (Ix.mk ⟨i,[V.str v],rfl,hrv,?_⟩) | rw [hnv] | refine Cat.mk (by unfold maxLen;(try simp only [ByteArray.size_append]);omega) ?_ | refine Gs.id ?_ | with_reducible refine Brn.T rfl ?_ | refine Brn.F (by (try simp only [smT]);first | rfl | omega | fail) ?_ | (refine Bnd.mk (fun hm => ?_);(try simp only [smT] at hm)) | refine Rng.mk (by (try simp only [smT]);omega) ?_ | refine Apd.mk (by first | rfl | simp) (by first | rfl | fail) (by (try simp only [smT]);first | omega | fail) (by unfold maxLen;first | (simp;omega) | fail) ?_ | refine Drw.of (T := tt) (i := 22) [15,16] [] [(0,true),(1,true),(2,true),(3,true),(4,true),(5,true),(6,true),(7,true),(8,true),(9,true),(10,true),(11,true),(12,true),(13,true),(14,false),(15,false),(16,false)] (by kernel_rfl) ?_ | fail)
      all_goals (conv => whnf)
      all_goals exact ⟨i + 1,by omega,by omega,[(5,.k 5),(900,.k 91)],by (rw [htk];exact ⟨by (try dsimp only);(repeat (refine LeT.cons rfl (by first | exact LeS.d (by first | exact LeD.u rfl | exact LeD.p rfl | exact LeD.ow rfl (by simp [difL]) | fail) | fail) ?_));exact LeT.nil,by (try dsimp only);repeat (first | exact LeO.nil | refine LeO.bx rfl rfl (by repeat (first | exact LeL.nil | refine LeL.cons (by first | exact LeD.u rfl | fail) ?_)) ?_ | refine LeO.ar rfl rfl (by first | simp [difL]) ?_ | fail)⟩)⟩
   ·obtain rfl : i = x.length := by omega
    have htx : x.take x.length = x := List.take_length
    have hfx := dif1_len y x
    have hcm : cmpM x y = x.filterMap (dif1 y) ++ y.filterMap (dif2 x) := rfl
    rw [htx,hcm]
    generalize x.filterMap (dif1 y) = L1 at *
    repeat' ((conv => whnf);first | refine Gs.id ?_ | refine Brn.F (by (try simp only [smT]);first | rfl | omega | fail) ?_ | (refine Bnd.mk (fun hm => ?_);(try simp only [smT] at hm)) | fail)
    all_goals (conv => whnf)
    refine ⟨⟨Nat,fun k => k ≤ y.length,fun k => y.length - k,fun k => ⟨[(5,.d (.p 5 0)),(6,.d (.u (strs' (nms x)))),(9,.d (.u (strs' (nms y)))),(10,.d (.u (strs' (vds y)))),(11,.d (.ow 900 (L1 ++ (y.take k).filterMap (dif2 x)).length)),(15,di k)],[(5,.bx 25 [.u (.int .i64 0),.u (.int .i64 0)]),(900,.ar 9 1 (strs (L1 ++ (y.take k).filterMap (dif2 x))))]⟩,0,Nat.zero_le _,⟨[(5,.k 5),(900,.k 900)],⟨by (try dsimp only);(repeat (refine LeT.cons rfl (by first | exact LeS.d (by first | exact LeD.u rfl | exact LeD.p rfl | exact LeD.ow rfl (by simp) | fail) | fail) ?_));exact LeT.nil,by (try dsimp only);repeat (first | exact LeO.nil | refine LeO.bx rfl rfl (by repeat (first | exact LeL.nil | refine LeL.cons (by first | exact LeD.u rfl | fail) ?_)) ?_ | refine LeO.ar rfl rfl (by first | simp) ?_ | fail)⟩⟩,fun k hk => ?_⟩⟩
    dsimp only at hk ⊢
    by_cases h8 : k < y.length
    ·obtain ⟨p,hq0⟩ : ∃ p,y[k]? = some p := ⟨_,List.getElem?_eq_getElem h8⟩
     have hps := wy.sz p (List.mem_of_getElem? hq0)
     have htk := fm_take (dif2 x) y k p hq0
     have hfl : (L1 ++ (y.take k).filterMap (dif2 x)).length ≤ 200 := by
      have := dif2_len x (y.take k)
      rw [List.length_take] at this
      rw [List.length_append]
      omega
     obtain ⟨n,v⟩ := p
     have hrn : (strs (nms y))[k]? = some [V.str n] := by simp [strs,nms,hq0]
     have hrv : (strs (vds y))[k]? = some [V.str v] := by simp [strs,vds,hq0]
     have hct := hasN_R (nms x) n (nms x).length (Nat.le_refl _) (by omega)
     rw [List.take_length] at hct
     have hln : (strs (nms x)).length = (nms x).length := by simp [strs]
     have hct : CallsA Tryz.prog 25 [.d (.u (strs' (nms x))),di ((strs (nms x)).length : Nat),dsr n] [] (Is (db (inS n (nms x)))) := by rw [hln];exact hct
     dsimp only at hps
     have hdf : dif2 x (n,v) = if inS n (nms x) = true then none else some (newL (n,v)) := by
      unfold dif2
      rw [find_mem]
     rw [hdf] at htk
     clear hdf hq0
     have hcz : (ByteArray.mk #[58,32,110,101,119,32,45,62,32]).size = 9 := rfl
     generalize inS n (nms x) = bb at *
     generalize (y.take k).filterMap (dif2 x) = L2 at *
     have hsl : (strs (L1 ++ L2)).length = (L1 ++ L2).length := by simp [strs]
     have hl12 : L1.length + L2.length ≤ 200 := by rw [List.length_append] at hfl;exact hfl
     cases bb with
     | false =>
      rw [if_neg (by simp)] at htk
      have hass : L1 ++ (y.take (k + 1)).filterMap (dif2 x) = (L1 ++ L2) ++ [newL (n,v)] := by rw [htk,← List.append_assoc];rfl
      clear htk
      repeat' ((conv => whnf);first | refine (Ix.mk ⟨k,[V.str n],rfl,hrn,?_⟩) | refine (Ix.mk ⟨k,[V.str v],rfl,hrv,?_⟩) | refine Cat.mk (by unfold maxLen;(try simp only [ByteArray.size_append]);omega) ?_ | refine Gs.id ?_ | with_reducible refine Brn.T rfl ?_ | refine Brn.T (by (try simp only [smT]);first | rfl | omega | fail) ?_ | (refine Bnd.mk (fun hm => ?_);(try simp only [smT] at hm)) | refine Rng.mk (by (try simp only [smT]);omega) ?_ | refine Apd.mk (by first | rfl | simp) (by first | rfl | fail) (by (try simp only [smT]);first | omega | fail) (by unfold maxLen;first | (simp;omega) | fail) ?_ | refine Drw.of (T := tt) (i := 27) [12,13] [] [(0,true),(1,true),(2,true),(3,true),(4,true),(5,true),(6,true),(7,true),(8,true),(9,true),(10,true),(11,false),(12,false),(13,false)] (by kernel_rfl) ?_ | (refine CL.mk (Or.inl ?_);(conv => whnf);refine Cl.is (hct) rfl (by first | exact fun _ => rfl | fail) ?_) | fail)
      all_goals (conv => whnf)
      all_goals exact ⟨k + 1,by omega,by omega,[(5,.k 5),(900,.k 119)],by (rw [hass];exact ⟨by (try dsimp only);(repeat (refine LeT.cons rfl (by first | exact LeS.d (by first | exact LeD.u rfl | exact LeD.p rfl | exact LeD.ow rfl (by simp [newL]) | fail) | fail) ?_));exact LeT.nil,by (try dsimp only);repeat (first | exact LeO.nil | refine LeO.bx rfl rfl (by repeat (first | exact LeL.nil | refine LeL.cons (by first | exact LeD.u rfl | fail) ?_)) ?_ | refine LeO.ar rfl rfl (by first | simp [newL]) ?_ | fail)⟩)⟩
     | true =>
      rw [if_pos rfl] at htk
      have e : (y.take (k + 1)).filterMap (dif2 x) = L2 := by rw [htk];simp
      clear htk
      repeat' ((conv => whnf);first | refine (Ix.mk ⟨k,[V.str n],rfl,hrn,?_⟩) | refine Gs.id ?_ | with_reducible refine Brn.F rfl ?_ | refine Brn.T (by (try simp only [smT]);first | rfl | omega | fail) ?_ | (refine Bnd.mk (fun hm => ?_);(try simp only [smT] at hm)) | refine Rng.mk (by (try simp only [smT]);omega) ?_ | (refine CL.mk (Or.inl ?_);(conv => whnf);refine Cl.is (hct) rfl (by first | exact fun _ => rfl | fail) ?_) | fail)
      all_goals (conv => whnf)
      all_goals exact ⟨k + 1,by omega,by omega,[(5,.k 5),(900,.k 900)],by (rw [e];exact ⟨by (try dsimp only);(repeat (refine LeT.cons rfl (by first | exact LeS.d (by first | exact LeD.u rfl | exact LeD.p rfl | exact LeD.ow rfl rfl | fail) | fail) ?_));exact LeT.nil,by (try dsimp only);repeat (first | exact LeO.nil | refine LeO.bx rfl rfl (by repeat (first | exact LeL.nil | refine LeL.cons (by first | exact LeD.u rfl | fail) ?_)) ?_ | refine LeO.ar rfl rfl (by first | rfl | fail) ?_ | fail)⟩)⟩
    ·obtain rfl : k = y.length := by omega
     rw [List.take_length]
     repeat' ((conv => whnf);first | refine Gs.id ?_ | refine Brn.F (by (try simp only [smT]);first | rfl | omega | fail) ?_ | (refine Bnd.mk (fun hm => ?_);(try simp only [smT] at hm)) | (refine CL.mk (Or.inl ?_);(conv => whnf);refine Cl.is (hat _ _) rfl (by first | exact fun _ => rfl | fail) ?_) | fail)
     all_goals (conv => whnf)
     all_goals refine RetO.mk ⟨[(932,.k 900)],_,_,(by exact LeS.ts (by repeat (first | exact LeCs.nil | refine LeCs.cons (by first | exact LeC.d (by first | exact LeD.ow rfl rfl | fail) | exact LeC.a (by repeat (first | exact LeL.nil | refine LeL.cons (by first | exact LeD.u rfl | fail) ?_))) ?_))),(by repeat (first | exact LeO.nil | refine LeO.ar rfl rfl (by first | rfl | fail) ?_ | fail)),rfl,rfl⟩
end Go.Proofs.YtjpaaaecbgmcgaaGreatDoor
namespace Go.Proofs.YtjpaaaecbgmcgaaGreatDoor
open Go.RowKit
structure TabX (zt : Fz) : Prop where
 u : TabU zt
 m : TabM zt
set_option maxHeartbeats 8000000 in
theorem law_compare_T (a b : List ByteArray) (hla : a.length ≤ 9000000000) (hlb : b.length ≤ 9000000000) (hsa : ∀ s ∈ a,s.size < 4294967281) (hsb : ∀ s ∈ b,s.size < 4294967281) (zt : Fz) (hz : TabX zt) :
  CallsA Tryz.prog 4 [.d (.u (strs' a)),.d (.u (strs' b))] [(907,tbOb zt)] (Iso (db true) [(907,tbOb zt)]) := by
 have hts := tested_T zt hz.u.sp
 have r1 := compare_T a b hla hlb hsa hsb zt hz.u.tab hz.m
 have r2 := compared_R a b hla hlb (fun s h => by have := hsa s h;omega) (fun s h => by have := hsb s h;omega)
 cases hq : cmpRes a b with
 | inl f =>
  obtain ⟨c,ix⟩ := f
  rw [hq] at r1 r2
  have r1 : CallsA Tryz.prog 12 [.d (.u (strs' a)),.d (.u (strs' b))] [(907,tbOb zt)] (Iso (nilF c ix) [(907,tbOb zt)]) := r1
  have r2 : CallsA Tryz.prog 13 [.d (.u (strs' a)),.d (.u (strs' b))] [] (Is (nilF c ix)) := r2
  have r3 := strings_N
  refine callsA_of_vcO (T := tt) Tryz.func4 rfl rfl rfl rfl rfl ?_
  repeat' ((conv => whnf);first | refine Gs.id ?_ | with_reducible refine Brn.T rfl ?_ | refine Brn.T (by (try simp only [smT]);first | rfl | (simp [*];done) | fail) ?_ | refine Eqv.mk (by kernel_rfl) ?_ | (refine CL.mk (Or.inl ?_);(conv => whnf);first | refine Cl.is (r2) rfl (by first | exact fun _ => rfl | fail) ?_ | refine Cl.is (r3) rfl (by first | exact fun _ => rfl | fail) ?_) | (refine CL.mk (Or.inr (Raw.callI [907] [907] rfl rfl rfl rfl rfl rfl rfl (r1) ?_));rintro _ _ ⟨rfl,rfl⟩;refine Bk.mk rfl rfl ?_) | (refine CL.mk (Or.inr (Raw.callI [907] [907] rfl rfl rfl rfl rfl rfl rfl (hts) ?_));rintro _ _ ⟨rfl,rfl⟩;refine Bk.mk rfl rfl ?_))
  all_goals (conv => whnf)
  all_goals first | refine RetO.mk ⟨[(907,.k 907)],_,_,(by first | exact LeS.d (by first | exact LeD.u rfl | fail) | fail),(by repeat (first | exact LeO.nil | refine LeO.ab rfl rfl (by repeat (first | exact LeL.nil | fail)) (by first | rfl | fail) ?_ | fail)),rfl,rfl⟩ | (exfalso;simp at *;done)
 | inr L =>
  rw [hq] at r1 r2
  have r1 : CallsA Tryz.prog 12 [.d (.u (strs' a)),.d (.u (strs' b))] [(907,tbOb zt)] (Iso (ownF L.length) [(931,.ar 9 1 (strs L)),(907,tbOb zt)]) := r1
  have r2 : CallsA Tryz.prog 13 [.d (.u (strs' a)),.d (.u (strs' b))] [] (Iso (ownG L.length) [(932,.ar 9 1 (strs L))]) := r2
  have r3 := strings_R L L
  rw [decide_eq_true rfl] at r3
  refine callsA_of_vcO (T := tt) Tryz.func4 rfl rfl rfl rfl rfl ?_
  repeat' ((conv => whnf);first | refine Gs.id ?_ | with_reducible refine Brn.T rfl ?_ | refine Eqv.mk (by kernel_rfl) ?_ | (refine CL.mk (Or.inr (Raw.callI [907] [931,907] rfl rfl rfl rfl rfl rfl rfl (r1) ?_));rintro _ _ ⟨rfl,rfl⟩;refine Bk.mk rfl rfl ?_) | (refine CL.mk (Or.inr (Raw.callI [] [932] rfl rfl rfl rfl rfl rfl rfl (r2) ?_));rintro _ _ ⟨rfl,rfl⟩;refine Bk.mk rfl rfl ?_) | (refine CL.mk (Or.inr (Raw.callR (by repeat (first | exact ArgR.nil | refine ArgR.d rfl (by first | exact BorR.ar rfl (by first | rfl | (simp;done)) | fail) ?_ | fail)) rfl (r3) ⟨_,rfl,rfl⟩ rfl ?_));refine Bk.mk rfl rfl ?_) | (refine CL.mk (Or.inr (Raw.callI [907] [907] rfl rfl rfl rfl rfl rfl rfl (hts) ?_));rintro _ _ ⟨rfl,rfl⟩;refine Bk.mk rfl rfl ?_))
  all_goals (conv => whnf)
  all_goals first | refine RetO.mk ⟨[(907,.k 907)],_,_,(by first | exact LeS.d (by first | exact LeD.u rfl | fail) | fail),(by repeat (first | exact LeO.nil | refine LeO.ab rfl rfl (by repeat (first | exact LeL.nil | fail)) (by first | rfl | fail) ?_ | fail)),rfl,rfl⟩ | (exfalso;simp at *;done)
end Go.Proofs.YtjpaaaecbgmcgaaGreatDoor
namespace Go.Proofs.YtjpaaaecbgmcgaaGreatDoor
open Go.ChangeShapes Go.WideShapes Go.ChangeAt Go.Deep Go.RowKit
theorem max_ofU {W : World} (hsh : W.ShapedOpen Tryz.prog) : TabM ⟨fg0 W,W⟩ := by
 obtain ⟨m,hm⟩ := cell_of_shapedOpen_int (g := 0) (t := 3) (zero := #[.int .i64 0]) (k := .i64) hsh (by decide +kernel) (by kernel_rfl) rfl (by kernel_rfl) (by kernel_rfl) (by kernel_rfl)
 refine ⟨m,?_,hm⟩
 show 0 < W.heap.size
 rcases Nat.lt_or_ge 0 W.heap.size with h | h
 ·exact h
 ·simp [World.cell?,Array.getElem?_eq_none h] at hm
section
variable {f : FuncId} {ss : List SV}
theorem calls_of_AX {vs : List Value} {W : World} (h : ∀ zt,TabX zt → CallsA Tryz.prog f ss [(907,tbOb zt)] (Iso (db true) [(907,tbOb zt)])) (hL : laidMetH Tryz.prog laidUL W) (hsh : W.ShapedOpen Tryz.prog) (hv : ArgsAt rho0 (fg0 W) W ss vs) : Calls Tryz.prog f vs.toArray W fun e W' => e = .returned (.bool true) ∧ Below W.heap.size W W' := by
 have ht := tab_ofU hL
 have hg : Tryz.prog.globalNamed "internal/strconv.uint64pow10" = some 1 := by kernel_rfl
 have hlt : 1 < W.heap.size := by
  have h0 := ht
  unfold Lib.TabIs World.var? at h0
  rw [hg] at h0
  simp only [Option.bind_some] at h0
  rcases Nat.lt_or_ge 1 W.heap.size with h' | h'
  ·exact h'
  ·rw [Array.getElem?_eq_none h'] at h0;cases h0
 refine ((h ⟨fg0 W,W⟩ ⟨⟨⟨⟨_,hg,hlt,ht⟩⟩,⟨space_ofU hL⟩⟩,max_ofU hsh⟩).out ⟨(· < W.heap.size),W,fg0 W⟩ rho0 [] vs W (Hp.init W) hv.1 ⟨fun _ h => h,Same.refl _ _,fun _ h => h,fun _ h => .inl h,.refl _,fun k s hk => ?_,⟨[],[],rfl,⟨rfl,.refl,.nil⟩,rfl⟩⟩).mono ?_
 ·obtain ⟨h1,h2⟩ := lk_slT hk
  have hlt : k - 0 < vs.length := by rw [hv.1];exact (List.getElem?_eq_some_iff.1 h2).1
  exact ⟨vs[k - 0],lk_slots h1 (List.getElem?_eq_getElem hlt),hv.2.1 _ s _ h2 (List.getElem?_eq_getElem hlt)⟩
 ·rintro e w' ⟨v,h',s,ob',ρ',G',rfl,hw',g',rfl,rfl⟩
  obtain ⟨u,u1,u2⟩ := g'.tm 0 _ rfl
  simp only [lk,Nat.beq_refl,cond_true,Option.some.injEq] at u1
  subst u1
  cases u2 with | d u2 => cases u2 with | u u2 => cases u2 with | bool =>
  exact ⟨rfl,(g'.fw.trans (hw'.same.mono g'.fF)).below⟩
end
end Go.Proofs.YtjpaaaecbgmcgaaGreatDoor
