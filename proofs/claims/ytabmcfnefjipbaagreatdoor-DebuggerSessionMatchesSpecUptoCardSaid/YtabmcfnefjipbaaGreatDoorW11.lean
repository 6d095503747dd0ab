/-
  Part 11 of the proofs of dsession_holds: laws and contracts that they need.
-/
import Derived.Test.YtabmcfnefjipbaaGreatDoorW10
import Derived.Test.YtabmcfnefjipbaaGreatDoorRows
import Derived.ProofKit
import Derived.Carry
import Derived.SizedLaws
import Derived.Deep.Slices
import Derived.Deep.Fields
import Derived.ChangeSame
import Derived.Lib.SmallJoins
import Derived.Deep.DeepHandedRow
import Derived.Stop.LaidErr
import Derived.LaidLaws
import Derived.Test.YtabmcfnefjipbaaGreatDoorChecked
set_option linter.unusedVariables false
set_option linter.unusedSimpArgs false
namespace Go.Proofs.YtabmcfnefjipbaaGreatDoor
open Go.RowKit
theorem plOf_eq {l : List Ev} {n j : Nat} {e : Ev} (h : l[j]? = some e) : plOf l n j = ⟨e.md,e.fn,lineM l e j n⟩ := by
 unfold plOf acOf
 rw [h]
 rfl
theorem placesAt_T (l : List Ev) (p : Nat) (hp : p < l.length) (hl : l.length ≤ 1000000000) : CallsA Tryz.prog 28 [.d (.u (evs l)),di p] [] (Is (.d (.u (pcs ((posI l p).map (plOf l (p + 1))))))) := by
 have hin := in_R p 0 (((l.map Ev.row).length : Int) - 1)
 rw [decide_eq_true (by rw [List.length_map];omega)] at hin
 have hst := stack_R l p (by omega) hl
 have he : l[p]? = some l[p] := List.getElem?_eq_getElem hp
 have hlt := fun j hj => stkI_lt (l := l) p j hj
 have hsl := stkI_len (l := l) p
 have hlo := fun (j : Nat) (e : Ev) (h1 : l[j]? = some e) (h2 : j < p + 1) => lineOf_R l j (p + 1) e h1 h2 (by omega) (by omega)
 have hci : (((p + 1 : Nat) : Nat) : Int) = (p : Int) + 1 := by omega
 rw [hci] at hlo
 have hrow : ∀ {K : List V → Prop} {m : Int},m = (p : Int) → K (l[p]).row → Ix (l.map Ev.row) m K := fun h k => by subst h;exact Ix.map rfl hp k
 have hpi : posI l p = if (l[p]).kind = 2 then stkI l p ++ [p] else stkI l p := by unfold posI;rw [he]
 have hrj : ∀ j,j < l.length → ∃ e,l[j]? = some e ∧ ∀ {K : List V → Prop} {m : Int},m = (j : Int) → K e.row → Ix (l.map Ev.row) m K := fun j hj => ⟨l[j],List.getElem?_eq_getElem hj,fun h k => by subst h;exact Ix.map rfl hj k⟩
 generalize l[p] = e0 at *
 generalize hs : stkI l p = s at *
 by_cases h2 : e0.kind = 2
 ·rw [if_pos h2] at hpi
  rw [hpi]
  clear hpi hs
  have hlt2 : ∀ j ∈ s ++ [p],j < p + 1 := fun j hj => by
   rcases List.mem_append.1 hj with h | h
   ·have := hlt j h;omega
   ·simp at h;omega
  refine callsA_of_vc (T := tt) Tryz.func28 rfl rfl rfl rfl rfl ?_
  repeat' ((conv => whnf);first | refine hrow rfl ?_ | refine Gs.id ?_ | with_reducible refine Brn.F rfl ?_ | refine Brn.T (by (try simp only [smT]);first | rfl | assumption | fail) ?_ | (refine Bnd.mk (fun hm => ?_);(try simp only [smT] at hm)) | refine Rng.mk (by (try simp only [smT]);omega) ?_ | refine Apd.mk (by first | rfl | fail) (by first | rfl | fail) (by (try simp only [smT]);first | omega | fail) (by unfold maxLen;first | (simp;omega) | fail) ?_ | (refine CL.mk (Or.inl ?_);(conv => whnf);first | refine Cl.is (hin) rfl (by first | exact fun _ => rfl | fail) ?_ | refine Cl.is (hst) rfl (by first | (intro e;cases e;done) | fail) ?_) | fail)
  all_goals (conv => whnf)
  all_goals try (exfalso;simp_all;done)
  have hsl2 : (s ++ [p]).length ≤ p + 1 := by simp;omega
  clear hlt hst hsl
  obtain ⟨s2,hs2⟩ : ∃ s2,s2 = s ++ [p] := ⟨_,rfl⟩
  rw [← hs2] at hlt2 hsl2 ⊢
  refine ⟨⟨Nat,fun i => i ≤ s2.length,fun i => s2.length - i,fun i => ⟨[(0,.d (.u (evs l))),(1,di p),(5,.d (.ow 900 s2.length)),(6,.d (.ow 901 (s2.take i).length)),(7,di i)],[(900,.ar 3 1 (s2.map ixR)),(901,.ar 112 3 (((s2.take i).map (plOf l (p + 1))).map Pc.row))]⟩,0,Nat.zero_le _,⟨[(900,.k 28),(901,.n 3)],by (rw [hs2];exact ⟨by (try dsimp only);(repeat (refine LeT.cons rfl (by first | exact LeS.d (by first | exact LeD.u rfl | exact LeD.ow rfl (by simp) | exact LeD.no rfl rfl | fail) | fail) ?_));exact LeT.nil,by (try dsimp only);repeat (first | exact LeO.nil | refine LeO.ar rfl rfl (by first | rfl | simp) ?_ | refine LeO.no rfl rfl ?_)⟩)⟩,fun i hi => ?_⟩⟩
  dsimp only at hi ⊢
  by_cases h9 : i < s2.length
  ·have hsi : s2[i]? = some s2[i] := List.getElem?_eq_getElem h9
   have hji := hlt2 _ (List.getElem_mem h9)
   obtain ⟨e,hje,hrwj⟩ := hrj s2[i] (by omega)
   have hline := hlo s2[i] e hje hji
   have hpl := plOf_eq (n := p + 1) hje
   have hget : (s2.map ixR)[i]? = some (ixR s2[i]) := by rw [List.getElem?_map,hsi];rfl
   have hgx : ∀ {K : List V → Prop},K (ixR s2[i]) → Ix (s2.map ixR) (i : Int) K := fun k => Ix.map rfl h9 k
   have htk : s2.take (i + 1) = s2.take i ++ [s2[i]] := by rw [List.take_add_one,hsi];rfl
   generalize s2[i] = j at *
   clear hlo hrj hrow
   repeat' ((conv => whnf);first | refine Ixo.mk ⟨i,rfl,by omega,?_⟩ | refine Rw.get hget ?_ | refine hrwj rfl ?_ | refine Gs.id ?_ | refine Brn.T (by (try simp only [smT]);first | rfl | omega | fail) ?_ | (refine Bnd.mk (fun hm => ?_);(try simp only [smT] at hm)) | refine Rng.mk (by (try simp only [smT]);omega) ?_ | refine Apd.mk (by first | rfl | simp) (by first | rfl | fail) (by (try simp only [smT]);first | omega | fail) (by unfold maxLen;first | (simp;omega) | fail) ?_ | refine Drw.of (T := tt) (i := 10) [27,28] [] [(0,true),(1,true),(2,true),(3,true),(4,true),(5,true),(6,true),(7,true),(8,true),(9,true),(10,true),(11,true),(12,true),(13,true),(14,true),(15,true),(16,true),(17,true),(18,true),(19,true),(20,true),(21,true),(22,true),(23,true),(24,false),(25,true),(26,false),(27,false),(28,false)] (by kernel_rfl) ?_ | (refine CL.mk (Or.inl ?_);(conv => whnf);refine Cl.is (hline) rfl (by first | exact fun _ => rfl | fail) ?_) | fail)
   all_goals (conv => whnf)
   all_goals exact ⟨i + 1,by omega,by omega,[(900,.k 900),(901,.k 62)],by (rw [htk];exact ⟨by (try dsimp only);(repeat (refine LeT.cons rfl (by first | exact LeS.d (by first | exact LeD.u rfl | exact LeD.ow rfl rfl | exact LeD.ow rfl (by simp [hpl]) | fail) | fail) ?_));exact LeT.nil,by (try dsimp only);repeat (first | exact LeO.nil | refine LeO.ar rfl rfl (by first | rfl | simp [hpl]) ?_ | fail)⟩)⟩
  ·obtain rfl : i = s2.length := by omega
   rw [List.take_length]
   repeat' ((conv => whnf);first | refine Gs.id ?_ | refine Brn.F (by (try simp only [smT]);first | rfl | omega | fail) ?_ | (refine Bnd.mk (fun hm => ?_);(try simp only [smT] at hm)) | refine Len.mk (by first | rfl | (simp;done) | fail) ?_ | fail)
   all_goals (conv => whnf)
   all_goals first | exact Ret.is rfl | exact Ret.nl (by repeat (fail))
 ·rw [if_neg h2] at hpi
  rw [hpi]
  clear hpi hs
  have hlt2 : ∀ j ∈ s,j < p + 1 := fun j hj => by have := hlt j hj;omega
  refine callsA_of_vc (T := tt) Tryz.func28 rfl rfl rfl rfl rfl ?_
  repeat' ((conv => whnf);first | refine hrow rfl ?_ | refine Gs.id ?_ | with_reducible refine Brn.F rfl ?_ | refine Brn.F (by (try simp only [smT]);first | rfl | assumption | fail) ?_ | (refine Bnd.mk (fun hm => ?_);(try simp only [smT] at hm)) | refine Rng.mk (by (try simp only [smT]);omega) ?_ | (refine CL.mk (Or.inl ?_);(conv => whnf);first | refine Cl.is (hin) rfl (by first | exact fun _ => rfl | fail) ?_ | refine Cl.is (hst) rfl (by first | (intro e;cases e;done) | fail) ?_) | fail)
  all_goals (conv => whnf)
  all_goals try (exfalso;simp_all;done)
  clear hlt hst
  refine ⟨⟨Nat,fun i => i ≤ s.length,fun i => s.length - i,fun i => ⟨[(0,.d (.u (evs l))),(1,di p),(5,.d (.u (.sl 1 (s.map ixR)))),(6,.d (.ow 901 (s.take i).length)),(7,di i)],[(901,.ar 112 3 (((s.take i).map (plOf l (p + 1))).map Pc.row))]⟩,0,Nat.zero_le _,⟨[(901,.n 3)],⟨by (try dsimp only);(repeat (refine LeT.cons rfl (by first | exact LeS.d (by first | exact LeD.u rfl | exact LeD.no rfl rfl | fail) | fail) ?_));exact LeT.nil,by (try dsimp only);repeat (first | exact LeO.nil | refine LeO.no rfl rfl ?_)⟩⟩,fun i hi => ?_⟩⟩
  dsimp only at hi ⊢
  by_cases h9 : i < s.length
  ·have hsi : s[i]? = some s[i] := List.getElem?_eq_getElem h9
   have hji := hlt2 _ (List.getElem_mem h9)
   obtain ⟨e,hje,hrwj⟩ := hrj s[i] (by omega)
   have hline := hlo s[i] e hje hji
   have hpl := plOf_eq (n := p + 1) hje
   have hget : (s.map ixR)[i]? = some (ixR s[i]) := by rw [List.getElem?_map,hsi];rfl
   have hgx : ∀ {K : List V → Prop},K (ixR s[i]) → Ix (s.map ixR) (i : Int) K := fun k => Ix.map rfl h9 k
   have htk : s.take (i + 1) = s.take i ++ [s[i]] := by rw [List.take_add_one,hsi];rfl
   generalize s[i] = j at *
   clear hlo hrj hrow
   repeat' ((conv => whnf);first | refine hrwj rfl ?_ | refine hgx ?_ | refine Gs.id ?_ | refine Brn.T (by (try simp only [smT]);first | rfl | omega | fail) ?_ | (refine Bnd.mk (fun hm => ?_);(try simp only [smT] at hm)) | refine Rng.mk (by (try simp only [smT]);omega) ?_ | refine Apd.mk (by first | rfl | simp) (by first | rfl | fail) (by (try simp only [smT]);first | omega | fail) (by unfold maxLen;first | (simp;omega) | fail) ?_ | refine Drw.of (T := tt) (i := 10) [27,28] [] [(0,true),(1,true),(2,true),(3,true),(4,true),(5,true),(6,true),(7,true),(8,true),(9,true),(10,true),(11,true),(12,true),(13,true),(14,true),(15,true),(16,true),(17,true),(18,true),(19,true),(20,true),(21,true),(22,true),(23,true),(24,false),(25,true),(26,false),(27,false),(28,false)] (by kernel_rfl) ?_ | (refine CL.mk (Or.inl ?_);(conv => whnf);refine Cl.is (hline) rfl (by first | exact fun _ => rfl | fail) ?_) | fail)
   all_goals (conv => whnf)
   all_goals exact ⟨i + 1,by omega,by omega,[(901,.k 62)],by (rw [htk];exact ⟨by (try dsimp only);(repeat (refine LeT.cons rfl (by first | exact LeS.d (by first | exact LeD.u rfl | exact LeD.ow rfl (by simp [hpl]) | fail) | fail) ?_));exact LeT.nil,by (try dsimp only);repeat (first | exact LeO.nil | refine LeO.ar rfl rfl (by first | simp [hpl]) ?_ | fail)⟩)⟩
  ·obtain rfl : i = s.length := by omega
   rw [List.take_length]
   repeat' ((conv => whnf);first | refine Gs.id ?_ | refine Brn.F (by (try simp only [smT]);first | rfl | omega | fail) ?_ | (refine Bnd.mk (fun hm => ?_);(try simp only [smT] at hm)) | refine Len.mk (by first | rfl | (simp;done) | fail) ?_ | fail)
   all_goals (conv => whnf)
   all_goals first | exact Ret.is rfl | exact Ret.nl (by repeat (fail))
theorem placesAt_out (l : List Ev) (p : Int) (hp : ¬ (0 ≤ p ∧ p ≤ (l.length : Int) - 1)) : CallsA Tryz.prog 28 [.d (.u (evs l)),di p] [] (Is (.d (.u (pcs [])))) := by
 have hin := in_R p 0 (((l.map Ev.row).length : Int) - 1)
 rw [decide_eq_false (by rw [List.length_map];exact hp)] at hin
 refine callsA_of_vc (T := tt) Tryz.func28 rfl rfl rfl rfl rfl ?_
 repeat' ((conv => whnf);first | refine Gs.id ?_ | with_reducible refine Brn.T rfl ?_ | (refine Bnd.mk (fun hm => ?_);(try simp only [smT] at hm)) | refine Rng.mk (by (try simp only [smT]);omega) ?_ | (refine CL.mk (Or.inl ?_);(conv => whnf);refine Cl.is (hin) rfl (by first | exact fun _ => rfl | fail) ?_) | fail)
 all_goals (conv => whnf)
 all_goals exact Ret.nl (by repeat (first | exact NlD.u (NlV.nl (by first | rfl | fail)) | refine NlS.d ?_ | fail))
set_option maxHeartbeats 2000000 in
theorem shown_T (l : List Ev) (hl : ∀ e ∈ l,e.locs.length ≤ 9000000000) (n : ByteArray) (p : Nat) (e0 : Ev) (he0 : l[p]? = some e0) : CallsA Tryz.prog 30 [.d (.u (evs l)),di p,dsr n] [] (Is (varS (shownM l e0.depth n (p + 1)))) := by
 have hp := (List.getElem?_eq_some_iff.1 he0).1
 have hin := in_R p 0 (((l.map Ev.row).length : Int) - 1)
 rw [decide_eq_true (by rw [List.length_map];omega)] at hin
 have hrow0 : ∀ {K : List V → Prop} {m : Int},m = (p : Int) → K e0.row → Ix (l.map Ev.row) m K := fun h k => ⟨⟨p,e0.row,h,by rw [List.getElem?_map,he0];rfl,k⟩⟩
 refine callsA_of_vc (T := tt) Tryz.func30 rfl rfl rfl rfl rfl ?_
 repeat' ((conv => whnf);first | refine Gs.id ?_ | with_reducible refine Brn.F rfl ?_ | (refine Bnd.mk (fun hm => ?_);(try simp only [smT] at hm)) | refine Rng.mk (by (try simp only [smT]);omega) ?_ | (refine CL.mk (Or.inl ?_);(conv => whnf);refine Cl.is (hin) rfl (by first | exact fun _ => rfl | fail) ?_) | fail)
 all_goals (conv => whnf)
 refine ⟨⟨Nat,fun i => i ≤ p + 1 ∧ shownM l e0.depth n (p + 1) = shownM l e0.depth n i,fun i => i,fun i => ⟨[(0,.d (.u (evs l))),(1,di p),(2,dsr n),(8,di ((i : Int) - 1))],[]⟩,p + 1,⟨Nat.le_refl _,rfl⟩,⟨[],⟨by (try dsimp only);(repeat (refine LeT.cons rfl (by first | exact LeS.d (by first | exact LeD.u rfl | exact LeD.u (by simp;done) | fail) | fail) ?_));exact LeT.nil,by (try dsimp only);repeat (first | exact LeO.nil | fail)⟩⟩,fun i hi => ?_⟩⟩
 obtain ⟨hi,hq⟩ := hi
 dsimp only
 rw [hq]
 cases i with
 | zero =>
  rw [shownM]
  repeat' ((conv => whnf);first | refine Gs.id ?_ | with_reducible refine Brn.F rfl ?_ | fail)
  all_goals (conv => whnf)
  all_goals first | exact Ret.is rfl | (exfalso;simp at *;done)
 | succ i =>
  obtain ⟨e,he⟩ : ∃ e,l[i]? = some e := ⟨_,List.getElem?_eq_getElem (by omega)⟩
  have hrow : ∀ {K : List V → Prop} {m : Int},m = (i : Int) → K e.row → Ix (l.map Ev.row) m K := fun h k => ⟨⟨i,e.row,h,by rw [List.getElem?_map,he];rfl,k⟩⟩
  have hva := variable_R e n (hl _ (List.mem_of_getElem? he))
  have hci : ((i + 1 : Nat) : Int) = (i : Int) + 1 := by omega
  rw [shownM_succ he]
  clear hin hq
  generalize varM n e.locs = o at *
  by_cases h1 : e.depth = e0.depth ∧ e.kind = 1
  ·rw [if_pos h1]
   obtain ⟨h1,h2⟩ := h1
   repeat' ((conv => whnf);first | refine hrow (by omega) ?_ | refine hrow0 (by omega) ?_ | refine Gs.id ?_ | refine Brn.T (by (try simp only [smT]);first | rfl | assumption | omega | fail) ?_ | refine Drw.of (T := tt) (i := 6) [] [] [(0,true),(1,true),(2,true),(3,true),(4,true),(5,true),(6,true),(7,true),(8,true),(9,true),(10,true),(11,true),(12,true),(13,true),(14,true),(15,true),(16,true),(17,true),(18,true)] (by kernel_rfl) ?_ | (refine CL.mk (Or.inl ?_);(conv => whnf);refine Cl.is (hva) rfl (by first | exact fun _ => rfl | fail) ?_) | fail)
   all_goals (conv => whnf)
   all_goals first | exact Ret.is rfl | (exfalso;simp_all;done)
  ·rw [if_neg h1]
   by_cases h2 : e.depth = e0.depth ∧ e.kind = 2
   ·rw [if_pos h2]
    obtain ⟨h3,h4⟩ := h2
    clear h1
    repeat' ((conv => whnf);first | refine hrow (by omega) ?_ | refine hrow0 (by omega) ?_ | refine Gs.id ?_ | refine Brn.T (by (try simp only [smT]);first | rfl | assumption | omega | fail) ?_ | refine Brn.F (by (try simp only [smT]);first | rfl | omega | fail) ?_ | refine Drw.of (T := tt) (i := 6) [] [] [(0,true),(1,true),(2,true),(3,true),(4,true),(5,true),(6,true),(7,true),(8,true),(9,true),(10,true),(11,true),(12,true),(13,true),(14,true),(15,true),(16,true),(17,true),(18,true)] (by kernel_rfl) ?_ | refine Drw.of (T := tt) (i := 8) [] [] [(0,true),(1,true),(2,true),(3,true),(4,true),(5,true),(6,true),(7,true),(8,true),(9,true),(10,true),(11,true),(12,true),(13,true),(14,true),(15,true),(16,true),(17,true),(18,true)] (by kernel_rfl) ?_ | fail)
    all_goals (conv => whnf)
    all_goals first | exact Ret.is rfl | (exfalso;simp_all;done)
   ·rw [if_neg h2]
    generalize hy : shownM l e0.depth n i = y at *
    repeat' ((conv => whnf);first | refine hrow (by omega) ?_ | refine hrow0 (by omega) ?_ | refine Gs.id ?_ | with_reducible refine Brn.F rfl ?_ | refine Brn.T (by (try simp only [smT]);first | rfl | assumption | omega | fail) ?_ | refine Brn.F (by (try simp only [smT]);first | rfl | assumption | omega | fail) ?_ | (refine Brn.mk (fun hb => ?_) (fun hb => ?_) <;> (try simp only [smT] at hb) <;> (try (exact absurd trivial hb)) <;> (try (exfalso;omega))) | refine Rng.mk (by (try simp only [smT]);omega) ?_ | refine Drw.of (T := tt) (i := 6) [] [] [(0,true),(1,true),(2,true),(3,true),(4,true),(5,true),(6,true),(7,true),(8,true),(9,true),(10,true),(11,true),(12,true),(13,true),(14,true),(15,true),(16,true),(17,true),(18,true)] (by kernel_rfl) ?_ | refine Drw.of (T := tt) (i := 8) [] [] [(0,true),(1,true),(2,true),(3,true),(4,true),(5,true),(6,true),(7,true),(8,true),(9,true),(10,true),(11,true),(12,true),(13,true),(14,true),(15,true),(16,true),(17,true),(18,true)] (by kernel_rfl) ?_ | fail)
    all_goals (conv => whnf)
    all_goals try (exfalso;simp_all;done)
    all_goals exact ⟨i,⟨by omega,hy.symm⟩,by omega,[],⟨by (try dsimp only);(repeat (refine LeT.cons rfl (by first | exact LeS.d (by first | exact LeD.u rfl | exact LeD.u (by simp;done) | fail) | fail) ?_));exact LeT.nil,by (try dsimp only);repeat (first | exact LeO.nil | fail)⟩⟩
theorem shown_out (l : List Ev) (n : ByteArray) (p : Int) (hp : ¬ (0 ≤ p ∧ p ≤ (l.length : Int) - 1)) : CallsA Tryz.prog 30 [.d (.u (evs l)),di p,dsr n] [] (Is (varS none)) := by
 have hin := in_R p 0 (((l.map Ev.row).length : Int) - 1)
 rw [decide_eq_false (by rw [List.length_map];exact hp)] at hin
 refine callsA_of_vc (T := tt) Tryz.func30 rfl rfl rfl rfl rfl ?_
 repeat' ((conv => whnf);first | refine Gs.id ?_ | with_reducible refine Brn.T rfl ?_ | (refine Bnd.mk (fun hm => ?_);(try simp only [smT] at hm)) | refine Rng.mk (by (try simp only [smT]);omega) ?_ | (refine CL.mk (Or.inl ?_);(conv => whnf);refine Cl.is (hin) rfl (by first | exact fun _ => rfl | fail) ?_) | fail)
 all_goals (conv => whnf)
 all_goals exact Ret.is rfl
theorem placesAt_R {l : List Ev} (hv : Vd l) (hL : l.length ≤ 20000) (p : Int) (hp : -1 ≤ p ∧ p ≤ (l.length : Int)) : CallsA Tryz.prog 28 [.d (.u (evs l)),di p] [] (Is (.d (.u (pcs ((activeM l p).map Av.pc))))) := by
 by_cases h : 0 ≤ p ∧ p ≤ (l.length : Int) - 1
 ·obtain ⟨m,rfl⟩ : ∃ m : Nat,p = m := ⟨p.toNat,by omega⟩
  rw [places_agree hv (by omega)]
  exact placesAt_T l m (by omega) (by omega)
 ·rw [active_out h hp]
  exact placesAt_out l p h
theorem shown_R {l : List Ev} (hv : Vd l) (hl : ∀ e ∈ l,e.locs.length ≤ 9000000000) (n : ByteArray) (p : Int) (hp : -1 ≤ p ∧ p ≤ (l.length : Int)) : CallsA Tryz.prog 30 [.d (.u (evs l)),di p,dsr n] [] (Is (varS (showM l p n))) := by
 by_cases h : 0 ≤ p ∧ p ≤ (l.length : Int) - 1
 ·obtain ⟨m,rfl⟩ : ∃ m : Nat,p = m := ⟨p.toNat,by omega⟩
  have he : l[m]? = some (l[m]'(by omega)) := List.getElem?_eq_getElem (by omega)
  rw [shown_agree hv n he]
  exact shown_T l hl n m _ he
 ·have : showM l p n = none := by rw [showM_eq,active_out h hp];rfl
  rw [this]
  exact shown_out l n p h
end Go.Proofs.YtabmcfnefjipbaaGreatDoor
namespace Go.Proofs.YtabmcfnefjipbaaGreatDoor
open Go.RowKit
set_option maxHeartbeats 4000000 in
theorem placeText_R (p : Pc) (hp : PcOk p) : CallsA Tryz.prog 67 [.a p.ds] [] (Is (dsr (whereB p))) := by
 have hd := decimal_R 19 p.line (by have := hp.lo;have := hp.hi;omega) hp.lo hp.hi
 have his := itoaB_size (n := p.line) (by have := hp.lo;omega) hp.hi
 have s1 : (ByteArray.mk #[58]).size = 1 := rfl
 have s2 : (ByteArray.mk #[32]).size = 1 := rfl
 have s3 := hp.md
 have s4 := hp.fn
 refine callsA_of_vc (T := tt) Tryz.func67 rfl rfl rfl rfl rfl ?_
 repeat' ((conv => whnf);first | refine Cat.mk (by unfold maxLen;(try simp only [ByteArray.size_append]);omega) ?_ | refine Gs.id ?_ | refine Drw.of (T := tt) (i := 1) [] [] [(0,true),(1,true),(2,true),(3,true),(4,true),(8,true),(9,true),(5,false),(6,true),(7,true),(10,true),(11,true)] (by kernel_rfl) ?_ | (refine CL.mk (Or.inl ?_);(conv => whnf);refine Cl.is (hd) rfl (by first | exact fun _ => rfl | fail) ?_) | fail)
 all_goals (conv => whnf)
 all_goals exact Ret.is rfl
theorem joinB_total (l : List ByteArray) (sep : ByteArray) : total l sep l.length ≤ (joinB l sep l.length).size + sep.size := by
 have h : ∀ n,(0 < n → total l sep n = (joinB l sep n).size + sep.size) := by
  intro n
  induction n with
  | zero => intro h;omega
  | succ n ih =>
   intro _
   rw [total,joinB]
   by_cases h0 : 0 < n
   ·rw [if_pos h0,ih h0]
    simp only [ByteArray.size_append]
    omega
   ·obtain rfl : n = 0 := by omega
    rw [if_neg h0]
    simp only [ByteArray.size_append,total,joinB]
    have : (ByteArray.mk #[]).size = 0 := rfl
    omega
 rcases Nat.eq_zero_or_pos l.length with h0 | h0
 ·rw [h0,total];omega
 ·rw [h l.length h0];exact Nat.le_refl _
theorem addX_cases (bs : List Bp) (ws : List ByteArray) : (∃ (n : Int) (ok : Bool),CallsA Tryz.prog 68 [dsr (ws[1]?.getD emB)] [] (Is (.t [.d (.u (.int .i64 n)),.d (.u (.bool ok))])) ∧ ¬ (ok = true ∧ 0 ≤ n) ∧ addX bs ws = (whatB,bs)) ∨
  (∃ n : Int,0 ≤ n ∧ n < 1000000000 ∧ CallsA Tryz.prog 68 [dsr (ws[1]?.getD emB)] [] (Is (.t [.d (.u (.int .i64 n)),.d (.u (.bool true))])) ∧ addX bs ws = addG bs ws n) := by
 by_cases hd : 1 ≤ (ws[1]?.getD emB).size ∧ (ws[1]?.getD emB).size ≤ 9 ∧ digsB (ws[1]?.getD emB)
 ·have e : addX bs ws = addM bs ws := by rw [addX,if_pos hd]
  have hbd := numU_bd hd.2.2 (ws[1]?.getD emB).size (Nat.le_refl _)
  have hp := pow9 hd.2.1
  have hg := number_good _ hd.1 hd.2.1 hd.2.2
  rw [e,addM]
  by_cases hi : itoaB (numU (ws[1]?.getD emB) (ws[1]?.getD emB).size) = ws[1]?.getD emB
  ·rw [if_neg (by simpa using hi)]
   rw [decide_eq_true hi] at hg
   exact .inr ⟨_,hbd.1,by omega,hg,rfl⟩
  ·rw [if_pos hi]
   rw [decide_eq_false hi] at hg
   exact .inl ⟨_,_,hg,by simp,rfl⟩
 ·have e : addX bs ws = (whatB,bs) := by rw [addX,if_neg hd]
  obtain ⟨n,ok,h1,h2⟩ := number_bad _ hd
  exact .inl ⟨n,ok,h1,h2,e⟩
set_option maxHeartbeats 16000000 in
theorem answers_R {l : List Ev} (hv : Vd l) (hL : l.length ≤ 20000) (he : ∀ e ∈ l,e.locs.length ≤ 9000000000) (hn : ∀ e ∈ l,e.line ≤ 9223372036854775807) (cs : List ByteArray) (hcl : cs.length ≤ 200) (hcs : ∀ c ∈ cs,c.size ≤ 4000) :
  CallsA Tryz.prog 32 [.d (.u (evs l)),.d (.u (strs' cs))] [] (Is (.d (.u (strs' (sesX l cs cs.length).1)))) := by
 refine callsA_of_vc (T := tt) Tryz.func32 rfl rfl rfl rfl rfl ?_
 repeat' ((conv => whnf);first | refine Gs.id ?_ | refine Brn.F (by (try simp only [smT]);first | rfl | omega | fail) ?_ | (refine Bnd.mk (fun hm => ?_);(try simp only [smT] at hm)) | refine Rng.mk (by (try simp only [smT]);omega) ?_ | refine Len.mk (by first | rfl | (simp;done) | fail) ?_ | refine Apd.mk (by first | rfl | simp) (by first | rfl | fail) (by (try simp only [smT]);first | omega | fail) (by unfold maxLen;first | (simp;omega) | fail) ?_ | fail)
 all_goals (conv => whnf)
 refine ⟨⟨Nat,fun i => i ≤ cs.length,fun i => cs.length - i,fun i => ⟨[(0,.d (.u (evs l))),(1,.d (.u (strs' cs))),(5,di (sesX l cs i).2.p),(6,.d (.ow 900 (sesX l cs i).2.bs.length)),(7,.d (.ow 901 (sesX l cs i).1.length)),(8,di i)],[(900,.ar 62 4 ((sesX l cs i).2.bs.map Bp.row)),(901,.ar 9 1 (strs (sesX l cs i).1))]⟩,0,Nat.zero_le _,⟨[(900,.n 4),(901,.n 1)],⟨by (try dsimp only);(repeat (refine LeT.cons rfl (by first | exact LeS.d (by first | exact LeD.u rfl | exact LeD.no rfl rfl | fail) | fail) ?_));exact LeT.nil,by (try dsimp only);repeat (first | exact LeO.nil | refine LeO.no rfl rfl ?_)⟩⟩,fun i hi => ?_⟩⟩
 dsimp only at hi ⊢
 by_cases h9 : i < cs.length
 ·obtain ⟨c,hci⟩ : ∃ c,cs[i]? = some c := ⟨_,List.getElem?_eq_getElem h9⟩
  have hrow : ∀ {K : List V → Prop} {j : Int},j = (i : Int) → K [V.str c] → Ix (strs cs) j K := fun h k => ⟨⟨i,_,h,by unfold strs;rw [List.getElem?_map,hci];rfl,k⟩⟩
  have hcz := hcs c (List.mem_of_getElem? hci)
  have hst := sesX_succ (l := l) hci
  obtain ⟨hp,hbl⟩ := sesX_ok (l := l) (cs := cs) i
  have hol := sesX_len (l := l) (cs := cs) i
  have hmd := sesX_md (l := l) hcs i
  generalize sesX l cs i = x at *
  obtain ⟨outs,p,bs⟩ := x
  dsimp only at hp hbl hol hst hmd ⊢
  generalize hdo : doX l ⟨p,bs⟩ c = dm at *
  obtain ⟨ans,p',bs'⟩ := dm
  dsimp only at hst
  refine' cutR (fun _ : Unit => True) (fun _ => ⟨[(0,.d (.u (evs l))),(1,.d (.u (strs' cs))),(5,di p'),(6,.d (.ow 900 bs'.length)),(7,.d (.ow 901 outs.length)),(8,di i),(10,dsr ans)],[(900,.ar 62 4 (bs'.map Bp.row)),(901,.ar 9 1 (strs outs))]⟩) _ (fun hR => ?_) ?_
  rotate_left
  ·have hsp : CallsA Tryz.prog 66 [dsr c,dby 32] [] (Is (.d (.u (.sl 1 (strs (parts32 c)))))) := split_R c 32 (by omega)
   have hmv := moved_R l bs p c he (by omega) (by omega)
   rw [moved_agree hv hL hp bs c] at hmv
   have hlm : ((l.map Ev.row).length : Int) = (l.length : Int) := by simp
   unfold doX at hdo
   dsimp only at hdo
   cases hcm : cmdM (depM l p) bs c with
   | some sg =>
    obtain ⟨st,g⟩ := sg
    rw [hcm] at hdo hmv
    dsimp only at hdo hmv
    have hs : st = 1 ∨ st = -1 := by
     unfold cmdM at hcm
     (repeat' split at hcm) <;> first | (cases hcm;done) | (injection hcm with hcm;injection hcm with h1 _;omega)
    have hrg := mvM_rng (g := g) (l := l) hs (muM l st (p + st)) (p + st) (Nat.le_refl _)
    generalize mvM g l st (p + st) = q at *
    injection hdo with h1 h23
    injection h23 with h2 h3
    clear hcm
    by_cases g1 : q = -1
    ·rw [atB,if_pos g1] at h1
     repeat' ((conv => whnf);first | refine hrow rfl ?_ | (exact Gs.cut (i := 48) (by assumption) () [(900,.k 900),(901,.k 901)] rfl ⟨by (try dsimp only);(repeat (refine LeT.cons rfl (by first | exact LeS.d (by first | exact LeD.u rfl | exact LeD.ow rfl rfl | exact LeD.ow rfl (by simp [h1,h2,h3];done) | exact LeD.u (by simp [h1,h2,h3];done) | fail) | fail) ?_));(first | exact LeT.nil | fail),by (try dsimp only);(repeat (first | exact LeO.nil | refine LeO.ar rfl rfl (by first | rfl | (simp [h1,h2,h3];done) | fail) ?_ | fail));done⟩ (by trivial)) | refine Gs.id ?_ | with_reducible refine Brn.T rfl ?_ | refine Brn.T (by (try simp only [smT]);first | rfl | assumption | omega | fail) ?_ | refine Brn.F (by (try simp only [smT]);first | rfl | omega | fail) ?_ | (refine Bnd.mk (fun hm => ?_);(try simp only [smT] at hm)) | (refine CL.mk (Or.inl ?_);(conv => whnf);first | refine Cl.is (hsp) rfl (by first | (intro e;cases e;done) | fail) ?_ | fail) | (refine CL.mk (Or.inl ?_);(conv => whnf);refine ClO.mk (Or.inl ?_);(repeat ((conv => whnf);refine Len.mk (by first | rfl | (simp;done) | fail) ?_));(conv => whnf);refine Cl.is (hmv) rfl (by first | exact fun _ => rfl | fail) ?_) | fail)
     all_goals (exfalso;clear hR;first | (simp_all;done) | (simp at *;omega))
    ·rw [atB,if_neg g1] at h1
     by_cases g2 : q = (l.length : Int)
     ·rw [if_pos g2] at h1
      repeat' ((conv => whnf);first | refine hrow rfl ?_ | (exact Gs.cut (i := 48) (by assumption) () [(900,.k 900),(901,.k 901)] rfl ⟨by (try dsimp only);(repeat (refine LeT.cons rfl (by first | exact LeS.d (by first | exact LeD.u rfl | exact LeD.ow rfl rfl | exact LeD.ow rfl (by simp [h1,h2,h3];done) | exact LeD.u (by simp [h1,h2,h3];done) | fail) | fail) ?_));(first | exact LeT.nil | fail),by (try dsimp only);(repeat (first | exact LeO.nil | refine LeO.ar rfl rfl (by first | rfl | (simp [h1,h2,h3];done) | fail) ?_ | fail));done⟩ (by trivial)) | refine Gs.id ?_ | with_reducible refine Brn.T rfl ?_ | refine Brn.T (by (try simp only [smT]);first | rfl | assumption | omega | fail) ?_ | refine Brn.F (by (try simp only [smT]);first | rfl | omega | fail) ?_ | (refine Bnd.mk (fun hm => ?_);(try simp only [smT] at hm)) | (refine CL.mk (Or.inl ?_);(conv => whnf);first | refine Cl.is (hsp) rfl (by first | (intro e;cases e;done) | fail) ?_ | fail) | (refine CL.mk (Or.inl ?_);(conv => whnf);refine ClO.mk (Or.inl ?_);(repeat ((conv => whnf);refine Len.mk (by first | rfl | (simp;done) | fail) ?_));(conv => whnf);refine Cl.is (hmv) rfl (by first | exact fun _ => rfl | fail) ?_) | fail)
      all_goals (exfalso;clear hR;first | (simp_all;done) | (simp at *;omega))
     ·rw [if_neg g2] at h1
      obtain ⟨m,rfl⟩ : ∃ m : Nat,q = m := ⟨q.toNat,by omega⟩
      obtain ⟨e,hme⟩ : ∃ e,l[m]? = some e := ⟨_,List.getElem?_eq_getElem (by omega)⟩
      have hrw : ∀ {K : List V → Prop} {j : Int},j = (m : Int) → K e.row → Ix (l.map Ev.row) j K := fun h k => ⟨⟨m,e.row,h,by rw [List.getElem?_map,hme];rfl,k⟩⟩
      rw [Int.toNat_natCast,hme] at h1
      dsimp only at h1
      have ok := hv.ok hme
      have hpt := placeText_R (evP e) ⟨dottedD_size ok.name.1,nameD_size ok.name.2,ok.line,hn e (List.mem_of_getElem? hme)⟩
      clear ok
      repeat' ((conv => whnf);first | refine hrow rfl ?_ | refine hrw rfl ?_ | (exact Gs.cut (i := 48) (by assumption) () [(900,.k 900),(901,.k 901)] rfl ⟨by (try dsimp only);(repeat (refine LeT.cons rfl (by first | exact LeS.d (by first | exact LeD.u rfl | exact LeD.ow rfl rfl | exact LeD.ow rfl (by simp [h1,h2,h3];done) | exact LeD.u (by simp [h1,h2,h3];done) | fail) | fail) ?_));(first | exact LeT.nil | fail),by (try dsimp only);(repeat (first | exact LeO.nil | refine LeO.ar rfl rfl (by first | rfl | (simp [h1,h2,h3];done) | fail) ?_ | fail));done⟩ (by trivial)) | refine Gs.id ?_ | with_reducible refine Brn.T rfl ?_ | with_reducible refine Brn.F rfl ?_ | refine Brn.T (by (try simp only [smT]);first | rfl | omega | fail) ?_ | refine Brn.F (by (try simp only [smT]);first | rfl | assumption | fail) ?_ | (refine Bnd.mk (fun hm => ?_);(try simp only [smT] at hm)) | refine Drw.of (T := tt) (i := 17) [] [] [(0,true),(1,true),(2,true),(3,true),(4,true),(5,true),(6,true),(7,true),(8,true),(9,true),(10,true),(11,true),(12,true),(13,true),(14,true),(15,true),(16,false),(17,true)] (by kernel_rfl) ?_ | (refine CL.mk (Or.inl ?_);(conv => whnf);first | refine Cl.is (hsp) rfl (by first | (intro e;cases e;done) | fail) ?_ | refine Cl.is (hpt) rfl (by first | exact fun _ => rfl | fail) ?_) | (refine CL.mk (Or.inl ?_);(conv => whnf);refine ClO.mk (Or.inl ?_);(repeat ((conv => whnf);refine Len.mk (by first | rfl | (simp;done) | fail) ?_));(conv => whnf);first | refine Cl.is (hmv) rfl (by first | exact fun _ => rfl | fail) ?_ | fail) | fail)
      all_goals (exfalso;clear hR;first | (simp_all;done) | (simp at *;omega))
   | none =>
    rw [hcm] at hdo hmv
    dsimp only at hdo hmv
    clear hcm
    have t1 := toList_beq c clearK
    have t2 := toList_beq c whereK
    by_cases c1 : c = clearK
    ·rw [if_pos c1] at hdo
     injection hdo with h1 h23
     injection h23 with h2 h3
     rw [decide_eq_true c1] at t1
     subst h3
     repeat' ((conv => whnf);first | refine hrow rfl ?_ | rw [t1] | (exact Gs.cut (i := 48) (by assumption) () [(900,.n 4),(901,.k 901)] rfl ⟨by (try dsimp only);(repeat (refine LeT.cons rfl (by first | exact LeS.d (by first | exact LeD.u rfl | exact LeD.ow rfl rfl | exact LeD.no rfl rfl | exact LeD.u (by simp [h1,h2];done) | fail) | fail) ?_));(first | exact LeT.nil | fail),by (try dsimp only);(repeat (first | exact LeO.nil | refine LeO.ar rfl rfl (by first | rfl | fail) ?_ | refine LeO.no rfl rfl ?_));done⟩ (by trivial)) | refine Gs.id ?_ | with_reducible refine Brn.T rfl ?_ | with_reducible refine Brn.F rfl ?_ | refine Brn.T (by (try simp only [smT]);first | rfl | omega | fail) ?_ | (refine Bnd.mk (fun hm => ?_);(try simp only [smT] at hm)) | (refine CL.mk (Or.inl ?_);(conv => whnf);first | refine Cl.is (hsp) rfl (by first | (intro e;cases e;done) | fail) ?_ | fail) | (refine CL.mk (Or.inl ?_);(conv => whnf);refine ClO.mk (Or.inl ?_);(repeat ((conv => whnf);refine Len.mk (by first | rfl | (simp;done) | fail) ?_));(conv => whnf);refine Cl.is (hmv) rfl (by first | exact fun _ => rfl | fail) ?_) | fail)
     all_goals (exfalso;clear hR;first | (simp_all;done) | (simp at *;omega))
    ·rw [if_neg c1] at hdo
     rw [decide_eq_false c1] at t1
     by_cases c2 : c = whereK
     ·rw [if_pos c2] at hdo
      injection hdo with h1 h23
      injection h23 with h2 h3
      rw [decide_eq_true c2] at t2
      have hpa := placesAt_R hv hL p hp
      have hok : ∀ a ∈ (activeM l p).map Av.pc,PcOk a := fun a ha => by
       obtain ⟨v,hv1,rfl⟩ := List.mem_map.1 ha
       by_cases hpp : p < 0 ∨ p = (l.length : Int)
       ·rw [activeM,if_pos hpp] at hv1
        cases hv1
       ·rw [activeM,if_neg hpp] at hv1
        exact avAt_ok hv hn (p.toNat + 1) (by omega) v hv1
      have hal := activeM_len hp
      rw [← List.length_map (f := Av.pc)] at hal
      generalize (activeM l p).map Av.pc = ps at *
      rw [← whAcc_eq] at h1
      repeat' ((conv => whnf);first | refine hrow rfl ?_ | rw [t1] | rw [t2] | refine Gs.id ?_ | with_reducible refine Brn.T rfl ?_ | with_reducible refine Brn.F rfl ?_ | refine Brn.T (by (try simp only [smT]);first | rfl | omega | fail) ?_ | (refine Bnd.mk (fun hm => ?_);(try simp only [smT] at hm)) | (refine CL.mk (Or.inl ?_);(conv => whnf);first | refine Cl.is (hsp) rfl (by first | (intro e;cases e;done) | fail) ?_ | refine Cl.is (hpa) rfl (by first | (intro e;cases e;done) | fail) ?_) | (refine CL.mk (Or.inl ?_);(conv => whnf);refine ClO.mk (Or.inl ?_);(repeat ((conv => whnf);refine Len.mk (by first | rfl | (simp;done) | fail) ?_));(conv => whnf);first | refine Cl.is (hmv) rfl (by first | exact fun _ => rfl | fail) ?_ | fail) | fail)
      all_goals (conv => whnf)
      refine ⟨⟨Nat,fun k => k ≤ ps.length,fun k => ps.length - k,fun k => ⟨[(0,.d (.u (evs l))),(1,.d (.u (strs' cs))),(5,di p),(6,.d (.ow 900 bs.length)),(7,.d (.ow 901 outs.length)),(8,di i),(10,dsr (whAcc ps k)),(14,.d (.u (pcs ps))),(15,di k)],[(900,.ar 62 4 (bs.map Bp.row)),(901,.ar 9 1 (strs outs))]⟩,0,Nat.zero_le _,⟨[(900,.k 900),(901,.k 901)],⟨by (try dsimp only);(repeat (refine LeT.cons rfl (by first | exact LeS.d (by first | exact LeD.u rfl | exact LeD.ow rfl rfl | fail) | fail) ?_));exact LeT.nil,by (try dsimp only);repeat (first | exact LeO.nil | refine LeO.ar rfl rfl (by first | rfl | fail) ?_ | fail)⟩⟩,fun k hk => ?_⟩⟩
      dsimp only at hk ⊢
      have hsz := whAcc_size hok k hk
      by_cases h8 : k < ps.length
      ·obtain ⟨a,hka⟩ : ∃ a,ps[k]? = some a := ⟨_,List.getElem?_eq_getElem h8⟩
       have hra : ∀ {K : List V → Prop} {j : Int},j = (k : Int) → K a.row → Ix (ps.map Pc.row) j K := fun h r => ⟨⟨k,a.row,h,by rw [List.getElem?_map,hka];rfl,r⟩⟩
       have hao := hok a (List.mem_of_getElem? hka)
       have hpt := placeText_R a hao
       have haz := whereB_size hao
       have hss : (ByteArray.mk #[59,32]).size = 2 := rfl
       have hac : whAcc ps (k + 1) = if k = 0 then whereB a else whereB a ++ semiSp ++ whAcc ps k := by rw [whAcc,hka];rfl
       by_cases hk0 : k = 0
       ·subst hk0
        rw [if_pos rfl] at hac
        repeat' ((conv => whnf);first | refine hra rfl ?_ | refine Gs.id ?_ | with_reducible refine Brn.T rfl ?_ | refine Brn.T (by (try simp only [smT]);first | rfl | omega | fail) ?_ | (refine Bnd.mk (fun hm => ?_);(try simp only [smT] at hm)) | refine Rng.mk (by (try simp only [smT]);omega) ?_ | (refine CL.mk (Or.inl ?_);(conv => whnf);refine Cl.is (hpt) rfl (by first | exact fun _ => rfl | fail) ?_) | fail)
        all_goals (conv => whnf)
        all_goals exact ⟨1,by omega,by omega,[(900,.k 900),(901,.k 901)],by (rw [hac];exact ⟨by (try dsimp only);(repeat (refine LeT.cons rfl (by first | exact LeS.d (by first | exact LeD.u rfl | exact LeD.ow rfl rfl | exact LeD.ow rfl (by simp) | fail) | fail) ?_));exact LeT.nil,by (try dsimp only);repeat (first | exact LeO.nil | refine LeO.ar rfl rfl (by first | rfl | simp) ?_ | fail)⟩)⟩
       ·rw [if_neg hk0] at hac
        generalize whAcc ps k = w at *
        repeat' ((conv => whnf);first | refine hra rfl ?_ | refine Cat.mk (by unfold maxLen;(try simp only [ByteArray.size_append]);omega) ?_ | refine Gs.id ?_ | refine Brn.T (by (try simp only [smT]);first | rfl | omega | fail) ?_ | refine Brn.F (by (try simp only [smT]);first | rfl | omega | fail) ?_ | (refine Bnd.mk (fun hm => ?_);(try simp only [smT] at hm)) | refine Rng.mk (by (try simp only [smT]);omega) ?_ | (refine CL.mk (Or.inl ?_);(conv => whnf);refine Cl.is (hpt) rfl (by first | exact fun _ => rfl | fail) ?_) | fail)
        all_goals (conv => whnf)
        all_goals exact ⟨k + 1,by omega,by omega,[(900,.k 900),(901,.k 901)],by (rw [hac];exact ⟨by (try dsimp only);(repeat (refine LeT.cons rfl (by first | exact LeS.d (by first | exact LeD.u rfl | exact LeD.ow rfl rfl | exact LeD.ow rfl (by simp) | fail) | fail) ?_));exact LeT.nil,by (try dsimp only);repeat (first | exact LeO.nil | refine LeO.ar rfl rfl (by first | rfl | simp) ?_ | fail)⟩)⟩
      ·obtain rfl : k = ps.length := by omega
       repeat' ((conv => whnf);first | (exact Gs.cut (i := 48) (by assumption) () [(900,.k 900),(901,.k 901)] rfl ⟨by (try dsimp only);(repeat (refine LeT.cons rfl (by first | exact LeS.d (by first | exact LeD.u rfl | exact LeD.ow rfl rfl | exact LeD.ow rfl (by simp [h1,h2,h3];done) | exact LeD.u (by simp [h1,h2,h3];done) | fail) | fail) ?_));(first | exact LeT.nil | fail),by (try dsimp only);(repeat (first | exact LeO.nil | refine LeO.ar rfl rfl (by first | rfl | (simp [h1,h2,h3];done) | fail) ?_ | fail));done⟩ (by trivial)) | refine Gs.id ?_ | refine Brn.F (by (try simp only [smT]);first | rfl | omega | fail) ?_ | (refine Bnd.mk (fun hm => ?_);(try simp only [smT] at hm)) | fail)
       all_goals (exfalso;clear hR;first | (simp_all;done) | (simp at *;omega))
     ·rw [if_neg c2] at hdo
      rw [decide_eq_false c2] at t2
      have hwc := words_cut c
      have hcl := cutJ_lt c
      have hrz := cutR_size c
      by_cases c3 : cutW c = breakK ∧ ((spN 3 (cutR' c)).length = 2 ∨ (spN 3 (cutR' c)).length = 4)
      ·rw [if_pos c3] at hdo
       injection hdo with h1 h23
       injection h23 with h2 h3
       obtain ⟨c3,c4⟩ := c3
       have hj : 0 ≤ cutJ c := by
        by_cases hj : 0 ≤ cutJ c
        ·exact hj
        ·exfalso
         unfold cutR' at c4
         rw [if_neg hj] at c4
         have : (spN 3 (ByteArray.mk #[])).length = 1 := by decide +kernel
         omega
       rw [if_pos hj,c3] at hwc
       have hS := spN_le 3 (cutR' c)
       have hwr := words_rest (cutR' c)
       have hcase := addX_cases bs (spN 3 (cutR' c))
       generalize spN 3 (cutR' c) = S at *
       generalize parts32 (cutR' c) = R at *
       rcases c4 with c4 | c4
       ·obtain ⟨w0,w1,rfl⟩ : ∃ w0 w1,S = [w0,w1] := by
         match S,c4 with
         | [a,b],_ => exact ⟨a,b,rfl⟩
        obtain rfl : R = [w0,w1] := by
         rcases hwr with ⟨_,h⟩ | ⟨h,_⟩
         ·exact h
         ·simp at h
        rw [hwc] at hsp
        clear hwr
        have hz0 := hS w0 (by simp)
        rcases hcase with ⟨n,ok,q1,q2,q3⟩ | ⟨n,n0,n1,q1,q3⟩
        ·rw [q3] at h1 h3
         dsimp only at h1 h3
         replace q1 : CallsA Tryz.prog 68 [dsr w1] [] (Is (.t [.d (.u (.int .i64 n)),.d (.u (.bool ok))])) := q1
         cases ok
         ·repeat' ((conv => whnf);first | refine hrow rfl ?_ | rw [t1] | rw [t2] | (exact Gs.cut (i := 48) (by assumption) () [(900,.k 900),(901,.k 901)] rfl ⟨by (try dsimp only);(repeat (refine LeT.cons rfl (by first | exact LeS.d (by first | exact LeD.u rfl | exact LeD.ow rfl rfl | exact LeD.ow rfl (by simp [h1,h2,h3];done) | exact LeD.u (by simp [h1,h2,h3];done) | fail) | fail) ?_));(first | exact LeT.nil | fail),by (try dsimp only);(repeat (first | exact LeO.nil | refine LeO.ar rfl rfl (by first | rfl | (simp [h1,h2,h3];done) | fail) ?_ | fail));done⟩ (by trivial)) | refine Gs.id ?_ | with_reducible refine Brn.T rfl ?_ | with_reducible refine Brn.F rfl ?_ | refine Brn.T (by (try simp only [smT]);first | rfl | omega | (simp [*];done) | fail) ?_ | refine Brn.F (by (try simp only [smT]);first | rfl | omega | (simp [*];done) | fail) ?_ | (refine Bnd.mk (fun hm => ?_);(try simp only [smT] at hm)) | refine Ix.map rfl (by (try simp only [smT]);omega) ?_ | (refine CL.mk (Or.inl ?_);(conv => whnf);first | refine Cl.is (hsp) rfl (by first | (intro e;cases e;done) | fail) ?_ | refine Cl.is (q1) rfl (by first | exact fun _ => rfl | fail) ?_) | (refine CL.mk (Or.inl ?_);(conv => whnf);refine ClO.mk (Or.inl ?_);(repeat ((conv => whnf);refine Len.mk (by first | rfl | (simp;done) | fail) ?_));(conv => whnf);first | refine Cl.is (hmv) rfl (by first | exact fun _ => rfl | fail) ?_ | fail) | fail)
          all_goals (exfalso;clear hR;first | (simp_all;done) | (simp at *;omega))
         ·have q2 : ¬ 0 ≤ n := fun h => q2 ⟨rfl,h⟩
          repeat' ((conv => whnf);first | refine hrow rfl ?_ | rw [t1] | rw [t2] | (exact Gs.cut (i := 48) (by assumption) () [(900,.k 900),(901,.k 901)] rfl ⟨by (try dsimp only);(repeat (refine LeT.cons rfl (by first | exact LeS.d (by first | exact LeD.u rfl | exact LeD.ow rfl rfl | exact LeD.ow rfl (by simp [h1,h2,h3];done) | exact LeD.u (by simp [h1,h2,h3];done) | fail) | fail) ?_));(first | exact LeT.nil | fail),by (try dsimp only);(repeat (first | exact LeO.nil | refine LeO.ar rfl rfl (by first | rfl | (simp [h1,h2,h3];done) | fail) ?_ | fail));done⟩ (by trivial)) | refine Gs.id ?_ | with_reducible refine Brn.T rfl ?_ | with_reducible refine Brn.F rfl ?_ | refine Brn.T (by (try simp only [smT]);first | rfl | omega | (simp [*];done) | fail) ?_ | refine Brn.F (by (try simp only [smT]);first | rfl | omega | (simp [*];done) | fail) ?_ | (refine Bnd.mk (fun hm => ?_);(try simp only [smT] at hm)) | refine Ix.map rfl (by (try simp only [smT]);omega) ?_ | (refine CL.mk (Or.inl ?_);(conv => whnf);first | refine Cl.is (hsp) rfl (by first | (intro e;cases e;done) | fail) ?_ | refine Cl.is (q1) rfl (by first | exact fun _ => rfl | fail) ?_) | (refine CL.mk (Or.inl ?_);(conv => whnf);refine ClO.mk (Or.inl ?_);(repeat ((conv => whnf);refine Len.mk (by first | rfl | (simp;done) | fail) ?_));(conv => whnf);first | refine Cl.is (hmv) rfl (by first | exact fun _ => rfl | fail) ?_ | fail) | fail)
          all_goals (exfalso;clear hR;first | (simp_all;done) | (simp at *;omega))
        ·rw [q3] at h1 h3
         replace q1 : CallsA Tryz.prog 68 [dsr w1] [] (Is (.t [.d (.u (.int .i64 n)),.d (.u (.bool true))])) := q1
         have hwb : wordsB [w0,w1] n = ⟨w0,n,emB,emB⟩ := rfl
         unfold addG at h1 h3
         rw [hwb] at h1 h3
         generalize hbE : (⟨w0,n,emB,emB⟩ : Bp) = b at *
         have hbr := breaks_R (bs ++ [b]) (fun y hy => by
          rcases List.mem_append.1 hy with h | h
          ·have := hmd y h;omega
          ·simp at h;subst h;rw [← hbE];dsimp only;omega)
         rw [show bks (bs ++ [b]) = .sl 4 (bs.map Bp.row ++ [b.row]) from by rw [bks,List.map_append];rfl] at hbr
         have hll : (bs.map Bp.row ++ [b.row]).length = (bs ++ [b]).length := by simp
         have hdc := decimal_R 10 ((bs.map Bp.row ++ [b.row]).length : Nat) (by simp;omega) (by omega) (by simp;omega)
         have his := itoaB_size (n := ((bs.map Bp.row ++ [b.row]).length : Nat)) (by omega) (by simp;omega)
         have hbk : (ByteArray.mk #[98,114,101,97,107,112,111,105,110,116,32]).size = 11 := rfl
         rw [← hll] at h1
         generalize hvv : validB (bs ++ [b]) = v at *
         obtain ⟨vc,vi⟩ := v
         dsimp only at hbr h1 h3
         by_cases v0 : vc = 0
         ·rw [if_neg (by rintro (h | ⟨h,_⟩) <;> simp at h;exact h v0)] at h1 h3
          dsimp only at h1 h3
          subst hbE
          repeat' ((conv => whnf);first | refine hrow rfl ?_ | rw [t1] | rw [t2] | refine Cat.mk (by unfold maxLen;(try simp only [ByteArray.size_append]);omega) ?_ | (exact Gs.cut (i := 48) (by assumption) () [(900,.k 166),(901,.k 901)] rfl ⟨by (try dsimp only);(repeat (refine LeT.cons rfl (by first | exact LeS.d (by first | exact LeD.u rfl | exact LeD.ow rfl rfl | exact LeD.ow rfl (by simp [← h1,h2,← h3];done) | exact LeD.u (by simp [← h1,h2,← h3];done) | fail) | fail) ?_));(first | exact LeT.nil | fail),by (try dsimp only);(repeat (first | exact LeO.nil | refine LeO.ar rfl rfl (by first | rfl | (simp [← h1,h2,← h3];done) | fail) ?_ | fail));done⟩ (by trivial)) | refine Gs.id ?_ | with_reducible refine And.intro ?_ ?_ | with_reducible refine Brn.T rfl ?_ | with_reducible refine Brn.F rfl ?_ | refine Brn.T (by (try simp only [smT]);first | rfl | assumption | omega | (simp [*];done) | fail) ?_ | refine Brn.F (by (try simp only [smT]);first | rfl | (simp [*];done) | fail) ?_ | (refine Bnd.mk (fun hm => ?_);(try simp only [smT] at hm)) | refine Ix.map rfl (by (try simp only [smT]);omega) ?_ | refine Apd.mk (by first | rfl | fail) (by first | rfl | simp) (by (try simp only [smT]);first | omega | fail) (by unfold maxLen;first | (simp;omega) | fail) ?_ | refine Drw.ofT (T := tt) (i := 43) [0,2,3,4,5] [1,6] (OF.fst 1 (OF.alt 0 (OF.alt 2 (OF.alt 3 (OF.alt 4 (OF.alt 5 (OF.fst 6 OF.nil) OF.nil) OF.nil) OF.nil) (OF.alt 3 (OF.alt 2 (OF.alt 4 (OF.alt 5 (OF.fst 6 OF.nil) OF.nil) OF.nil) (OF.alt 4 (OF.alt 2 (OF.alt 5 (OF.fst 6 OF.nil) OF.nil) OF.nil) OF.nil)) OF.nil)) (OF.alt 3 (OF.alt 0 (OF.alt 2 (OF.alt 4 (OF.alt 5 (OF.fst 6 OF.nil) OF.nil) OF.nil) (OF.alt 4 (OF.alt 2 (OF.alt 5 (OF.fst 6 OF.nil) OF.nil) OF.nil) OF.nil)) (OF.alt 4 (OF.alt 0 (OF.alt 2 (OF.alt 5 (OF.fst 6 OF.nil) OF.nil) OF.nil) OF.nil) OF.nil)) OF.nil))) (by kernel_rfl) ?_ | (refine CL.mk (Or.inl ?_);(conv => whnf);first | refine Cl.is (hsp) rfl (by first | (intro e;cases e;done) | fail) ?_ | refine Cl.is (q1) rfl (by first | exact fun _ => rfl | fail) ?_ | refine Cl.is (hdc) rfl (by first | exact fun _ => rfl | fail) ?_) | (refine CL.mk (Or.inl ?_);(conv => whnf);refine ClO.mk (Or.inl ?_);(repeat ((conv => whnf);refine Len.mk (by first | rfl | (simp;done) | fail) ?_));(conv => whnf);first | refine Cl.is (hmv) rfl (by first | exact fun _ => rfl | fail) ?_ | refine Cl.is (hbr) rfl (by first | exact fun _ => rfl | fail) ?_ | fail) | fail)
          all_goals (exfalso;clear hR;first | (simp_all;done) | (simp at *;omega))
         ·rw [if_pos (.inl v0)] at h1 h3
          dsimp only at h1 h3
          subst hbE
          repeat' ((conv => whnf);first | refine hrow rfl ?_ | rw [t1] | rw [t2] | (exact Gs.cut (i := 48) (by assumption) () [(900,.k 900),(901,.k 901)] rfl ⟨by (try dsimp only);(repeat (refine LeT.cons rfl (by first | exact LeS.d (by first | exact LeD.u rfl | exact LeD.ow rfl rfl | exact LeD.ow rfl (by simp [h1,h2,h3];done) | exact LeD.u (by simp [h1,h2,h3];done) | fail) | fail) ?_));(first | exact LeT.nil | fail),by (try dsimp only);(repeat (first | exact LeO.nil | refine LeO.ar rfl rfl (by first | rfl | (simp [h1,h2,h3];done) | fail) ?_ | fail));done⟩ (by trivial)) | refine Gs.id ?_ | with_reducible refine And.intro ?_ ?_ | with_reducible refine Brn.T rfl ?_ | with_reducible refine Brn.F rfl ?_ | refine Brn.T (by (try simp only [smT]);first | rfl | assumption | omega | (simp [*];done) | fail) ?_ | refine Brn.F (by (try simp only [smT]);first | rfl | assumption | (simp [*];done) | fail) ?_ | (refine Bnd.mk (fun hm => ?_);(try simp only [smT] at hm)) | refine Ix.map rfl (by (try simp only [smT]);omega) ?_ | refine Apd.mk (by first | rfl | fail) (by first | rfl | simp) (by (try simp only [smT]);first | omega | fail) (by unfold maxLen;first | (simp;omega) | fail) ?_ | refine Drw.ofT (T := tt) (i := 43) [0,2,3,4,5] [1,6] (OF.fst 1 (OF.alt 0 (OF.alt 2 (OF.alt 3 (OF.alt 4 (OF.alt 5 (OF.fst 6 OF.nil) OF.nil) OF.nil) OF.nil) (OF.alt 3 (OF.alt 2 (OF.alt 4 (OF.alt 5 (OF.fst 6 OF.nil) OF.nil) OF.nil) (OF.alt 4 (OF.alt 2 (OF.alt 5 (OF.fst 6 OF.nil) OF.nil) OF.nil) OF.nil)) OF.nil)) (OF.alt 3 (OF.alt 0 (OF.alt 2 (OF.alt 4 (OF.alt 5 (OF.fst 6 OF.nil) OF.nil) OF.nil) (OF.alt 4 (OF.alt 2 (OF.alt 5 (OF.fst 6 OF.nil) OF.nil) OF.nil) OF.nil)) (OF.alt 4 (OF.alt 0 (OF.alt 2 (OF.alt 5 (OF.fst 6 OF.nil) OF.nil) OF.nil) OF.nil) OF.nil)) OF.nil))) (by kernel_rfl) ?_ | (refine CL.mk (Or.inl ?_);(conv => whnf);first | refine Cl.is (hsp) rfl (by first | (intro e;cases e;done) | fail) ?_ | refine Cl.is (q1) rfl (by first | exact fun _ => rfl | fail) ?_ | fail) | (refine CL.mk (Or.inl ?_);(conv => whnf);refine ClO.mk (Or.inl ?_);(repeat ((conv => whnf);refine Len.mk (by first | rfl | (simp;done) | fail) ?_));(conv => whnf);first | refine Cl.is (hmv) rfl (by first | exact fun _ => rfl | fail) ?_ | refine Cl.is (hbr) rfl (by first | exact fun _ => rfl | fail) ?_ | fail) | fail)
          all_goals (exfalso;clear hR;first | (simp_all;done) | (simp at *;omega))
       ·obtain ⟨w0,w1,w2,w3,rfl⟩ : ∃ w0 w1 w2 w3,S = [w0,w1,w2,w3] := by
         match S,c4 with
         | [a,b,d,e],_ => exact ⟨a,b,d,e,rfl⟩
        obtain ⟨L,hRL,hLn,hLj⟩ : ∃ L,R = [w0,w1,w2] ++ L ∧ L ≠ [] ∧ joinB L spc L.length = w3 := by
         rcases hwr with ⟨h,_⟩ | ⟨_,x,L,q1,q2,q3,q4⟩
         ·simp at h
         ·simp at q1
          subst q1
          exact ⟨L,q2,q3,q4⟩
        rw [hwc,hRL] at hsp
        have hz0 := hS w0 (by simp)
        have hz3 := hS w3 (by simp)
        have hjn : CallsA Tryz.prog 69 [.d (.u (.sl 1 ((strs (breakK :: ([w0,w1,w2] ++ L))).take (strs (breakK :: ([w0,w1,w2] ++ L))).length |>.drop 4))),dsr spc] [] (Is (dsr w3)) := by
         have e : ((strs (breakK :: ([w0,w1,w2] ++ L))).take (strs (breakK :: ([w0,w1,w2] ++ L))).length).drop 4 = strs L := by
          rw [List.take_length];rfl
         rw [e]
         have hq := join_R L spc (by
          have := joinB_total L spc
          have hs1 : spc.size = 1 := rfl
          rw [hLj] at this
          omega)
         rw [hLj] at hq
         exact hq
        have hrl : ((strs (breakK :: ([w0,w1,w2] ++ L))).length : Int) = (L.length : Int) + 4 := by simp;omega
        have hL1 : 1 ≤ L.length := List.length_pos_iff.2 hLn
        have hx0 : ∀ {K : List V → Prop} {j : Int},j = 0 → K [V.str breakK] → Ix (strs (breakK :: ([w0,w1,w2] ++ L))) j K := fun h k => ⟨⟨0,_,h,rfl,k⟩⟩
        have hx1 : ∀ {K : List V → Prop} {j : Int},j = 1 → K [V.str w0] → Ix (strs (breakK :: ([w0,w1,w2] ++ L))) j K := fun h k => ⟨⟨1,_,h,rfl,k⟩⟩
        have hx2 : ∀ {K : List V → Prop} {j : Int},j = 2 → K [V.str w1] → Ix (strs (breakK :: ([w0,w1,w2] ++ L))) j K := fun h k => ⟨⟨2,_,h,rfl,k⟩⟩
        have hx3 : ∀ {K : List V → Prop} {j : Int},j = 3 → K [V.str w2] → Ix (strs (breakK :: ([w0,w1,w2] ++ L))) j K := fun h k => ⟨⟨3,_,h,rfl,k⟩⟩
        clear hwr hRL hLj
        generalize strs (breakK :: ([w0,w1,w2] ++ L)) = rows at *
        have hrl4 : ¬ (L.length : Int) + 4 = 3 := by omega
        have hrl5 : (4 : Int) < (L.length : Int) + 4 := by omega
        rcases hcase with ⟨n,ok,q1,q2,q3⟩ | ⟨n,n0,n1,q1,q3⟩
        ·rw [q3] at h1 h3
         dsimp only at h1 h3
         replace q1 : CallsA Tryz.prog 68 [dsr w1] [] (Is (.t [.d (.u (.int .i64 n)),.d (.u (.bool ok))])) := q1
         cases ok
         ·repeat' ((conv => whnf);first | refine hrow rfl ?_ | refine hx0 rfl ?_ | refine hx2 rfl ?_ | rw [t1] | rw [t2] | (exact Gs.cut (i := 48) (by assumption) () [(900,.k 900),(901,.k 901)] rfl ⟨by (try dsimp only);(repeat (refine LeT.cons rfl (by first | exact LeS.d (by first | exact LeD.u rfl | exact LeD.ow rfl rfl | exact LeD.ow rfl (by simp [h1,h2,h3];done) | exact LeD.u (by simp [h1,h2,h3];done) | fail) | fail) ?_));(first | exact LeT.nil | fail),by (try dsimp only);(repeat (first | exact LeO.nil | refine LeO.ar rfl rfl (by first | rfl | (simp [h1,h2,h3];done) | fail) ?_ | fail));done⟩ (by trivial)) | refine Gs.id ?_ | with_reducible refine Brn.T rfl ?_ | with_reducible refine Brn.F rfl ?_ | refine Brn.T (by (try simp only [smT]);first | rfl | omega | (simp [*];done) | fail) ?_ | refine Brn.F (by (try simp only [smT]);first | rfl | omega | (simp [*];done) | fail) ?_ | (refine Bnd.mk (fun hm => ?_);(try simp only [smT] at hm)) | (refine CL.mk (Or.inl ?_);(conv => whnf);first | refine Cl.is (hsp) rfl (by first | (intro e;cases e;done) | fail) ?_ | refine Cl.is (q1) rfl (by first | exact fun _ => rfl | fail) ?_) | (refine CL.mk (Or.inl ?_);(conv => whnf);refine ClO.mk (Or.inl ?_);(repeat ((conv => whnf);refine Len.mk (by first | rfl | (simp;done) | fail) ?_));(conv => whnf);first | refine Cl.is (hmv) rfl (by first | exact fun _ => rfl | fail) ?_ | fail) | fail)
          all_goals (exfalso;clear hR;first | (simp_all;done) | (simp at *;omega))
         ·have q2 : ¬ 0 ≤ n := fun h => q2 ⟨rfl,h⟩
          repeat' ((conv => whnf);first | refine hrow rfl ?_ | refine hx0 rfl ?_ | refine hx2 rfl ?_ | rw [t1] | rw [t2] | (exact Gs.cut (i := 48) (by assumption) () [(900,.k 900),(901,.k 901)] rfl ⟨by (try dsimp only);(repeat (refine LeT.cons rfl (by first | exact LeS.d (by first | exact LeD.u rfl | exact LeD.ow rfl rfl | exact LeD.ow rfl (by simp [h1,h2,h3];done) | exact LeD.u (by simp [h1,h2,h3];done) | fail) | fail) ?_));(first | exact LeT.nil | fail),by (try dsimp only);(repeat (first | exact LeO.nil | refine LeO.ar rfl rfl (by first | rfl | (simp [h1,h2,h3];done) | fail) ?_ | fail));done⟩ (by trivial)) | refine Gs.id ?_ | with_reducible refine Brn.T rfl ?_ | with_reducible refine Brn.F rfl ?_ | refine Brn.T (by (try simp only [smT]);first | rfl | omega | (simp [*];done) | fail) ?_ | refine Brn.F (by (try simp only [smT]);first | rfl | omega | (simp [*];done) | fail) ?_ | (refine Bnd.mk (fun hm => ?_);(try simp only [smT] at hm)) | (refine CL.mk (Or.inl ?_);(conv => whnf);first | refine Cl.is (hsp) rfl (by first | (intro e;cases e;done) | fail) ?_ | refine Cl.is (q1) rfl (by first | exact fun _ => rfl | fail) ?_) | (refine CL.mk (Or.inl ?_);(conv => whnf);refine ClO.mk (Or.inl ?_);(repeat ((conv => whnf);refine Len.mk (by first | rfl | (simp;done) | fail) ?_));(conv => whnf);first | refine Cl.is (hmv) rfl (by first | exact fun _ => rfl | fail) ?_ | fail) | fail)
          all_goals (exfalso;clear hR;first | (simp_all;done) | (simp at *;omega))
        ·rw [q3] at h1 h3
         replace q1 : CallsA Tryz.prog 68 [dsr w1] [] (Is (.t [.d (.u (.int .i64 n)),.d (.u (.bool true))])) := q1
         have hwb : wordsB [w0,w1,w2,w3] n = ⟨w0,n,w2,w3⟩ := rfl
         unfold addG at h1 h3
         rw [hwb] at h1 h3
         generalize hbE : (⟨w0,n,w2,w3⟩ : Bp) = b at *
         have hbr := breaks_R (bs ++ [b]) (fun y hy => by
          rcases List.mem_append.1 hy with h | h
          ·have := hmd y h;omega
          ·simp at h;subst h;rw [← hbE];dsimp only;omega)
         rw [show bks (bs ++ [b]) = .sl 4 (bs.map Bp.row ++ [b.row]) from by rw [bks,List.map_append];rfl] at hbr
         have hll : (bs.map Bp.row ++ [b.row]).length = (bs ++ [b]).length := by simp
         have hdc := decimal_R 10 ((bs.map Bp.row ++ [b.row]).length : Nat) (by simp;omega) (by omega) (by simp;omega)
         have his := itoaB_size (n := ((bs.map Bp.row ++ [b.row]).length : Nat)) (by omega) (by simp;omega)
         have hbk : (ByteArray.mk #[98,114,101,97,107,112,111,105,110,116,32]).size = 11 := rfl
         have t5 := toList_beq w2 emB
         have hnm : b.nm = w2 := by rw [← hbE]
         rw [← hll,hnm] at h1
         rw [hnm] at h3
         clear hnm
         generalize hvv : validB (bs ++ [b]) = v at *
         obtain ⟨vc,vi⟩ := v
         dsimp only at hbr h1 h3
         by_cases v0 : vc = 0
         ·by_cases v4 : w2 = emB
          ·rw [if_pos (.inr ⟨rfl,v4⟩)] at h1 h3
           dsimp only at h1 h3
           rw [decide_eq_true v4] at t5
           subst hbE
           repeat' ((conv => whnf);first | refine hrow rfl ?_ | refine hx0 rfl ?_ | refine hx1 rfl ?_ | refine hx2 rfl ?_ | refine hx3 rfl ?_ | rw [t1] | rw [t2] | rw [t5] | refine Slc.mk ⟨4,rows.length,rfl,rfl,(by omega),(by omega),?_⟩ | (exact Gs.cut (i := 48) (by assumption) () [(900,.k 900),(901,.k 901)] rfl ⟨by (try dsimp only);(repeat (refine LeT.cons rfl (by first | exact LeS.d (by first | exact LeD.u rfl | exact LeD.ow rfl rfl | exact LeD.ow rfl (by simp [h1,h2,h3];done) | exact LeD.u (by simp [h1,h2,h3];done) | fail) | fail) ?_));(first | exact LeT.nil | fail),by (try dsimp only);(repeat (first | exact LeO.nil | refine LeO.ar rfl rfl (by first | rfl | (simp [h1,h2,h3];done) | fail) ?_ | fail));done⟩ (by trivial)) | refine Gs.id ?_ | with_reducible refine And.intro ?_ ?_ | with_reducible refine Brn.T rfl ?_ | with_reducible refine Brn.F rfl ?_ | refine Brn.T (by (try simp only [smT]);first | rfl | assumption | omega | (simp [*];done) | fail) ?_ | refine Brn.F (by (try simp only [smT]);first | rfl | assumption | omega | (simp [*];done) | fail) ?_ | (refine Bnd.mk (fun hm => ?_);(try simp only [smT] at hm)) | refine Apd.mk (by first | rfl | fail) (by first | rfl | simp) (by (try simp only [smT]);first | omega | fail) (by unfold maxLen;first | (simp;omega) | fail) ?_ | refine Drw.ofT (T := tt) (i := 43) [0,2,3,4,5] [1,6] (OF.fst 1 (OF.alt 0 (OF.alt 2 (OF.alt 3 (OF.alt 4 (OF.alt 5 (OF.fst 6 OF.nil) OF.nil) OF.nil) OF.nil) (OF.alt 3 (OF.alt 2 (OF.alt 4 (OF.alt 5 (OF.fst 6 OF.nil) OF.nil) OF.nil) (OF.alt 4 (OF.alt 2 (OF.alt 5 (OF.fst 6 OF.nil) OF.nil) OF.nil) OF.nil)) OF.nil)) (OF.alt 3 (OF.alt 0 (OF.alt 2 (OF.alt 4 (OF.alt 5 (OF.fst 6 OF.nil) OF.nil) OF.nil) (OF.alt 4 (OF.alt 2 (OF.alt 5 (OF.fst 6 OF.nil) OF.nil) OF.nil) OF.nil)) (OF.alt 4 (OF.alt 0 (OF.alt 2 (OF.alt 5 (OF.fst 6 OF.nil) OF.nil) OF.nil) OF.nil) OF.nil)) OF.nil))) (by kernel_rfl) ?_ | (refine CL.mk (Or.inl ?_);(conv => whnf);first | refine Cl.is (hsp) rfl (by first | (intro e;cases e;done) | fail) ?_ | refine Cl.is (q1) rfl (by first | exact fun _ => rfl | fail) ?_ | refine Cl.is (hjn) rfl (by first | exact fun _ => rfl | fail) ?_) | (refine CL.mk (Or.inl ?_);(conv => whnf);refine ClO.mk (Or.inl ?_);(repeat ((conv => whnf);refine Len.mk (by first | rfl | (simp;done) | fail) ?_));(conv => whnf);first | refine Cl.is (hmv) rfl (by first | exact fun _ => rfl | fail) ?_ | refine Cl.is (hbr) rfl (by first | exact fun _ => rfl | fail) ?_ | fail) | fail)
           all_goals (exfalso;clear hR;first | (simp_all;done) | (simp at *;omega))
          ·rw [if_neg (by rintro (h | ⟨_,h⟩) <;> first | exact v4 h | exact h v0)] at h1 h3
           dsimp only at h1 h3
           rw [decide_eq_false v4] at t5
           subst hbE
           repeat' ((conv => whnf);first | refine hrow rfl ?_ | refine hx0 rfl ?_ | refine hx1 rfl ?_ | refine hx2 rfl ?_ | refine hx3 rfl ?_ | rw [t1] | rw [t2] | rw [t5] | refine Slc.mk ⟨4,rows.length,rfl,rfl,(by omega),(by omega),?_⟩ | refine Cat.mk (by unfold maxLen;(try simp only [ByteArray.size_append]);omega) ?_ | (exact Gs.cut (i := 48) (by assumption) () [(900,.k 166),(901,.k 901)] rfl ⟨by (try dsimp only);(repeat (refine LeT.cons rfl (by first | exact LeS.d (by first | exact LeD.u rfl | exact LeD.ow rfl rfl | exact LeD.ow rfl (by simp [← h1,h2,← h3];done) | exact LeD.u (by simp [← h1,h2,← h3];done) | fail) | fail) ?_));(first | exact LeT.nil | fail),by (try dsimp only);(repeat (first | exact LeO.nil | refine LeO.ar rfl rfl (by first | rfl | (simp [← h1,h2,← h3];done) | fail) ?_ | fail));done⟩ (by trivial)) | refine Gs.id ?_ | with_reducible refine And.intro ?_ ?_ | with_reducible refine Brn.T rfl ?_ | with_reducible refine Brn.F rfl ?_ | refine Brn.T (by (try simp only [smT]);first | rfl | assumption | omega | (simp [*];done) | fail) ?_ | refine Brn.F (by (try simp only [smT]);first | rfl | omega | (simp [*];done) | fail) ?_ | (refine Bnd.mk (fun hm => ?_);(try simp only [smT] at hm)) | refine Apd.mk (by first | rfl | fail) (by first | rfl | simp) (by (try simp only [smT]);first | omega | fail) (by unfold maxLen;first | (simp;omega) | fail) ?_ | refine Drw.ofT (T := tt) (i := 43) [0,2,3,4,5] [1,6] (OF.fst 1 (OF.alt 0 (OF.alt 2 (OF.alt 3 (OF.alt 4 (OF.alt 5 (OF.fst 6 OF.nil) OF.nil) OF.nil) OF.nil) (OF.alt 3 (OF.alt 2 (OF.alt 4 (OF.alt 5 (OF.fst 6 OF.nil) OF.nil) OF.nil) (OF.alt 4 (OF.alt 2 (OF.alt 5 (OF.fst 6 OF.nil) OF.nil) OF.nil) OF.nil)) OF.nil)) (OF.alt 3 (OF.alt 0 (OF.alt 2 (OF.alt 4 (OF.alt 5 (OF.fst 6 OF.nil) OF.nil) OF.nil) (OF.alt 4 (OF.alt 2 (OF.alt 5 (OF.fst 6 OF.nil) OF.nil) OF.nil) OF.nil)) (OF.alt 4 (OF.alt 0 (OF.alt 2 (OF.alt 5 (OF.fst 6 OF.nil) OF.nil) OF.nil) OF.nil) OF.nil)) OF.nil))) (by kernel_rfl) ?_ | (refine CL.mk (Or.inl ?_);(conv => whnf);first | refine Cl.is (hsp) rfl (by first | (intro e;cases e;done) | fail) ?_ | refine Cl.is (q1) rfl (by first | exact fun _ => rfl | fail) ?_ | refine Cl.is (hdc) rfl (by first | exact fun _ => rfl | fail) ?_ | refine Cl.is (hjn) rfl (by first | exact fun _ => rfl | fail) ?_) | (refine CL.mk (Or.inl ?_);(conv => whnf);refine ClO.mk (Or.inl ?_);(repeat ((conv => whnf);refine Len.mk (by first | rfl | (simp;done) | fail) ?_));(conv => whnf);first | refine Cl.is (hmv) rfl (by first | exact fun _ => rfl | fail) ?_ | refine Cl.is (hbr) rfl (by first | exact fun _ => rfl | fail) ?_ | fail) | fail)
           all_goals (exfalso;clear hR;first | (simp_all;done) | (simp at *;omega))
         ·rw [if_pos (.inl v0)] at h1 h3
          dsimp only at h1 h3
          subst hbE
          repeat' ((conv => whnf);first | refine hrow rfl ?_ | refine hx0 rfl ?_ | refine hx1 rfl ?_ | refine hx2 rfl ?_ | refine hx3 rfl ?_ | rw [t1] | rw [t2] | rw [t5] | refine Slc.mk ⟨4,rows.length,rfl,rfl,(by omega),(by omega),?_⟩ | (exact Gs.cut (i := 48) (by assumption) () [(900,.k 900),(901,.k 901)] rfl ⟨by (try dsimp only);(repeat (refine LeT.cons rfl (by first | exact LeS.d (by first | exact LeD.u rfl | exact LeD.ow rfl rfl | exact LeD.ow rfl (by simp [h1,h2,h3];done) | exact LeD.u (by simp [h1,h2,h3];done) | fail) | fail) ?_));(first | exact LeT.nil | fail),by (try dsimp only);(repeat (first | exact LeO.nil | refine LeO.ar rfl rfl (by first | rfl | (simp [h1,h2,h3];done) | fail) ?_ | fail));done⟩ (by trivial)) | refine Gs.id ?_ | with_reducible refine And.intro ?_ ?_ | with_reducible refine Brn.T rfl ?_ | with_reducible refine Brn.F rfl ?_ | refine Brn.T (by (try simp only [smT]);first | rfl | assumption | omega | (simp [*];done) | fail) ?_ | refine Brn.F (by (try simp only [smT]);first | rfl | assumption | omega | (simp [*];done) | fail) ?_ | (refine Bnd.mk (fun hm => ?_);(try simp only [smT] at hm)) | refine Apd.mk (by first | rfl | fail) (by first | rfl | simp) (by (try simp only [smT]);first | omega | fail) (by unfold maxLen;first | (simp;omega) | fail) ?_ | refine Drw.ofT (T := tt) (i := 43) [0,2,3,4,5] [1,6] (OF.fst 1 (OF.alt 0 (OF.alt 2 (OF.alt 3 (OF.alt 4 (OF.alt 5 (OF.fst 6 OF.nil) OF.nil) OF.nil) OF.nil) (OF.alt 3 (OF.alt 2 (OF.alt 4 (OF.alt 5 (OF.fst 6 OF.nil) OF.nil) OF.nil) (OF.alt 4 (OF.alt 2 (OF.alt 5 (OF.fst 6 OF.nil) OF.nil) OF.nil) OF.nil)) OF.nil)) (OF.alt 3 (OF.alt 0 (OF.alt 2 (OF.alt 4 (OF.alt 5 (OF.fst 6 OF.nil) OF.nil) OF.nil) (OF.alt 4 (OF.alt 2 (OF.alt 5 (OF.fst 6 OF.nil) OF.nil) OF.nil) OF.nil)) (OF.alt 4 (OF.alt 0 (OF.alt 2 (OF.alt 5 (OF.fst 6 OF.nil) OF.nil) OF.nil) OF.nil) OF.nil)) OF.nil))) (by kernel_rfl) ?_ | (refine CL.mk (Or.inl ?_);(conv => whnf);first | refine Cl.is (hsp) rfl (by first | (intro e;cases e;done) | fail) ?_ | refine Cl.is (q1) rfl (by first | exact fun _ => rfl | fail) ?_ | refine Cl.is (hjn) rfl (by first | exact fun _ => rfl | fail) ?_) | (refine CL.mk (Or.inl ?_);(conv => whnf);refine ClO.mk (Or.inl ?_);(repeat ((conv => whnf);refine Len.mk (by first | rfl | (simp;done) | fail) ?_));(conv => whnf);first | refine Cl.is (hmv) rfl (by first | exact fun _ => rfl | fail) ?_ | refine Cl.is (hbr) rfl (by first | exact fun _ => rfl | fail) ?_ | fail) | fail)
          all_goals (exfalso;clear hR;first | (simp_all;done) | (simp at *;omega))
      ·rw [if_neg c3] at hdo
       cases c4 : isShow c
       ·rw [c4,if_neg (by simp)] at hdo
        injection hdo with h1 h23
        injection h23 with h2 h3
        obtain ⟨R,hR2⟩ : ∃ R,parts32 c = cutW c :: R := by
         by_cases hj : 0 ≤ cutJ c
         ·exact ⟨_,by rw [hwc,if_pos hj]⟩
         ·refine ⟨[],?_⟩
          rw [hwc,if_neg hj]
          unfold cutW
          rw [if_neg hj]
        have f0 : 1 ≤ R.length → 0 ≤ cutJ c ∧ R = parts32 (cutR' c) := fun h => by
         by_cases hj : 0 ≤ cutJ c
         ·rw [hwc,if_pos hj] at hR2
          injection hR2 with _ h2
          exact ⟨hj,h2.symm⟩
         ·rw [hwc,if_neg hj] at hR2
          injection hR2 with _ h2
          subst h2
          simp at h
        have f1 : ¬ (cutW c = show4 ∧ 1 ≤ R.length) := fun h => by
         have := (show_iff c).2 ⟨(f0 h.2).1,h.1⟩
         rw [c4] at this
         cases this
        have f2 : ¬ (cutW c = breakK ∧ (R.length = 2 ∨ 4 ≤ R.length)) := fun h => by
         obtain ⟨_,e⟩ := f0 (by rcases h.2 with h | h <;> omega)
         refine c3 ⟨h.1,?_⟩
         rcases words_rest (cutR' c) with ⟨g1,g2⟩ | ⟨g1,_⟩
         ·rw [← e] at g2
          rw [← g2] at g1 ⊢
          rcases h.2 with h | h
          ·exact .inl h
          ·omega
         ·exact .inr g1
        rw [hR2] at hsp
        have hrl : ((strs (cutW c :: R)).length : Int) = (R.length : Int) + 1 := by simp
        have hr0 : ∀ {K : List V → Prop} {j : Int},j = 0 → K [V.str (cutW c)] → Ix (strs (cutW c :: R)) j K := fun h k => ⟨⟨0,_,h,rfl,k⟩⟩
        have t3 := toList_beq (cutW c) show4
        have t4 := toList_beq (cutW c) breakK
        clear hwc f0 hR2 c4 c3 hrz hcl
        generalize cutW c = w at *
        generalize strs (w :: R) = rows at *
        by_cases g3 : w = show4
        ·have g4 : ¬ w = breakK := by rw [g3];decide
         have g5 : ¬ 1 ≤ R.length := fun h => f1 ⟨g3,h⟩
         rw [decide_eq_true g3] at t3
         rw [decide_eq_false g4] at t4
         clear f1 f2 g3 g4
         repeat' ((conv => whnf);first | refine hrow rfl ?_ | refine hr0 rfl ?_ | rw [t1] | rw [t2] | rw [t3] | rw [t4] | (exact Gs.cut (i := 48) (by assumption) () [(900,.k 900),(901,.k 901)] rfl ⟨by (try dsimp only);(repeat (refine LeT.cons rfl (by first | exact LeS.d (by first | exact LeD.u rfl | exact LeD.ow rfl rfl | exact LeD.ow rfl (by simp [h1,h2,h3];done) | exact LeD.u (by simp [h1,h2,h3];done) | fail) | fail) ?_));(first | exact LeT.nil | fail),by (try dsimp only);(repeat (first | exact LeO.nil | refine LeO.ar rfl rfl (by first | rfl | (simp [h1,h2,h3];done) | fail) ?_ | fail));done⟩ (by trivial)) | refine Gs.id ?_ | with_reducible refine Brn.T rfl ?_ | with_reducible refine Brn.F rfl ?_ | refine Brn.T (by (try simp only [smT]);first | rfl | omega | fail) ?_ | refine Brn.F (by (try simp only [smT]);first | rfl | omega | fail) ?_ | (refine Bnd.mk (fun hm => ?_);(try simp only [smT] at hm)) | (refine CL.mk (Or.inl ?_);(conv => whnf);first | refine Cl.is (hsp) rfl (by first | (intro e;cases e;done) | fail) ?_ | fail) | (refine CL.mk (Or.inl ?_);(conv => whnf);refine ClO.mk (Or.inl ?_);(repeat ((conv => whnf);refine Len.mk (by first | rfl | (simp;done) | fail) ?_));(conv => whnf);refine Cl.is (hmv) rfl (by first | exact fun _ => rfl | fail) ?_) | fail)
         all_goals (exfalso;clear hR;first | (simp_all;done) | (simp at *;omega))
        ·rw [decide_eq_false g3] at t3
         by_cases g4 : w = breakK
         ·have g5 : ¬ (R.length = 2 ∨ 4 ≤ R.length) := fun h => f2 ⟨g4,h⟩
          have g6 : ¬ (R.length : Int) + 1 = 3 := by omega
          have g7 : ¬ (4 : Int) < (R.length : Int) + 1 := by omega
          rw [decide_eq_true g4] at t4
          clear f1 f2 g3 g4
          repeat' ((conv => whnf);first | refine hrow rfl ?_ | refine hr0 rfl ?_ | rw [t1] | rw [t2] | rw [t3] | rw [t4] | (exact Gs.cut (i := 48) (by assumption) () [(900,.k 900),(901,.k 901)] rfl ⟨by (try dsimp only);(repeat (refine LeT.cons rfl (by first | exact LeS.d (by first | exact LeD.u rfl | exact LeD.ow rfl rfl | exact LeD.ow rfl (by simp [h1,h2,h3];done) | exact LeD.u (by simp [h1,h2,h3];done) | fail) | fail) ?_));(first | exact LeT.nil | fail),by (try dsimp only);(repeat (first | exact LeO.nil | refine LeO.ar rfl rfl (by first | rfl | (simp [h1,h2,h3];done) | fail) ?_ | fail));done⟩ (by trivial)) | refine Gs.id ?_ | with_reducible refine Brn.T rfl ?_ | with_reducible refine Brn.F rfl ?_ | refine Brn.T (by (try simp only [smT]);first | rfl | omega | fail) ?_ | refine Brn.F (by (try simp only [smT]);first | rfl | omega | fail) ?_ | (refine Bnd.mk (fun hm => ?_);(try simp only [smT] at hm)) | (refine CL.mk (Or.inl ?_);(conv => whnf);first | refine Cl.is (hsp) rfl (by first | (intro e;cases e;done) | fail) ?_ | fail) | (refine CL.mk (Or.inl ?_);(conv => whnf);refine ClO.mk (Or.inl ?_);(repeat ((conv => whnf);refine Len.mk (by first | rfl | (simp;done) | fail) ?_));(conv => whnf);refine Cl.is (hmv) rfl (by first | exact fun _ => rfl | fail) ?_) | fail)
          all_goals (exfalso;clear hR;first | (simp_all;done) | (simp at *;omega))
         ·rw [decide_eq_false g4] at t4
          clear f1 f2 g3 g4
          repeat' ((conv => whnf);first | refine hrow rfl ?_ | refine hr0 rfl ?_ | rw [t1] | rw [t2] | rw [t3] | rw [t4] | (exact Gs.cut (i := 48) (by assumption) () [(900,.k 900),(901,.k 901)] rfl ⟨by (try dsimp only);(repeat (refine LeT.cons rfl (by first | exact LeS.d (by first | exact LeD.u rfl | exact LeD.ow rfl rfl | exact LeD.ow rfl (by simp [h1,h2,h3];done) | exact LeD.u (by simp [h1,h2,h3];done) | fail) | fail) ?_));(first | exact LeT.nil | fail),by (try dsimp only);(repeat (first | exact LeO.nil | refine LeO.ar rfl rfl (by first | rfl | (simp [h1,h2,h3];done) | fail) ?_ | fail));done⟩ (by trivial)) | refine Gs.id ?_ | with_reducible refine Brn.T rfl ?_ | with_reducible refine Brn.F rfl ?_ | refine Brn.T (by (try simp only [smT]);first | rfl | omega | fail) ?_ | refine Brn.F (by (try simp only [smT]);first | rfl | omega | fail) ?_ | (refine Bnd.mk (fun hm => ?_);(try simp only [smT] at hm)) | (refine CL.mk (Or.inl ?_);(conv => whnf);first | refine Cl.is (hsp) rfl (by first | (intro e;cases e;done) | fail) ?_ | fail) | (refine CL.mk (Or.inl ?_);(conv => whnf);refine ClO.mk (Or.inl ?_);(repeat ((conv => whnf);refine Len.mk (by first | rfl | (simp;done) | fail) ?_));(conv => whnf);refine Cl.is (hmv) rfl (by first | exact fun _ => rfl | fail) ?_) | fail)
          all_goals (exfalso;clear hR;first | (simp_all;done) | (simp at *;omega))
       ·rw [c4,if_pos rfl] at hdo
        injection hdo with h1 h23
        injection h23 with h2 h3
        obtain ⟨hj,hw⟩ := (show_iff c).1 c4
        have hrs := show_rest c4
        rw [if_pos hj,hw,hrs] at hwc
        rw [hrs] at h1
        rw [hwc] at hsp
        have hsh := shown_R hv he (c.extract 5 c.size) p hp
        unfold varS at hsh
        have hnm := name_R (c.extract 5 c.size)
        have hc5 : 5 ≤ c.size := by
         unfold isShow at c4
         simp only [Bool.and_eq_true,decide_eq_true_eq] at c4
         exact c4.1
        have hne : 1 ≤ (parts32 (c.extract 5 c.size)).length := by
         rw [parts32_spN _ _ (Nat.le_refl _)]
         exact (spN_len _ _).1
        generalize showM l p (c.extract 5 c.size) = o at *
        generalize nameB (c.extract 5 c.size) = bn at *
        generalize parts32 (c.extract 5 c.size) = R at *
        have hrl : ((strs (show4 :: R)).length : Int) = (R.length : Int) + 1 := by simp
        have hr0 : ∀ {K : List V → Prop} {j : Int},j = 0 → K [V.str show4] → Ix (strs (show4 :: R)) j K := fun h k => ⟨⟨0,_,h,rfl,k⟩⟩
        clear hwc c4 c3 hrz hcl hj hw hrs
        generalize strs (show4 :: R) = rows at *
        have hlt : (1 : Int) < (R.length : Int) + 1 := by omega
        cases o with
        | none =>
         rw [if_neg (by simp)] at h1
         repeat' ((conv => whnf);first | refine hrow rfl ?_ | refine hr0 rfl ?_ | rw [t1] | rw [t2] | refine Slc.mk ⟨5,c.size,rfl,rfl,(by omega),(by omega),?_⟩ | (exact Gs.cut (i := 48) (by assumption) () [(900,.k 900),(901,.k 901)] rfl ⟨by (try dsimp only);(repeat (refine LeT.cons rfl (by first | exact LeS.d (by first | exact LeD.u rfl | exact LeD.ow rfl rfl | exact LeD.ow rfl (by simp [h1,h2,h3];done) | exact LeD.u (by simp [h1,h2,h3];done) | fail) | fail) ?_));(first | exact LeT.nil | fail),by (try dsimp only);(repeat (first | exact LeO.nil | refine LeO.ar rfl rfl (by first | rfl | (simp [h1,h2,h3];done) | fail) ?_ | fail));done⟩ (by trivial)) | refine Gs.id ?_ | with_reducible refine Brn.T rfl ?_ | with_reducible refine Brn.F rfl ?_ | refine Brn.T (by (try simp only [smT]);first | rfl | omega | (simp [*];done) | fail) ?_ | (refine Bnd.mk (fun hm => ?_);(try simp only [smT] at hm)) | (refine CL.mk (Or.inl ?_);(conv => whnf);first | refine Cl.is (hsp) rfl (by first | (intro e;cases e;done) | fail) ?_ | refine Cl.is (hsh) rfl (by first | exact fun _ => rfl | fail) ?_ | refine Cl.is (hnm) rfl (by first | exact fun _ => rfl | fail) ?_) | (refine CL.mk (Or.inl ?_);(conv => whnf);refine ClO.mk (Or.inl ?_);(repeat ((conv => whnf);refine Len.mk (by first | rfl | (simp;done) | fail) ?_));(conv => whnf);first | refine Cl.is (hmv) rfl (by first | exact fun _ => rfl | fail) ?_ | fail) | fail)
         all_goals (exfalso;clear hR;first | (simp_all;done) | (simp at *;omega))
        | some s =>
         cases bn
         ·rw [if_neg (by simp)] at h1
          repeat' ((conv => whnf);first | refine hrow rfl ?_ | refine hr0 rfl ?_ | rw [t1] | rw [t2] | refine Slc.mk ⟨5,c.size,rfl,rfl,(by omega),(by omega),?_⟩ | (exact Gs.cut (i := 48) (by assumption) () [(900,.k 900),(901,.k 901)] rfl ⟨by (try dsimp only);(repeat (refine LeT.cons rfl (by first | exact LeS.d (by first | exact LeD.u rfl | exact LeD.ow rfl rfl | exact LeD.ow rfl (by simp [h1,h2,h3];done) | exact LeD.u (by simp [h1,h2,h3];done) | fail) | fail) ?_));(first | exact LeT.nil | fail),by (try dsimp only);(repeat (first | exact LeO.nil | refine LeO.ar rfl rfl (by first | rfl | (simp [h1,h2,h3];done) | fail) ?_ | fail));done⟩ (by trivial)) | refine Gs.id ?_ | with_reducible refine Brn.T rfl ?_ | with_reducible refine Brn.F rfl ?_ | refine Brn.T (by (try simp only [smT]);first | rfl | omega | (simp [*];done) | fail) ?_ | (refine Bnd.mk (fun hm => ?_);(try simp only [smT] at hm)) | (refine CL.mk (Or.inl ?_);(conv => whnf);first | refine Cl.is (hsp) rfl (by first | (intro e;cases e;done) | fail) ?_ | refine Cl.is (hsh) rfl (by first | exact fun _ => rfl | fail) ?_ | refine Cl.is (hnm) rfl (by first | exact fun _ => rfl | fail) ?_) | (refine CL.mk (Or.inl ?_);(conv => whnf);refine ClO.mk (Or.inl ?_);(repeat ((conv => whnf);refine Len.mk (by first | rfl | (simp;done) | fail) ?_));(conv => whnf);first | refine Cl.is (hmv) rfl (by first | exact fun _ => rfl | fail) ?_ | fail) | fail)
          all_goals (exfalso;clear hR;first | (simp_all;done) | (simp at *;omega))
         ·rw [if_pos (by simp)] at h1
          repeat' ((conv => whnf);first | refine hrow rfl ?_ | refine hr0 rfl ?_ | rw [t1] | rw [t2] | refine Slc.mk ⟨5,c.size,rfl,rfl,(by omega),(by omega),?_⟩ | (exact Gs.cut (i := 48) (by assumption) () [(900,.k 900),(901,.k 901)] rfl ⟨by (try dsimp only);(repeat (refine LeT.cons rfl (by first | exact LeS.d (by first | exact LeD.u rfl | exact LeD.ow rfl rfl | exact LeD.ow rfl (by simp [h1,h2,h3];done) | exact LeD.u (by simp [h1,h2,h3];done) | fail) | fail) ?_));(first | exact LeT.nil | fail),by (try dsimp only);(repeat (first | exact LeO.nil | refine LeO.ar rfl rfl (by first | rfl | (simp [h1,h2,h3];done) | fail) ?_ | fail));done⟩ (by trivial)) | refine Gs.id ?_ | with_reducible refine Brn.T rfl ?_ | with_reducible refine Brn.F rfl ?_ | refine Brn.T (by (try simp only [smT]);first | rfl | omega | (simp [*];done) | fail) ?_ | (refine Bnd.mk (fun hm => ?_);(try simp only [smT] at hm)) | (refine CL.mk (Or.inl ?_);(conv => whnf);first | refine Cl.is (hsp) rfl (by first | (intro e;cases e;done) | fail) ?_ | refine Cl.is (hsh) rfl (by first | exact fun _ => rfl | fail) ?_ | refine Cl.is (hnm) rfl (by first | exact fun _ => rfl | fail) ?_) | (refine CL.mk (Or.inl ?_);(conv => whnf);refine ClO.mk (Or.inl ?_);(repeat ((conv => whnf);refine Len.mk (by first | rfl | (simp;done) | fail) ?_));(conv => whnf);first | refine Cl.is (hmv) rfl (by first | exact fun _ => rfl | fail) ?_ | fail) | fail)
          all_goals (exfalso;clear hR;first | (simp_all;done) | (simp at *;omega))
  ·intro _ _
   dsimp only
   repeat' ((conv => whnf);first | refine Gs.id ?_ | refine Brn.F (by (try simp only [smT]);first | rfl | omega | fail) ?_ | (refine Bnd.mk (fun hm => ?_);(try simp only [smT] at hm)) | refine Rng.mk (by (try simp only [smT]);omega) ?_ | refine Len.mk (by first | rfl | (simp;done) | fail) ?_ | refine Apd.mk (by first | rfl | simp) (by first | rfl | fail) (by (try simp only [smT]);first | omega | fail) (by unfold maxLen;first | (simp;omega) | fail) ?_ | fail)
   all_goals (conv => whnf)
   all_goals exact ⟨i + 1,by omega,by omega,[(900,.k 900),(901,.k 189)],by (rw [hst];exact ⟨by (try dsimp only);(repeat (refine LeT.cons rfl (by first | exact LeS.d (by first | exact LeD.u rfl | exact LeD.ow rfl rfl | exact LeD.ow rfl (by simp) | fail) | fail) ?_));exact LeT.nil,by (try dsimp only);repeat (first | exact LeO.nil | refine LeO.ar rfl rfl (by first | rfl | simp) ?_ | fail)⟩)⟩
 ·obtain rfl : i = cs.length := by omega
  repeat' ((conv => whnf);first | refine Gs.id ?_ | refine Brn.F (by (try simp only [smT]);first | rfl | omega | fail) ?_ | (refine Bnd.mk (fun hm => ?_);(try simp only [smT] at hm)) | refine Rng.mk (by (try simp only [smT]);omega) ?_ | refine Len.mk (by first | rfl | (simp;done) | fail) ?_ | refine Apd.mk (by first | rfl | simp) (by first | rfl | fail) (by (try simp only [smT]);first | omega | fail) (by unfold maxLen;first | (simp;omega) | fail) ?_ | fail)
  all_goals (conv => whnf)
  all_goals first | exact Ret.is rfl | exact Ret.nl (by repeat (first | exact NlSs.nil | exact NlL.nil | exact NlCs.nil | exact NlS.refl | exact NlD.refl | exact NlD.u (NlV.nl (by first | rfl | simp)) | exact NlD.u NlV.refl | refine NlSs.cons ?_ ?_ | refine NlL.cons ?_ ?_ | refine NlCs.cons ?_ ?_ | refine NlS.t ?_ | refine NlS.a ?_ | refine NlS.d ?_ | refine NlC.a ?_ | refine NlC.d ?_))
end Go.Proofs.YtabmcfnefjipbaaGreatDoor
namespace Go.Proofs.YtabmcfnefjipbaaGreatDoor
open Go.RowKit
set_option maxHeartbeats 8000000 in
theorem law_session_T (l : List Ev) (cs : List ByteArray) (he : ∀ e ∈ l,e.locs.length ≤ 9000000000) (hsz : ∀ e ∈ l,e.md.size ≤ 1000000000000) (hn : ∀ e ∈ l,e.line ≤ 9223372036854775807) (nlen : cs.length ≤ 9000000000) (nin : ∀ s ∈ cs,s.size ≤ 9000000000) (zt : Fz) (hz : TabE zt) :
  CallsA Tryz.prog 6 [.d (.u (evs l)),.d (.u (strs' cs))] [(907,tbOb zt)] (Iso (db true) [(907,tbOb zt)]) := by
 have h2 := trace_R l hsz
 have hst := stopped_T zt hz.tab
 have h6 := at_R 2 (-2)
 have h7 := fun a => at_R 3 a
 have hcl : ((strs cs).length : Int) = (cs.length : Int) := by simp
 by_cases hok : (ssF l cs).1 = 0
 ·have h1 := session_X he hn cs hok zt hz
  obtain ⟨v1,v2,v3⟩ := ssF_zero hok
  obtain ⟨hv,hL⟩ := valid_Vd v1
  have h3 := answers_R hv hL he hn cs v2 v3
  have h4 := strings_R (sesX l cs cs.length).1 (sesX l cs cs.length).1
  rw [decide_eq_true rfl] at h4
  have hol := sesX_len (l := l) (cs := cs) cs.length
  rw [valid_zero v1] at h2
  clear hok v1 he hsz hn hv hL nin
  generalize (sesX l cs cs.length).1 = outs at *
  refine callsA_of_vcO (T := tt) Tryz.func6 rfl rfl rfl rfl rfl ?_
  repeat' ((conv => whnf);first | refine Gs.id ?_ | with_reducible refine Brn.T rfl ?_ | refine Brn.F (by (try simp only [smT]);first | rfl | omega | fail) ?_ | (refine Bnd.mk (fun hm => ?_);(try simp only [smT] at hm)) | (refine CL.mk (Or.inl ?_);(conv => whnf);refine Cl.is (h2) rfl (by first | exact fun _ => rfl | fail) ?_) | (refine CL.mk (Or.inr (Raw.callI [907] [931,907] rfl rfl rfl rfl rfl rfl rfl (h1) ?_));rintro _ _ ⟨rfl,rfl⟩;refine Bk.mk rfl rfl ?_))
  all_goals (conv => whnf)
  all_goals try (exfalso;simp at *;omega)
  clear h1 h2
  refine ⟨⟨Nat,fun i => i ≤ cs.length,fun i => cs.length - i,fun i => ⟨[(0,.d (.u (evs l))),(1,.d (.u (strs' cs))),(5,.d (.ow 931 outs.length)),(6,.d (.p 6 0)),(7,.d (.p 7 0)),(8,di i)],[(6,.bx 25 [.u (.int .i64 0),.u (.int .i64 0)]),(7,.bx 25 [.u (.int .i64 0),.u (.int .i64 0)]),(931,.ar 9 1 (strs outs)),(907,tbOb zt)]⟩,0,Nat.zero_le _,⟨[(6,.k 6),(7,.k 7),(931,.k 931),(907,.k 907)],⟨by (try dsimp only);(repeat (refine LeT.cons rfl (by first | exact LeS.d (by first | exact LeD.u rfl | exact LeD.p rfl | exact LeD.ow rfl rfl | fail) | fail) ?_));exact LeT.nil,by (try dsimp only);repeat (first | exact LeO.nil | refine LeO.bx rfl rfl (by repeat (first | exact LeL.nil | refine LeL.cons (by first | exact LeD.u rfl | fail) ?_)) ?_ | refine LeO.ar rfl rfl (by first | rfl | fail) ?_ | refine LeO.ab rfl rfl (by repeat (first | exact LeL.nil | fail)) (by first | rfl | fail) ?_ | fail)⟩⟩,fun i hi => ?_⟩⟩
  dsimp only at hi ⊢
  by_cases h9 : i < cs.length
  ·have hrow : ∀ {K : List V → Prop},K [V.str cs[i]] → Ix (strs cs) (i : Int) K := fun k => Ix.map rfl h9 k
   have hcz := v3 cs[i] (List.getElem_mem h9)
   generalize cs[i] = c at *
   repeat' ((conv => whnf);first | refine hrow ?_ | refine Gs.id ?_ | with_reducible refine Brn.T rfl ?_ | refine Brn.T (by (try simp only [smT]);first | rfl | omega | fail) ?_ | refine Brn.F (by (try simp only [smT]);first | rfl | omega | fail) ?_ | (refine Bnd.mk (fun hm => ?_);(try simp only [smT] at hm)) | refine Rng.mk (by (try simp only [smT]);omega) ?_ | fail)
   all_goals (conv => whnf)
   all_goals first | (exfalso;simp at *;omega) | exact ⟨i + 1,by omega,by omega,[(6,.k 6),(7,.k 7),(931,.k 931),(907,.k 907)],⟨by (try dsimp only);(repeat (refine LeT.cons rfl (by first | exact LeS.d (by first | exact LeD.u rfl | exact LeD.p rfl | exact LeD.ow rfl rfl | fail) | fail) ?_));exact LeT.nil,by (try dsimp only);repeat (first | exact LeO.nil | refine LeO.bx rfl rfl (by repeat (first | exact LeL.nil | refine LeL.cons (by first | exact LeD.u rfl | fail) ?_)) ?_ | refine LeO.ar rfl rfl (by first | rfl | fail) ?_ | refine LeO.ab rfl rfl (by repeat (first | exact LeL.nil | fail)) (by first | rfl | fail) ?_ | fail)⟩⟩
  ·obtain rfl : i = cs.length := by omega
   repeat' ((conv => whnf);first | refine Gs.id ?_ | with_reducible refine Brn.T rfl ?_ | with_reducible refine Brn.F rfl ?_ | refine Brn.F (by (try simp only [smT]);first | rfl | omega | fail) ?_ | (refine Bnd.mk (fun hm => ?_);(try simp only [smT] at hm)) | (refine CL.mk (Or.inl ?_);(conv => whnf);first | refine Cl.is (h3) rfl (by first | (intro e;cases e;done) | fail) ?_ | fail) | (refine CL.mk (Or.inl ?_);(conv => whnf);refine ClO.mk (Or.inl ?_);(repeat ((conv => whnf);refine Len.mk (by first | rfl | (simp;done) | fail) ?_));(conv => whnf);refine Cl.is (h4) rfl (by first | exact fun _ => rfl | fail) ?_) | (refine CL.mk (Or.inr (Raw.callI [907] [907] rfl rfl rfl rfl rfl rfl rfl (hst) ?_));rintro _ _ ⟨rfl,rfl⟩;refine Bk.mk rfl rfl ?_))
   all_goals (conv => whnf)
   all_goals first | (exfalso;simp at *;omega) | refine RetO.mk ⟨[(907,.k 907)],_,_,(by first | exact LeS.d (by first | exact LeD.u rfl | fail) | fail),(by repeat (first | exact LeO.nil | refine LeO.ab rfl rfl (by repeat (first | exact LeL.nil | fail)) (by first | rfl | fail) ?_ | fail)),rfl,rfl⟩
 ·have h1 := session_F l cs hok zt
  by_cases v1 : (validM l).1 = 0
  ·rw [valid_zero v1] at h2
   by_cases v2 : 200 < cs.length
   ·have e : ssF l cs = (2,-2) := by rw [ssF,if_neg (by simpa using v1),if_pos v2]
    rw [e] at h1
    clear hok v1 he hsz hn nin e
    dsimp only at h1
    refine callsA_of_vcO (T := tt) Tryz.func6 rfl rfl rfl rfl rfl ?_
    repeat' ((conv => whnf);first | refine Gs.id ?_ | with_reducible refine Brn.T rfl ?_ | refine Brn.T (by (try simp only [smT]);first | rfl | omega | fail) ?_ | (refine Bnd.mk (fun hm => ?_);(try simp only [smT] at hm)) | (refine CL.mk (Or.inl ?_);(conv => whnf);first | refine Cl.is (h2) rfl (by first | exact fun _ => rfl | fail) ?_ | refine Cl.is (h6) rfl (by first | exact fun _ => rfl | fail) ?_) | (refine CL.mk (Or.inr (Raw.callI [907] [907] rfl rfl rfl rfl rfl rfl rfl (h1) ?_));rintro _ _ ⟨rfl,rfl⟩;refine Bk.mk rfl rfl ?_))
    all_goals (conv => whnf)
    all_goals try (exfalso;simp at *;omega)
    clear h1 h2
    refine ⟨⟨Nat,fun i => i = 0,fun i => 0,fun i => ⟨[(0,.d (.u (evs l))),(1,.d (.u (strs' cs))),(5,.d (.u .nl)),(6,.d (.p 6 0)),(7,.d (.p 7 0)),(8,di i)],[(6,.bx 25 [.u (.int .i64 2),.u (.int .i64 (-2))]),(7,.bx 25 [.u (.int .i64 2),.u (.int .i64 (-2))]),(907,tbOb zt)]⟩,0,rfl,⟨[(6,.k 6),(7,.k 7),(907,.k 907)],⟨by (try dsimp only);(repeat (refine LeT.cons rfl (by first | exact LeS.d (by first | exact LeD.u rfl | exact LeD.p rfl | fail) | fail) ?_));exact LeT.nil,by (try dsimp only);repeat (first | exact LeO.nil | refine LeO.bx rfl rfl (by repeat (first | exact LeL.nil | refine LeL.cons (by first | exact LeD.u rfl | fail) ?_)) ?_ | refine LeO.ab rfl rfl (by repeat (first | exact LeL.nil | fail)) (by first | rfl | fail) ?_ | fail)⟩⟩,fun i hi => ?_⟩⟩
    dsimp only at hi ⊢
    subst hi
    repeat' ((conv => whnf);first | refine Gs.id ?_ | with_reducible refine Brn.T rfl ?_ | with_reducible refine Brn.F rfl ?_ | refine Brn.T (by (try simp only [smT]);first | rfl | omega | fail) ?_ | (refine Bnd.mk (fun hm => ?_);(try simp only [smT] at hm)) | refine Eqv.mk (by kernel_rfl) ?_ | (refine CL.mk (Or.inr (Raw.callI [907] [907] rfl rfl rfl rfl rfl rfl rfl (hst) ?_));rintro _ _ ⟨rfl,rfl⟩;refine Bk.mk rfl rfl ?_))
    all_goals (conv => whnf)
    all_goals first | (exfalso;simp at *;omega) | refine RetO.mk ⟨[(907,.k 907)],_,_,(by first | exact LeS.d (by first | exact LeD.u rfl | fail) | fail),(by repeat (first | exact LeO.nil | refine LeO.ab rfl rfl (by repeat (first | exact LeL.nil | fail)) (by first | rfl | fail) ?_ | fail)),rfl,rfl⟩
   ·have e : ssF l cs = lenF cs 0 := by rw [ssF,if_neg (by simpa using v1),if_neg v2]
    rw [e] at h1 hok
    clear v1 he hsz hn nin e
    obtain ⟨F,hF⟩ : ∃ F,lenF cs 0 = F := ⟨_,rfl⟩
    rw [hF] at h1 hok
    obtain ⟨f1,f2⟩ := F
    dsimp only at h1 hok
    refine callsA_of_vcO (T := tt) Tryz.func6 rfl rfl rfl rfl rfl ?_
    repeat' ((conv => whnf);first | refine Gs.id ?_ | with_reducible refine Brn.T rfl ?_ | refine Brn.F (by (try simp only [smT]);first | rfl | omega | fail) ?_ | (refine Bnd.mk (fun hm => ?_);(try simp only [smT] at hm)) | (refine CL.mk (Or.inl ?_);(conv => whnf);first | refine Cl.is (h2) rfl (by first | exact fun _ => rfl | fail) ?_ | fail) | (refine CL.mk (Or.inr (Raw.callI [907] [907] rfl rfl rfl rfl rfl rfl rfl (h1) ?_));rintro _ _ ⟨rfl,rfl⟩;refine Bk.mk rfl rfl ?_))
    all_goals (conv => whnf)
    all_goals try (exfalso;simp at *;omega)
    clear h1 h2
    refine ⟨⟨Nat × Int × Int,fun x => (x.2 = (0,0) ∧ x.1 ≤ cs.length ∧ lenF cs 0 = lenF (cs.drop x.1) x.1) ∨ x.2 = (f1,f2) ∧ x.1 ≤ cs.length + 1,fun x => cs.length + 1 - x.1,fun x => ⟨[(0,.d (.u (evs l))),(1,.d (.u (strs' cs))),(5,.d (.u .nl)),(6,.d (.p 6 0)),(7,.d (.p 7 0)),(8,di x.1)],[(6,.bx 25 [.u (.int .i64 f1),.u (.int .i64 f2)]),(7,.bx 25 [.u (.int .i64 x.2.1),.u (.int .i64 x.2.2)]),(907,tbOb zt)]⟩,(0,0,0),.inl ⟨rfl,Nat.zero_le _,rfl⟩,⟨[(6,.k 6),(7,.k 7),(907,.k 907)],⟨by (try dsimp only);(repeat (refine LeT.cons rfl (by first | exact LeS.d (by first | exact LeD.u rfl | exact LeD.p rfl | fail) | fail) ?_));exact LeT.nil,by (try dsimp only);repeat (first | exact LeO.nil | refine LeO.bx rfl rfl (by repeat (first | exact LeL.nil | refine LeL.cons (by first | exact LeD.u rfl | fail) ?_)) ?_ | refine LeO.ab rfl rfl (by repeat (first | exact LeL.nil | fail)) (by first | rfl | fail) ?_ | fail)⟩⟩,fun x hx => ?_⟩⟩
    obtain ⟨i,w1,w2⟩ := x
    dsimp only at hx ⊢
    rcases hx with ⟨hw,hi,hq⟩ | ⟨hw,hi⟩
    ·injection hw with hw1 hw2
     subst hw1 hw2
     by_cases h9 : i < cs.length
     ·have hrow : ∀ {K : List V → Prop},K [V.str cs[i]] → Ix (strs cs) (i : Int) K := fun k => Ix.map rfl h9 k
      rw [List.drop_eq_getElem_cons h9,lenF] at hq
      generalize cs[i] = c at *
      have h7 := h7 (1000000 + (i : Int))
      by_cases h4 : 4000 < c.size
      ·rw [if_pos h4,hF] at hq
       have h5 : (4000 : Int) < (c.size : Int) := by omega
       injection hq with hq1 hq2
       clear hok
       repeat' ((conv => whnf);first | refine hrow ?_ | refine Gs.id ?_ | with_reducible refine Brn.T rfl ?_ | refine Brn.T (by (try simp only [smT]);first | rfl | assumption | omega | fail) ?_ | (refine Bnd.mk (fun hm => ?_);(try simp only [smT] at hm)) | refine Rng.mk (by (try simp only [smT]);omega) ?_ | (refine CL.mk (Or.inl ?_);(conv => whnf);refine Cl.is (h7) rfl (by first | exact fun _ => rfl | fail) ?_) | fail)
       all_goals (conv => whnf)
       all_goals first | (exfalso;simp at *;omega) | exact ⟨(i + 1,3,1000000 + (i : Int)),.inr ⟨by rw [hq1,hq2],by dsimp only;omega⟩,by dsimp only;omega,[(6,.k 6),(7,.k 7),(907,.k 907)],⟨by (try dsimp only);(repeat (refine LeT.cons rfl (by first | exact LeS.d (by first | exact LeD.u rfl | exact LeD.p rfl | fail) | fail) ?_));exact LeT.nil,by (try dsimp only);repeat (first | exact LeO.nil | refine LeO.bx rfl rfl (by repeat (first | exact LeL.nil | refine LeL.cons (by first | exact LeD.u rfl | fail) ?_)) ?_ | refine LeO.ab rfl rfl (by repeat (first | exact LeL.nil | fail)) (by first | rfl | fail) ?_ | fail)⟩⟩
      ·rw [if_neg h4] at hq
       have h5 : ¬ (4000 : Int) < (c.size : Int) := by omega
       clear h7
       repeat' ((conv => whnf);first | refine hrow ?_ | refine Gs.id ?_ | with_reducible refine Brn.T rfl ?_ | refine Brn.T (by (try simp only [smT]);first | rfl | omega | fail) ?_ | refine Brn.F (by (try simp only [smT]);first | rfl | omega | fail) ?_ | (refine Bnd.mk (fun hm => ?_);(try simp only [smT] at hm)) | refine Rng.mk (by (try simp only [smT]);omega) ?_ | fail)
       all_goals (conv => whnf)
       all_goals first | (exfalso;simp at *;omega) | exact ⟨(i + 1,0,0),.inl ⟨rfl,by dsimp only;omega,hq⟩,by dsimp only;omega,[(6,.k 6),(7,.k 7),(907,.k 907)],⟨by (try dsimp only);(repeat (refine LeT.cons rfl (by first | exact LeS.d (by first | exact LeD.u rfl | exact LeD.p rfl | fail) | fail) ?_));exact LeT.nil,by (try dsimp only);repeat (first | exact LeO.nil | refine LeO.bx rfl rfl (by repeat (first | exact LeL.nil | refine LeL.cons (by first | exact LeD.u rfl | fail) ?_)) ?_ | refine LeO.ab rfl rfl (by repeat (first | exact LeL.nil | fail)) (by first | rfl | fail) ?_ | fail)⟩⟩
     ·exfalso
      obtain rfl : i = cs.length := by omega
      rw [hq,List.drop_length,lenF] at hF
      injection hF with hF1 _
      exact hok hF1.symm
    ·injection hw with hw1 hw2
     subst hw1 hw2
     repeat' ((conv => whnf);first | refine Gs.id ?_ | with_reducible refine Brn.T rfl ?_ | with_reducible refine Brn.F rfl ?_ | refine Brn.T (by (try simp only [smT]);first | rfl | assumption | (simp [*];done) | fail) ?_ | refine Brn.F (by (try simp only [smT]);first | rfl | assumption | fail) ?_ | (refine Brn.mk (fun hb => ?_) (fun hb => ?_) <;> (try simp only [smT] at hb) <;> (try (exact absurd trivial hb)) <;> (try (exfalso;omega))) | (refine Bnd.mk (fun hm => ?_);(try simp only [smT] at hm)) | refine Eqv.mk (by kernel_rfl) ?_ | (refine CL.mk (Or.inr (Raw.callI [907] [907] rfl rfl rfl rfl rfl rfl rfl (hst) ?_));rintro _ _ ⟨rfl,rfl⟩;refine Bk.mk rfl rfl ?_))
     all_goals (conv => whnf)
     all_goals first | (exfalso;simp at *;omega) | refine RetO.mk ⟨[(907,.k 907)],_,_,(by first | exact LeS.d (by first | exact LeD.u rfl | fail) | fail),(by repeat (first | exact LeO.nil | refine LeO.ab rfl rfl (by repeat (first | exact LeL.nil | fail)) (by first | rfl | fail) ?_ | fail)),rfl,rfl⟩
  ·have e : ssF l cs = validM l := by rw [ssF,if_pos v1]
   rw [e] at h1
   generalize validM l = a1 at *
   obtain ⟨a1,c1⟩ := a1
   dsimp only at v1 h1 h2
   clear hok he hsz hn nin e h6
   refine callsA_of_vcO (T := tt) Tryz.func6 rfl rfl rfl rfl rfl ?_
   repeat' ((conv => whnf);first | refine Gs.id ?_ | with_reducible refine Brn.F rfl ?_ | refine Brn.F (by (try simp only [smT]);first | rfl | assumption | fail) ?_ | (refine CL.mk (Or.inl ?_);(conv => whnf);refine Cl.is (h2) rfl (by first | exact fun _ => rfl | fail) ?_) | (refine CL.mk (Or.inr (Raw.callI [907] [907] rfl rfl rfl rfl rfl rfl rfl (h1) ?_));rintro _ _ ⟨rfl,rfl⟩;refine Bk.mk rfl rfl ?_))
   all_goals (conv => whnf)
   all_goals try (exfalso;simp at *;omega)
   clear h1 h2
   refine ⟨⟨Nat,fun i => i = 0,fun i => 0,fun i => ⟨[(0,.d (.u (evs l))),(1,.d (.u (strs' cs))),(5,.d (.u .nl)),(6,.d (.p 6 0)),(7,.d (.p 7 0)),(8,di i)],[(6,.bx 25 [.u (.int .i64 a1),.u (.int .i64 c1)]),(7,.bx 25 [.u (.int .i64 a1),.u (.int .i64 c1)]),(907,tbOb zt)]⟩,0,rfl,⟨[(6,.k 6),(7,.k 7),(907,.k 907)],⟨by (try dsimp only);(repeat (refine LeT.cons rfl (by first | exact LeS.d (by first | exact LeD.u rfl | exact LeD.p rfl | fail) | fail) ?_));exact LeT.nil,by (try dsimp only);repeat (first | exact LeO.nil | refine LeO.bx rfl rfl (by repeat (first | exact LeL.nil | refine LeL.cons (by first | exact LeD.u rfl | fail) ?_)) ?_ | refine LeO.ab rfl rfl (by repeat (first | exact LeL.nil | fail)) (by first | rfl | fail) ?_ | fail)⟩⟩,fun i hi => ?_⟩⟩
   dsimp only at hi ⊢
   subst hi
   repeat' ((conv => whnf);first | refine Gs.id ?_ | with_reducible refine Brn.T rfl ?_ | with_reducible refine Brn.F rfl ?_ | refine Brn.T (by (try simp only [smT]);first | rfl | assumption | (simp [*];done) | fail) ?_ | refine Brn.F (by (try simp only [smT]);first | rfl | assumption | fail) ?_ | (refine Brn.mk (fun hb => ?_) (fun hb => ?_) <;> (try simp only [smT] at hb) <;> (try (exact absurd trivial hb)) <;> (try (exfalso;omega))) | (refine Bnd.mk (fun hm => ?_);(try simp only [smT] at hm)) | refine Eqv.mk (by kernel_rfl) ?_ | (refine CL.mk (Or.inr (Raw.callI [907] [907] rfl rfl rfl rfl rfl rfl rfl (hst) ?_));rintro _ _ ⟨rfl,rfl⟩;refine Bk.mk rfl rfl ?_))
   all_goals (conv => whnf)
   all_goals first | (exfalso;simp at *;omega) | refine RetO.mk ⟨[(907,.k 907)],_,_,(by first | exact LeS.d (by first | exact LeD.u rfl | fail) | fail),(by repeat (first | exact LeO.nil | refine LeO.ab rfl rfl (by repeat (first | exact LeL.nil | fail)) (by first | rfl | fail) ?_ | fail)),rfl,rfl⟩
end Go.Proofs.YtabmcfnefjipbaaGreatDoor
namespace Go.Proofs.YtabmcfnefjipbaaGreatDoor
open Go.ChangeShapes Go.WideShapes Go.ChangeAt Go.RowKit
section
variable {H : Type} {enc : TypeId × Value → H} {P : Program}
theorem trodAll_stays (hl : laidOutB P = true) {W W' : World} {sp' : Nat → Bool} : ∀ {ts : List TypeId} {vs : List Value} {ds : List (DataW H)} {ps : List MemPlace},(∀ t ∈ ts,P.readableRec t = true ∧ t < P.types.size) →
  DataW.TrodAll enc P W 0 (fun _ => true) true ts vs ds ps → (∀ p ∈ ps,W.sameAt W' p) → (∀ p ∈ ps,sp' p.block = true) → DataW.TrodAll enc P W' 0 sp' true ts vs ds ps
 | [],[],[],_,_,h,_,_ => h
 | _ :: _,_ :: _,_ :: _,_,hT,⟨p,q,h1,h2,e⟩,hm,hs =>
  ⟨p,q,WideElems.Trod_stays hl (hT _ (List.mem_cons.2 (Or.inl rfl))).1 (hT _ (List.mem_cons.2 (Or.inl rfl))).2 h1 (fun x hx => hm x (by rw [e];exact List.mem_append_left _ hx)) (fun x hx => hs x (by rw [e];exact List.mem_append_left _ hx)),
   trodAll_stays hl (fun t ht => hT t (List.mem_cons.2 (Or.inr ht))) h2 (fun x hx => hm x (by rw [e];exact List.mem_append_right _ hx)) (fun x hx => hs x (by rw [e];exact List.mem_append_right _ hx)),e⟩
 | [],[],_ :: _,_,_,h,_,_ => h.elim
 | [],_ :: _,_,_,_,h,_,_ => h.elim
 | _ :: _,[],_,_,_,h,_,_ => h.elim
 | _ :: _,_ :: _,[],_,_,h,_,_ => h.elim
def paramsRead (P : Program) (fn : Func) : Bool := fn.params.toList.all fun t => P.readableRec t && decide (t < P.types.size)
theorem post_of_below {f : Func} {s : ChangeSpec} {apart fresh handsOn again : Bool} {W W' : World} {args : Array Value} {ds : List (DataW H)} {before : List MemPlace} {tb : TypeId}
  (hl : laidOutB P = true) (hT : paramsRead P f = true) (hres : f.resultTypes = #[tb]) (htb : P.underlying tb = some .bool) (hvars : s.vars = [])
  (hsp : s.fn H ds = { results := [.lit (.bool true)],args := ds })
  (hW : DataW.Whole enc P f.params.toList s.vars apart W args.toList ds [] before) (hb : Below W.heap.size W W') :
  s.post enc P f apart fresh handsOn again W args (.bool true) W' := by
 have hT' : ∀ t ∈ f.params.toList,P.readableRec t = true ∧ t < P.types.size := fun t ht => by
  have := List.all_eq_true.1 hT t ht
  simpa using this
 have hlt := hW.lt
 have hW' := hW
 obtain ⟨p,q,hA,hV,he,hz,hn⟩ := hW
 have hq : q = [] := by
  rw [hvars] at hV
  exact (trodVars_none hV).2
 subst hq
 rw [List.append_nil] at he
 subst he
 have hR : ∀ (b : Nat) (sp : Nat → Bool) (hd : Bool),DataW.TrodAll enc P W' b sp hd f.resultTypes.toList ((Value.bool true).resultList f.resultTypes.size) (s.fn H (ds ++ [])).results [] := by
  intro b sp hd
  rw [List.append_nil,hsp,hres]
  exact trodAll_mk1 (shut_bool htb _)
 have hG : ∀ sp : Nat → Bool,(∀ p' ∈ before,sp p'.block = true) → DataW.TrodAll enc P W' 0 sp true f.params.toList args.toList (s.fn H (ds ++ [])).args before := by
  intro sp h
  rw [List.append_nil,hsp]
  exact trodAll_stays hl hT' hA (fun x hx => hb.same (hlt x hx)) h
 have hU : ∀ sp : Nat → Bool,DataW.TrodVars enc P W' sp s.vars (s.fn H (ds ++ [])).vars [] := by
  intro sp
  rw [hvars,List.append_nil,hsp]
  rfl
 refine ⟨ds,[],before,[],before,[],hW',hR _ _ _,hG _ (fun x hx => by simpa using hlt x hx),hU _,hb.frame _,fun _ => ?_⟩
 refine ⟨ok_one hres rfl (okWide_bool_mk htb _),_,_,([] ++ before) ++ [],⟨[] ++ before,[],trodAll_append (hG _ (fun _ _ => rfl)) (hR _ _ _),hU _,rfl,?_,?_⟩,?_⟩
 ·intro b off hp
  have hp' := by simpa using hp
  rw [hb.frozen (hlt _ hp')]
  exact hz b off hp'
 ·intro ha
  simpa using hn ha
 ·intro x hx _
  simpa using hx
end
end Go.Proofs.YtabmcfnefjipbaaGreatDoor
namespace Go.Proofs.YtabmcfnefjipbaaGreatDoor
theorem bulk_one {H : Type} (d : DataW H) : 1 ≤ Rows.uptoBulk d := by
 cases d with
 | lit l => cases l <;> simp [Rows.uptoBulk]
 | nil => simp [Rows.uptoBulk]
 | ptr d => simp [Rows.uptoBulk]
 | slice elems spare => simp [Rows.uptoBulk]
 | agg parts => simp [Rows.uptoBulk]
 | iface t d => simp [Rows.uptoBulk]
 | map entries => simp [Rows.uptoBulk]
 | held h => simp [Rows.uptoBulk]
theorem bulk_len {H : Type} : ∀ (l : List (DataW H)),l.length ≤ Rows.uptoBulkAll l
 | [] => by simp [Rows.uptoBulkAll]
 | x :: r => by have := bulk_one x;have := bulk_len r;simp only [Rows.uptoBulkAll,List.length_cons];omega
theorem bulk_entry {H : Type} (x : Lit × DataW H) : Rows.uptoBulk x.2 + 1 ≤ Rows.uptoBulkEntry x := by
 obtain ⟨l,d⟩ := x
 cases l <;> simp [Rows.uptoBulkEntry] <;> omega
theorem bulk_entries {H : Type} : ∀ (l : List (Lit × DataW H)),l.length ≤ Rows.uptoBulkEntries l
 | [] => by simp [Rows.uptoBulkEntries]
 | x :: r => by have := bulk_entry x;have := bulk_entries r;simp only [Rows.uptoBulkEntries,List.length_cons];omega
theorem bulk_mem {H : Type} {d : DataW H} {l : List (DataW H)} (h : d ∈ l) : Rows.uptoBulk d ≤ Rows.uptoBulkAll l := by
 induction l with
 | nil => cases h
 | cons x r ih =>
  simp only [Rows.uptoBulkAll]
  rcases List.mem_cons.1 h with rfl | h
  ·omega
  ·have := ih h;omega
theorem le_of_mul {m a b C : Nat} (h : m ≤ a * C) (hab : a ≤ b) : m ≤ b * C := Nat.le_trans h (Nat.mul_le_mul_right C hab)
def closedT (P : Program) : Bool := (List.range P.types.size).all fun t => decide (P.bytesOf t ≤ 4096) && match P.underlying t with
 | some (.slice e) => decide (e < P.types.size)
 | some (.pointer e) => decide (e < P.types.size)
 | some (.array _ e) => decide (e < P.types.size)
 | some (.map k e) => decide (k < P.types.size) && decide (e < P.types.size)
 | some (.struct fs) => (fs.toList.map (·.type)).all fun e => decide (e < P.types.size)
 | _ => true
theorem closed_at {P : Program} (hP : closedT P = true) {t : TypeId} (h : t < P.types.size) : P.bytesOf t ≤ 4096 ∧ (∀ e,P.underlying t = some (.slice e) → e < P.types.size) ∧ (∀ e,P.underlying t = some (.pointer e) → e < P.types.size) ∧ (∀ n e,P.underlying t = some (.array n e) → e < P.types.size) ∧ (∀ k e,P.underlying t = some (.map k e) → k < P.types.size ∧ e < P.types.size) ∧ (∀ fs,P.underlying t = some (.struct fs) → ∀ e ∈ fs.toList.map (·.type),e < P.types.size) := by
 have h1 := List.all_eq_true.1 hP t (List.mem_range.2 h)
 rw [Bool.and_eq_true] at h1
 obtain ⟨h1,h2⟩ := h1
 refine ⟨of_decide_eq_true h1,fun e q => ?_,fun e q => ?_,fun n e q => ?_,fun k e q => ?_,fun fs q => ?_⟩
 ·rw [q] at h2;exact of_decide_eq_true h2
 ·rw [q] at h2;exact of_decide_eq_true h2
 ·rw [q] at h2;exact of_decide_eq_true h2
 ·rw [q] at h2
  rw [Bool.and_eq_true] at h2
  exact ⟨of_decide_eq_true h2.1,of_decide_eq_true h2.2⟩
 ·rw [q] at h2
  exact fun e he => of_decide_eq_true (List.all_eq_true.1 h2 e he)
theorem one_C {C : Nat} (hC : C = 8192) : 1 ≤ C := by rw [hC];decide
theorem two_C {P : Program} {C : Nat} (hC : C = 8192) (hP : closedT P = true) {e k : TypeId} (h : e < P.types.size) (h' : k < P.types.size) : P.bytesOf e + P.bytesOf k ≤ C := by
 have h1 := (closed_at hP h).1
 have h2 := (closed_at hP h').1
 rw [hC]
 exact Nat.add_le_add h1 h2
mutual
theorem wb {H : Type} {P : Program} {C : Nat} (hC : C = 8192) (hP : closedT P = true) : ∀ (d : DataW H) (t : TypeId),t < P.types.size → ∀ m ∈ d.weights P t,m ≤ Rows.uptoBulk d * C
 | .lit l,t,hlt,m,h => by
  cases l with
  | string b =>
   simp only [DataW.weights,List.mem_singleton] at h
   subst h
   simp only [Rows.uptoBulk]
   exact Nat.le_trans (Nat.le_succ _) (Nat.le_trans (Nat.le_of_eq (Nat.mul_one _).symm) (Nat.mul_le_mul_left _ (one_C hC)))
  | _ => simp [DataW.weights] at h
 | .nil,t,hlt,m,h => by simp [DataW.weights] at h
 | .ptr d,t,hlt,m,h => by
  simp only [DataW.weights] at h
  simp only [Rows.uptoBulk]
  split at h
  ·rename_i e q;exact le_of_mul (wb hC hP d _ ((closed_at hP hlt).2.2.1 e q) m h) (by omega)
  ·cases h
 | .slice es sp,t,hlt,m,h => by
  simp only [DataW.weights] at h
  simp only [Rows.uptoBulk]
  split at h
  ·rename_i e q
   have he := (closed_at hP hlt).2.1 e q
   rcases List.mem_cons.1 h with rfl | h
   ·have h1 := bulk_len es
    have h2 := bulk_len sp
    exact le_of_mul (Nat.mul_le_mul (show es.length + sp.length ≤ Rows.uptoBulkAll es + Rows.uptoBulkAll sp by omega) (Nat.le_trans (Nat.le_add_right _ _) (two_C hC hP he he))) (by omega)
   ·rcases List.mem_append.1 h with h | h
    ·exact le_of_mul (wbAll hC hP es e he m h) (by omega)
    ·exact le_of_mul (wbAll hC hP sp e he m h) (by omega)
  ·cases h
 | .agg ps,t,hlt,m,h => by
  simp only [DataW.weights] at h
  simp only [Rows.uptoBulk]
  split at h
  ·rename_i fs q;exact le_of_mul (wbEach hC hP ps _ ((closed_at hP hlt).2.2.2.2.2 fs q) m h) (by omega)
  ·rename_i n e q;exact le_of_mul (wbAll hC hP ps _ ((closed_at hP hlt).2.2.2.1 n e q) m h) (by omega)
  ·cases h
 | .iface n d,t,hlt,m,h => by simp [DataW.weights] at h
 | .map es,t,hlt,m,h => by
  simp only [DataW.weights] at h
  simp only [Rows.uptoBulk]
  split at h
  ·rename_i k e q
   obtain ⟨hk,he⟩ := (closed_at hP hlt).2.2.2.2.1 k e q
   rcases List.mem_cons.1 h with rfl | h
   ·exact le_of_mul (Nat.mul_le_mul (bulk_entries es) (two_C hC hP hk he)) (by omega)
   ·exact le_of_mul (wbEntries hC hP es e he m h) (by omega)
  ·cases h
 | .held x,t,hlt,m,h => by simp [DataW.weights] at h
theorem wbAll {H : Type} {P : Program} {C : Nat} (hC : C = 8192) (hP : closedT P = true) : ∀ (l : List (DataW H)) (t : TypeId),t < P.types.size → ∀ m ∈ DataW.weightsAll P t l,m ≤ Rows.uptoBulkAll l * C
 | [],t,hlt,m,h => by simp [DataW.weightsAll] at h
 | d :: r,t,hlt,m,h => by
  simp only [DataW.weightsAll,List.mem_append] at h
  simp only [Rows.uptoBulkAll]
  rcases h with h | h
  ·exact le_of_mul (wb hC hP d t (by first | exact hlt | exact hlt _ (by simp)) m h) (by omega)
  ·exact le_of_mul (wbAll hC hP r t hlt m h) (by omega)
theorem wbEach {H : Type} {P : Program} {C : Nat} (hC : C = 8192) (hP : closedT P = true) : ∀ (l : List (DataW H)) (ts : List TypeId),(∀ t ∈ ts,t < P.types.size) → ∀ m ∈ DataW.weightsEach P ts l,m ≤ Rows.uptoBulkAll l * C
 | [],ts,hlt,m,h => by cases ts <;> simp [DataW.weightsEach] at h
 | d :: r,[],hlt,m,h => by simp [DataW.weightsEach] at h
 | d :: r,t :: ts,hlt,m,h => by
  simp only [DataW.weightsEach,List.mem_append] at h
  simp only [Rows.uptoBulkAll]
  rcases h with h | h
  ·exact le_of_mul (wb hC hP d t (by first | exact hlt | exact hlt _ (by simp)) m h) (by omega)
  ·exact le_of_mul (wbEach hC hP r ts (fun t ht => hlt t (by simp [ht])) m h) (by omega)
theorem wbEntries {H : Type} {P : Program} {C : Nat} (hC : C = 8192) (hP : closedT P = true) : ∀ (l : List (Lit × DataW H)) (t : TypeId),t < P.types.size → ∀ m ∈ DataW.weightsEntries P t l,m ≤ Rows.uptoBulkEntries l * C
 | [],t,hlt,m,h => by simp [DataW.weightsEntries] at h
 | x :: r,t,hlt,m,h => by
  simp only [DataW.weightsEntries,List.mem_append] at h
  simp only [Rows.uptoBulkEntries]
  rcases h with h | h
  ·exact le_of_mul (wbEntry hC hP x t hlt m h) (by omega)
  ·exact le_of_mul (wbEntries hC hP r t hlt m h) (by omega)
theorem wbEntry {H : Type} {P : Program} {C : Nat} (hC : C = 8192) (hP : closedT P = true) : ∀ (x : Lit × DataW H) (t : TypeId),t < P.types.size → ∀ m ∈ DataW.weightsEntry P t x,m ≤ Rows.uptoBulkEntry x * C
 | (l,d),t,hlt,m,h => by
  have hb := wb hC hP d t hlt
  cases l with
  | string b =>
   simp only [DataW.weightsEntry,List.mem_cons] at h
   simp only [Rows.uptoBulkEntry]
   rcases h with rfl | h
   ·exact le_of_mul (a := b.length) (Nat.le_trans (Nat.le_of_eq (Nat.mul_one _).symm) (Nat.mul_le_mul_left _ (one_C hC))) (by omega)
   ·exact le_of_mul (hb m h) (by omega)
  | _ =>
   simp only [DataW.weightsEntry] at h
   simp only [Rows.uptoBulkEntry]
   exact le_of_mul (hb m h) (by omega)
end
theorem bulk_weights {H : Type} {P : Program} {C : Nat} (hC : C = 8192) (hP : closedT P = true) {ds : List (DataW H)} {d : DataW H} {t : TypeId} (h : Rows.uptoBulkAll ds ≤ 1048576) (hlt : t < P.types.size) (hd : d ∈ ds) {m : Nat} (hm : m ∈ d.weights P t) : m ≤ 9000000000 :=
 Nat.le_trans (wb hC hP d t hlt m hm) (Nat.le_trans (Nat.mul_le_mul (Nat.le_trans (bulk_mem hd) h) (Nat.le_of_eq hC)) (by decide))
end Go.Proofs.YtabmcfnefjipbaaGreatDoor
namespace Go.Proofs.YtabmcfnefjipbaaGreatDoor
open Go.ChangeShapes Go.WideShapes Go.Deep
section
variable {H : Type} {enc : TypeId × Value → H} {P : Program} {w : World} {base : Nat} {spare : Nat → Bool} {held : Bool}
theorem cell_lt {p : Addr} {v : Value} (h : w.cell? p = some v) : p.block < w.heap.size := by
 by_cases hl : p.block < w.heap.size
 ·exact hl
 ·have : w.heap[p.block]? = none := by simp;omega
  simp [World.cell?,this] at h
end
section
variable {H : Type} {P : Program} {ts : List TypeId} {ds : List (DataW H)}
theorem weights_field {t u : TypeId} {fs : Array Field} {parts : List (DataW H)} {j : Nat} {d : DataW H} (hu : P.underlying t = some (.struct fs)) (hf : (fs.toList.map (·.type))[j]? = some u) (hd : parts[j]? = some d) {n : Nat} (hn : n ∈ d.weights P u) : n ∈ (DataW.agg parts).weights P t := by
 simp only [DataW.weights,hu]
 exact DataW.weights_mem_each hf hd n hn
theorem weights_slice {t e : TypeId} {el sp : List (DataW H)} (hu : P.underlying t = some (.slice e)) : (el.length + sp.length) * P.bytesOf e ∈ (DataW.slice el sp).weights P t := by
 simp [DataW.weights,hu]
end
end Go.Proofs.YtabmcfnefjipbaaGreatDoor
namespace Go.Proofs.YtabmcfnefjipbaaGreatDoor
open Go.ChangeShapes Go.WideShapes Go.Deep Go.RowKit
inductive Sh where
 | int (k : IntKind)
 | bool
 | str
 | sl (by_ : Nat) (e : List Sh)
abbrev bigB : Nat := 9000000000
inductive HasSh : Sh → V → Prop
 | int {k : IntKind} {n : Int} (h : (Lit.int k n).wf = true) : HasSh (.int k) (.int k n)
 | bool {b : Bool} : HasSh .bool (.bool b)
 | str {s : ByteArray} (h : s.size ≤ bigB) : HasSh .str (.str s)
 | sl {by_ sz : Nat} {e : List Sh} {rs : List (List V)} (hl : rs.length * by_ ≤ bigB) (hm : rs.length ≤ maxLen) (hs : sz = e.length) (hr : ∀ r ∈ rs,r.length = sz) (h : ∀ r ∈ rs,∀ (j : Nat) s x,e[j]? = some s → r[j]? = some x → HasSh s x) : HasSh (.sl by_ e) (.sl sz rs)
structure HasL (e : List Sh) (r : List V) : Prop where
 len : r.length = e.length
 has : ∀ (j : Nat) s x,e[j]? = some s → r[j]? = some x → HasSh s x
theorem HasL.nil : HasL [] [] := ⟨rfl,fun _ _ _ h => by simp at h⟩
theorem HasL.app {e f : List Sh} {r q : List V} (h : HasL e r) (k : HasL f q) : HasL (e ++ f) (r ++ q) := ⟨by simp [h.len,k.len],fun j s x h1 h2 => by
 by_cases hj : j < e.length
 ·rw [List.getElem?_append_left hj] at h1
  rw [List.getElem?_append_left (by rw [h.len];exact hj)] at h2
  exact h.has j s x h1 h2
 ·rw [List.getElem?_append_right (by omega)] at h1
  rw [List.getElem?_append_right (by rw [h.len];omega),h.len] at h2
  exact k.has _ s x h1 h2⟩
theorem HasL.one {s : Sh} {x : V} (h : HasSh s x) : HasL [s] [x] := ⟨rfl,fun j a b h1 h2 => by
 cases j with
 | zero => simp at h1 h2;subst h1 h2;exact h
 | succ j => simp at h1⟩
theorem HasL.cons_inv {s : Sh} {e : List Sh} {r : List V} (h : HasL (s :: e) r) : ∃ x q,r = x :: q ∧ HasSh s x ∧ HasL e q := by
 cases r with
 | nil => have := h.len;simp at this
 | cons x q => exact ⟨x,q,rfl,h.has 0 s x rfl rfl,by have := h.len;simpa using this,fun j a b h1 h2 => h.has (j + 1) a b (by simpa using h1) (by simpa using h2)⟩
theorem HasL.nil_inv {r : List V} (h : HasL [] r) : r = [] := List.eq_nil_of_length_eq_zero h.len
def shFs (g : Nat → Option (List Sh)) : List (Nat × TypeId) → Nat → Option (List Sh)
 | [],_ => some []
 | (off,t) :: r,o => bif Nat.beq off o then match g t with
   | none => none
   | some l => match shFs g r (o + l.length) with
    | none => none
    | some m => some (l ++ m)
  else none
def shT (T : List (Nat × Ty)) : Nat → Nat → Option (List Sh)
 | 0,_ => none
 | f + 1,t => match lk t T with
  | none => none
  | some i => match i.k with
   | .in_ k => bif Nat.beq i.size 1 then some [.int k] else none
   | .bo => bif Nat.beq i.size 1 then some [.bool] else none
   | .sr => bif Nat.beq i.size 1 then some [.str] else none
   | .sl e => match lk e T with
    | none => none
    | some j => match shT T f e with
     | none => none
     | some l => bif Nat.beq l.length j.size && (Nat.blt 0 j.size && Nat.beq i.size 1) then some [.sl j.bytes l] else none
   | .st fs => match shFs (shT T f) fs 0 with
    | none => none
    | some l => bif Nat.beq l.length i.size then some l else none
   | _ => none
section
variable {H : Type} {enc : TypeId × Value → H} {P : Program} {T : List (Nat × Ty)} [hT : Tys P T] {w : World} {base : Nat} {spare : Nat → Bool} {held : Bool}
abbrev zW (w : World) : Fz := ⟨⟨fun b => b < w.heap.size,fun _ => [],fun _ => True⟩,w⟩
omit hT in
theorem weightsAll_mem {e : TypeId} : ∀ {ds : List (DataW H)} {d : DataW H},d ∈ ds → ∀ m ∈ d.weights P e,m ∈ DataW.weightsAll P e ds
 | x :: r,d,h,m,hm => by
  simp only [DataW.weightsAll,List.mem_append]
  rcases List.mem_cons.1 h with rfl | h
  ·exact .inl hm
  ·exact .inr (weightsAll_mem h m hm)
def Opn (enc : TypeId × Value → H) (P : Program) (w : World) (base : Nat) (spare : Nat → Bool) (held : Bool) (t : TypeId) (sh : List Sh) : Prop :=
 ∀ (n : Nat) (cs : List Value) (y : DataW H × List MemPlace),DataW.trod enc P w base spare held n t cs = some y → (∀ m ∈ y.1.weights P t,m ≤ bigB) → ∃ xs : List V,HasL sh xs ∧ DenVL (zW w) xs cs
theorem opn_slice {t e : TypeId} {l : List Sh} {i j : Ty} (ht : lk t T = some i) (hi : i.k = .sl e) (hj : lk e T = some j) (hl : l.length = j.size) (hp : 0 < j.size) (ih : Opn enc P w base spare held e l) : Opn enc P w base spare held t [.sl j.bytes l] := by
 intro n cs y h hw
 have ku := (hT.ok t i ht).kind
 rw [hi] at ku
 have ku : P.underlying t = some (.slice e) := ku
 obtain ⟨f,z,q1,q2,q3,_⟩ := (hT.ok e j hj).info
 have hC : P.cellsOf e = j.size := by simp [Program.cellsOf,q1,q2]
 have hBy : P.bytesOf e = j.bytes := by simp [Program.bytesOf,q1,q3]
 rcases open_slice ku h with ⟨rfl,rfl⟩ | ⟨a,len,cap,k,n',D,Pl,rfl,hb,hlc,hmx,hk,hx,hcell⟩
 ·exact ⟨[.sl j.size []],.one (.sl (by simp) (by simp) (by rw [hl]) (by simp) (by simp)),⟨rfl,rfl,fun m d u e1 e2 => by
   cases m with
   | zero => simp at e1 e2;subst e1 e2;exact .sl (b := 0) (o := 0) [] rfl (Nat.le_refl _) (Nat.zero_le _) (by simp) (fun h => absurd rfl h) rfl (by simp) rfl (by simp)
   | succ m => simp at e1⟩⟩
 ·have hlk : len ≤ k := by rw [hk];split <;> omega
  have hwt : (((List.range len).map D).length + ((List.range (k - len)).map fun j => D (len + j)).length) * P.bytesOf e ≤ bigB := hw _ (by rw [hx];exact weights_slice ku)
  have hwe : ∀ i,i < len → ∀ m ∈ (D i).weights P e,m ≤ bigB := fun i hi m hm => hw m (by
   rw [hx]
   simp only [DataW.weights,ku,List.mem_cons,List.mem_append]
   exact .inr (.inl (weightsAll_mem (List.mem_map.2 ⟨i,List.mem_range.2 hi,rfl⟩) m hm)))
  have hE : ∀ i,i < len → ∃ (xs : List V) (cs : List Value),HasL l xs ∧ DenVL (zW w) xs cs ∧ ∀ m,m < j.size → w.cell? (a.add (i * j.size + m)) = cs[m]? := by
   intro i hil
   obtain ⟨cs',hc,ht'⟩ := hcell i (by omega)
   obtain ⟨xs,h1,h2⟩ := ih _ _ _ ht' (hwe i hil)
   rw [hC] at hc
   obtain ⟨_,hcl,hat⟩ := World.cells?_some hc
   exact ⟨xs,cs',h1,h2,fun m hm => by rw [← add_of_add];exact hat m hm⟩
  have hL : ∀ k,k ≤ len → ∃ (rs : List (List V)) (us : List Value),rs.length = k ∧ (∀ r ∈ rs,HasL l r) ∧ DenVL (zW w) rs.flatten us ∧ us.length = k * j.size ∧ ∀ m u,us[m]? = some u → w.cell? (a.add m) = some u := by
   intro k
   induction k with
   | zero => intro _;exact ⟨[],[],rfl,by simp,.nil,by simp,by simp⟩
   | succ k ihk =>
    intro hk
    obtain ⟨rs,us,h1,h2,h3,h4,h5⟩ := ihk (by omega)
    obtain ⟨xs,cs,g1,g2,g3⟩ := hE k (by omega)
    have gl : cs.length = j.size := by rw [g2.len,g1.len,hl]
    refine ⟨rs ++ [xs],us ++ cs,by simp [h1],fun r hr => ?_,by rw [List.flatten_append];simpa using h3.app g2,by rw [List.length_append,h4,gl,Nat.add_mul,Nat.one_mul],fun m u hu => ?_⟩
    ·rcases List.mem_append.1 hr with hr | hr
     ·exact h2 r hr
     ·rw [List.mem_singleton.1 hr];exact g1
    ·by_cases hm : m < k * j.size
     ·rw [List.getElem?_append_left (by omega)] at hu
      exact h5 m u hu
     ·rw [List.getElem?_append_right (by omega),h4] at hu
      have hlt : m - k * j.size < j.size := by have := (List.getElem?_eq_some_iff.1 hu).1;omega
      have := g3 _ hlt
      rw [show k * j.size + (m - k * j.size) = m by omega] at this
      rw [this,hu]
  obtain ⟨rs,us,h1,h2,h3,h4,h5⟩ := hL len (Nat.le_refl _)
  have hlen : len * j.bytes ≤ bigB := by
   simp only [List.length_map,List.length_range,hBy] at hwt
   exact Nat.le_trans (Nat.mul_le_mul_right _ (Nat.le_add_right _ _)) hwt
  have hr : ∀ r ∈ rs,r.length = j.size := fun r hr => by rw [(h2 r hr).len,hl]
  refine ⟨[.sl j.size rs],.one (.sl (by rw [h1];exact hlen) (by omega) hl.symm hr (fun r hr => (h2 r hr).has)),⟨rfl,rfl,fun m d u e1 e2 => ?_⟩⟩
  cases m with
  | succ m => simp at e1
  | zero =>
   simp at e1 e2
   subst e1 e2
   by_cases hrs : rs = []
   ·subst hrs
    have : len = 0 := by simpa using h1.symm
    subst this
    exact .sl (b := 0) (o := 0) [] rfl (Nat.zero_le _) (Nat.zero_le _) hr (fun h => absurd rfl h) rfl (by simp) rfl (by simp)
   ·have hus : 0 < us.length := by
     rw [h4]
     have : 0 < len := by rw [← h1];exact List.length_pos_iff.2 hrs
     exact Nat.mul_pos this hp
    obtain ⟨b,off,spot⟩ := a
    have hc0 := h5 0 _ (List.getElem?_eq_getElem hus)
    have hspot : spot = none := by simpa [Addr.add] using World.cell?_spot hc0
    subst hspot
    have hlt := cell_lt hc0
    refine .sl (b := b) (o := off) us h1 hlc (by omega) hr (fun _ => ⟨rfl,by simpa [block_of_add] using hlt⟩) h3.len (fun m u hu => ?_) h3.one h3.den
    have := h5 m u hu
    rwa [add_plain] at this
theorem opn_struct {t : TypeId} {g : Nat → Option (List Sh)} {fs : List (Nat × TypeId)} {sh : List Sh} {i : Ty} (ht : lk t T = some i) (hi : i.k = .st fs) (hs : shFs g fs 0 = some sh) (hl : sh.length = i.size) (ih : ∀ u l,g u = some l → Opn enc P w base spare held u l) (hg : ∀ u l,g u = some l → P.cellsOf u = l.length) : Opn enc P w base spare held t sh := by
 intro n cs y h hw
 have ku := (hT.ok t i ht).kind
 rw [hi] at ku
 obtain ⟨fields,k1,k2⟩ := ku
 obtain ⟨f,z,q1,q2,_⟩ := (hT.ok t i ht).info
 have hC : P.cellsOf t = i.size := by simp [Program.cellsOf,q1,q2]
 obtain ⟨xs,n',_,rfl,hcl,hxl,hf⟩ := DataW.trod_struct k1 h
 rw [hC] at hcl
 have hwf : ∀ (m : Nat) (fd : Field) (x : DataW H × List MemPlace),fields[m]? = some fd → xs[m]? = some x → ∀ q ∈ x.1.weights P fd.type,q ≤ bigB := fun m fd x e1 e2 q hq => hw q (weights_field (j := m) k1 (by rw [List.getElem?_map,Array.getElem?_toList,e1];rfl) (by rw [List.getElem?_map,e2];rfl) hq)
 have key : ∀ (l : List (Nat × TypeId)) (m o : Nat) (sh : List Sh),(∀ (q : Nat) p,l[q]? = some p → fs[m + q]? = some p) → shFs g l o = some sh → ∃ vs : List V,HasL sh vs ∧ ((o + sh.length ≤ cs.length) → DenVL (zW w) vs ((cs.drop o).take sh.length)) := by
  intro l
  induction l with
  | nil => intro m o sh _ hs;simp [shFs] at hs;subst hs;exact ⟨[],.nil,fun _ => by simpa using DenVL.nil⟩
  | cons p r ihl =>
   intro m o sh hp hs
   obtain ⟨off,u⟩ := p
   simp only [shFs] at hs
   cases hb : Nat.beq off o <;> rw [hb] at hs
   ·cases hs
   ·simp only [cond_true] at hs
    have := Nat.eq_of_beq_eq_true hb
    subst this
    cases hgu : g u with
    | none => simp only [hgu] at hs;cases hs
    | some l1 =>
     simp only [hgu] at hs
     cases hr : shFs g r (off + l1.length) with
     | none => simp only [hr] at hs;cases hs
     | some l2 =>
      simp only [hr] at hs
      injection hs with hs
      subst hs
      obtain ⟨vs,v1,v2⟩ := ihl (m + 1) _ l2 (fun q p hq => by have := hp (q + 1) p (by simpa using hq);rwa [show m + (q + 1) = m + 1 + q by omega] at this) hr
      have hfs := hp 0 (off,u) rfl
      rw [Nat.add_zero,← k2,List.getElem?_map] at hfs
      cases hfd : fields.toList[m]? with
      | none => rw [hfd] at hfs;cases hfs
      | some fd =>
       rw [hfd] at hfs
       simp only [Option.map_some,Option.some.injEq,Prod.mk.injEq] at hfs
       obtain ⟨e1,e2⟩ := hfs
       rw [Array.getElem?_toList] at hfd
       have hrd := hf m fd hfd
       rw [e1,e2,hg u l1 hgu] at hrd
       have hmx : m < xs.length := by rw [hxl];exact (Array.getElem?_eq_some_iff.1 hfd).1
       have hxm := List.getElem?_eq_getElem hmx
       rw [hxm] at hrd
       have hww := hwf m fd _ hfd hxm
       rw [e2] at hww
       obtain ⟨ws,w1,w2⟩ := ih u l1 hgu _ _ _ hrd hww
       refine ⟨ws ++ vs,w1.app v1,fun ho => ?_⟩
       simp only [List.length_append] at ho
       have h2 := v2 (by omega)
       have hsp : (cs.drop off).take (l1 ++ l2).length = (cs.drop off).take l1.length ++ (cs.drop (off + l1.length)).take l2.length := by
        rw [List.length_append,List.take_add,List.drop_drop]
       rw [hsp]
       exact w2.app h2
 obtain ⟨vs,v1,v2⟩ := key fs 0 0 sh (fun q p h => by rwa [Nat.zero_add]) hs
 refine ⟨vs,v1,?_⟩
 have := v2 (by omega)
 rwa [List.drop_zero,List.take_of_length_le (by omega)] at this
omit hT in
theorem den_one {x : V} {v : Value} (h : DenV (zW w) x v) : DenVL (zW w) [x] [v] := ⟨rfl,by simp [h.one],fun m d u e1 e2 => by
 cases m with
 | zero => simp at e1 e2;subst e1 e2;exact h
 | succ m => simp at e1⟩
theorem shT_cells : ∀ {f t : Nat} {sh : List Sh},shT T f t = some sh → P.cellsOf t = sh.length
 | 0,t,sh,h => by cases h
 | f + 1,t,sh,h => by
  simp only [shT] at h
  cases ht : lk t T with
  | none => rw [ht] at h;cases h
  | some i =>
   rw [ht] at h
   simp only at h
   obtain ⟨q,z,q1,q2,_⟩ := (hT.ok t i ht).info
   have hC : P.cellsOf t = i.size := by simp [Program.cellsOf,q1,q2]
   rw [hC]
   split at h
   ·cases hb : Nat.beq i.size 1 <;> rw [hb] at h
    ·cases h
    ·injection h with h;subst h;exact Nat.eq_of_beq_eq_true hb
   ·cases hb : Nat.beq i.size 1 <;> rw [hb] at h
    ·cases h
    ·injection h with h;subst h;exact Nat.eq_of_beq_eq_true hb
   ·cases hb : Nat.beq i.size 1 <;> rw [hb] at h
    ·cases h
    ·injection h with h;subst h;exact Nat.eq_of_beq_eq_true hb
   ·rename_i e hk
    split at h
    ·cases h
    ·rename_i j hj
     split at h
     ·cases h
     ·rename_i l hl
      cases hb : (Nat.beq l.length j.size && (Nat.blt 0 j.size && Nat.beq i.size 1)) <;> rw [hb] at h
      ·cases h
      ·injection h with h;subst h
       simp only [Bool.and_eq_true] at hb
       exact Nat.eq_of_beq_eq_true hb.2.2
   ·split at h
    ·cases h
    ·rename_i l hl
     cases hb : Nat.beq l.length i.size <;> rw [hb] at h
     ·cases h
     ·injection h with h;subst h;exact (Nat.eq_of_beq_eq_true hb).symm
   ·cases h
theorem opn : ∀ {f t : Nat} {sh : List Sh},shT T f t = some sh → Opn enc P w base spare held t sh
 | 0,t,sh,h => by cases h
 | f + 1,t,sh,h => by
  simp only [shT] at h
  cases ht : lk t T with
  | none => rw [ht] at h;cases h
  | some i =>
   rw [ht] at h
   simp only at h
   split at h
   ·rename_i k hk
    cases hb : Nat.beq i.size 1 <;> rw [hb] at h
    ·cases h
    ·injection h with h;subst h
     have ku := (hT.ok t i ht).kind
     rw [hk] at ku
     have ku : P.underlying t = some (.int k) := ku
     intro n cs y hy _
     obtain ⟨z,rfl,_,hz⟩ := DataW.trod_int ku hy
     exact ⟨[.int k z],.one (.int hz),den_one (.int _ _)⟩
   ·rename_i hk
    cases hb : Nat.beq i.size 1 <;> rw [hb] at h
    ·cases h
    ·injection h with h;subst h
     have ku := (hT.ok t i ht).kind
     rw [hk] at ku
     have ku : P.underlying t = some .bool := ku
     intro n cs y hy _
     obtain ⟨z,rfl,_⟩ := DataW.trod_bool ku hy
     exact ⟨[.bool z],.one .bool,den_one (.bool _)⟩
   ·rename_i hk
    cases hb : Nat.beq i.size 1 <;> rw [hb] at h
    ·cases h
    ·injection h with h;subst h
     have ku := (hT.ok t i ht).kind
     rw [hk] at ku
     have ku : P.underlying t = some .string := ku
     intro n cs y hy hw
     obtain ⟨z,rfl,rfl,hz⟩ := DataW.trod_string ku hy
     have := hw z.data.toList.length (show _ ∈ [z.data.toList.length] from List.mem_singleton.2 rfl)
     have e : z.data.toList.length = z.size := Array.length_toList
     rw [e] at this
     exact ⟨[.str z],.one (.str this),den_one (.str _ hz)⟩
   ·rename_i e hk
    split at h
    ·cases h
    ·rename_i j hj
     split at h
     ·cases h
     ·rename_i l hl
      cases hb : (Nat.beq l.length j.size && (Nat.blt 0 j.size && Nat.beq i.size 1)) <;> rw [hb] at h
      ·cases h
      ·injection h with h;subst h
       simp only [Bool.and_eq_true] at hb
       exact opn_slice ht hk hj (Nat.eq_of_beq_eq_true hb.1) (by simpa [Nat.blt_eq] using hb.2.1) (opn hl)
   ·rename_i fs hk
    split at h
    ·cases h
    ·rename_i l hl
     cases hb : Nat.beq l.length i.size <;> rw [hb] at h
     ·cases h
     ·injection h with h;subst h
      exact opn_struct ht hk hl (Nat.eq_of_beq_eq_true hb) (fun u l hu => opn hu) (fun u l hu => shT_cells hu)
   ·cases h
theorem arg_open {f t : Nat} {s : Sh} {v : Value} {d : DataW H} {p : List MemPlace} (hs : shT T f t = some [s]) (h : DataW.Trod enc P w base spare held t v d p) (hz : ∀ n ∈ d.weights P t,n ≤ bigB) (hv : v.cells = #[v]) : ∃ x,HasSh s x ∧ ∀ ρ,DenS ρ (zW w) (.d (.u x)) v := by
 obtain ⟨n,hn⟩ := h
 rw [hv] at hn
 obtain ⟨xs,h1,h2⟩ := opn hs n _ _ hn hz
 obtain ⟨x,q,rfl,h3,h4⟩ := h1.cons_inv
 have := h4.nil_inv
 subst this
 exact ⟨x,h3,fun ρ => .d (.u (h2.den 0 x v rfl rfl))⟩
end
end Go.Proofs.YtabmcfnefjipbaaGreatDoor
namespace Go.Proofs.YtabmcfnefjipbaaGreatDoor
open Go.ChangeShapes Go.WideShapes Go.ChangeAt Go.RowKit
theorem law_liftedL {C : Checked} {os : Os} {f : FuncId} {fn : Func} {s : ChangeSpec} {tb : TypeId} {apart fresh : Bool} {conds : List PathCond} {laid : List (String × DataW Unit)} (started : os.Started) (H : Type) (enc : TypeId × Value → H) (F : Stop.Interp)
  (own : ownKnob C.prog.godebug = none) (noInit : C.prog.inits.idxOf? f = none) (hfn : C.prog.funcs[f]? = some fn)
  (witness : ∃ (w : World) (tape : Tape) (i : Input),w.os = os ∧ (w.forCall tape i).Shaped C.prog ∧ i.vars = [] ∧ Input.okWide C.prog (w.forCall tape i) .any w.heap.size f i ∧
   (Rows.OpenSpec.upto s).preRow enc C.prog fn conds apart laid (w.forCall tape i).memory i.args ∧ ({} : Assume).holds C.prog (lone (Frame.enter C.prog f i.args .normal) [] (w.forCall tape i)))
  (hl : laidOutB C.prog = true) (hT : paramsRead C.prog fn = true) (hres : fn.resultTypes = #[tb]) (htb : C.prog.underlying tb = some .bool) (hvars : s.vars = [])
  (hsp : ∀ ds : List (DataW H),ds.length = fn.params.size → s.fn H ds = { results := [.lit (.bool true)],args := ds })
  (walk : ∀ (W : World) (base : Nat) (args : Array Value) (ds : List (DataW H)) (p : List MemPlace),
   (∀ (j : Nat) t v,fn.params[j]? = some t → args[j]? = some v → Value.okWide C.prog W .any base t v) →
   DataW.TrodAll enc C.prog W 0 (fun _ => true) true fn.params.toList args.toList ds p → (∀ x ∈ p,x.block < W.heap.size) →
   Rows.uptoBulkAll ds ≤ 1048576 → laidMetH C.prog laid W →
   Calls C.prog f args W fun e W' => e = .returned (.bool true) ∧ Below W.heap.size W W') :
  ReturnsInHanded {} C os f .any ((Rows.OpenSpec.upto s).preRow enc C.prog fn conds apart laid) (((Rows.OpenSpec.upto s).at F).post enc C.prog fn apart fresh false false) := by
 refine returnsInHanded_of_row (s := Rows.OpenSpec.upto s) own started noInit hfn witness ?_
 intro W base args ds gs before hval hW0 _ hk _ hL _ _
 have hW : DataW.Whole enc C.prog fn.params.toList s.vars apart W args.toList ds gs before := hW0
 have hgs : gs = [] := by
  obtain ⟨p,q,hA,hV,he,_,_⟩ := hW
  rw [hvars] at hV
  exact (trodVars_none hV).1
 subst hgs
 have hlen : ds.length = fn.params.size := by
  obtain ⟨p,q,hA,_⟩ := hW
  have hlt : ∀ {ts : List TypeId} {vs : List Value} {ds : List (DataW H)} {ps : List MemPlace},DataW.TrodAll enc C.prog W 0 (fun _ => true) true ts vs ds ps → ds.length = ts.length := by
   intro ts
   induction ts with
   | nil => intro vs ds ps h;cases vs <;> cases ds <;> first | rfl | exact h.elim
   | cons t ts ih =>
    intro vs ds ps h
    cases vs with
    | nil => exact h.elim
    | cons v vs =>
     cases ds with
     | nil => exact h.elim
     | cons d ds =>
      obtain ⟨p,q,_,h2,_⟩ := h
      simp [ih h2]
  simpa using hlt hA
 have hb := of_decide_eq_true (hk _ rfl)
 rw [List.append_nil] at hb
 have hlt := hW.lt
 have hp : ∃ p,DataW.TrodAll enc C.prog W 0 (fun _ => true) true fn.params.toList args.toList ds p ∧ ∀ x ∈ p,x.block < W.heap.size := by
  obtain ⟨p,q,hA,hV,he,_,_⟩ := hW
  exact ⟨p,hA,fun x hx => hlt x (by rw [he];exact List.mem_append_left _ hx)⟩
 obtain ⟨p,hA,hpl⟩ := hp
 refine (walk W base args ds p hval hA hpl hb hL).mono fun e W' ⟨he,hb⟩ => ?_
 exact ⟨_,he,post_of_below hl hT hres htb hvars (hsp ds hlen) hW hb⟩
theorem laid_out : laidOutB Tryz.prog = true := by kernel_rfl
theorem own_knob : ownKnob Tryz.prog.godebug = none := by kernel_rfl
theorem closed_T : closedT Tryz.prog = true := by kernel_rfl
mutual
def cellsD : DataW Unit → List Value
 | .lit (.int k n) => [.int k n]
 | .agg ps => cellsDs ps
 | _ => []
def cellsDs : List (DataW Unit) → List Value
 | [] => []
 | d :: r => cellsD d ++ cellsDs r
end
def setCs (cs : List Value) : Obj → Obj
 | .cells _ t frozen => .cells cs.toArray t frozen
 | o => o
noncomputable def laidWorld (os : Os) : World :=
 { World.holding Tryz.prog os ⟨#[],#[],[]⟩ with heap := (((((World.holding Tryz.prog os ⟨#[],#[],[]⟩).heap.modify 6 (setCs (cellsD Rows.laid_unicode_utf8_first))).modify 7 (setCs (cellsD Rows.laid_unicode_utf8_acceptRanges))).modify 1 (setCs (cellsD Rows.laid_internal_strconv_uint64pow10))).modify 4 (setCs (cellsD Rows.laid_math_bits_deBruijn32tab))).modify 5 (setCs (cellsD Rows.laid_math_bits_deBruijn64tab)) }
abbrev laidL : List (String × DataW Unit) := [("math/bits.deBruijn32tab", Rows.laid_math_bits_deBruijn32tab), ("math/bits.deBruijn64tab", Rows.laid_math_bits_deBruijn64tab), ("internal/strconv.uint64pow10", Rows.laid_internal_strconv_uint64pow10), ("unicode/utf8.acceptRanges", Rows.laid_unicode_utf8_acceptRanges), ("unicode/utf8.first", Rows.laid_unicode_utf8_first)]
section
variable {P : Program} {f : FuncId} {ss : List SV}
end
end Go.Proofs.YtabmcfnefjipbaaGreatDoor
namespace Go.Proofs.YtabmcfnefjipbaaGreatDoor
open Go.ChangeShapes Go.WideShapes Go.Deep Go.RowKit
abbrev shLocs : Sh := .sl 32 [.str,.str]
abbrev shEvs : Sh := .sl 104 [.int .i64,.str,.str,.int .i64,.int .i64,.int .i64,.str,shLocs]
theorem shEvs_eq : shT tt 6 22 = some [shEvs] := by rfl
theorem rows_ofP {α β : Type} {f : α → β} {P : α → Prop} : ∀ {rs : List β},(∀ r ∈ rs,∃ a,r = f a ∧ P a) → ∃ l : List α,rs = l.map f ∧ ∀ a ∈ l,P a
 | [],_ => ⟨[],rfl,fun _ h => by cases h⟩
 | r :: rs,h => by
  obtain ⟨a,rfl,ha⟩ := h r (by simp)
  obtain ⟨l,rfl,hl⟩ := rows_ofP (rs := rs) fun q hq => h q (by simp [hq])
  exact ⟨a :: l,rfl,fun b hb => by
   rcases List.mem_cons.1 hb with rfl | hb
   ·exact ha
   ·exact hl b hb⟩
theorem locs_of {x : V} (h : HasSh shLocs x) : ∃ l : List (ByteArray × ByteArray),x = .sl 2 (l.map locR) := by
 cases h with | sl hl hm hs hr h =>
 rename_i rs
 subst hs
 have : ∀ r ∈ rs,∃ a : ByteArray × ByteArray,r = locR a ∧ True := fun r hr' => by
  obtain ⟨x0,q,rfl,h0,hq⟩ := HasL.cons_inv ⟨hr r hr',h r hr'⟩
  obtain ⟨x1,q,rfl,h1,hq⟩ := hq.cons_inv
  have := hq.nil_inv
  subst this
  cases h0 with | str h0 =>
  cases h1 with | str h1 =>
  exact ⟨⟨_,_⟩,rfl,trivial⟩
 obtain ⟨l,rfl,_⟩ := rows_ofP this
 exact ⟨l,rfl⟩
end Go.Proofs.YtabmcfnefjipbaaGreatDoor
