/-
  Part 7 of the proofs of dsession_holds: laws and contracts that they need.
-/
import Derived.Test.YtabmcfnefjipbaaGreatDoorW6
set_option linter.unusedVariables false
set_option linter.unusedSimpArgs false
namespace Go.Proofs.YtabmcfnefjipbaaGreatDoor
open Go.RowKit
def clampM (n : Nat) (p : Int) : Int := max (-1) (min p (n : Int))
set_option maxHeartbeats 2000000 in
theorem moveC_T (l : List Ev) (p0 s : Int) (f : Nat) (c : List V) (g : Ev → Bool) (mv : Int → Int) (mu : Int → Nat) (hs : s = 1 ∨ s = -1) (hp : -1 ≤ p0 ∧ p0 ≤ (l.length : Int)) (hL : l.length ≤ 20000)
  (hg : ∀ e ∈ l,CallsA Tryz.prog f [.a e.ds,.d (.q c 0)] [] (Is (db (g e))))
  (hin : ∀ (i : Nat) (e : Ev),l[i]? = some e → mv i = if e.kind = 1 ∧ g e = true then (i : Int) else mv (i + s)) (hout : ∀ p,¬ (0 ≤ p ∧ p < (l.length : Int)) → mv p = clampM l.length p) (hmu : ∀ i : Nat,i < l.length → mu (i + s) < mu i) :
  CallsA Tryz.prog 55 [.d (.u (evs l)),di p0,.a [.u (.int .i64 s),.u (.cl f [c])]] [] (Is (di (mv (p0 + s)))) := by
 have hs2 : -1 ≤ s ∧ s ≤ 1 := by omega
 refine callsA_of_vc (T := tt) Tryz.func55 rfl rfl rfl rfl rfl ?_
 repeat' ((conv => whnf);first | refine Gs.id ?_ | refine Rng.mk (by (try simp only [smT]);omega) ?_ | fail)
 all_goals (conv => whnf)
 refine ⟨⟨Int,fun p => -2 ≤ p ∧ p ≤ (l.length : Int) + 1 ∧ mv (p0 + s) = mv p,fun p => mu p,fun p => ⟨[(0,.d (.u (evs l))),(1,di p),(5,.d (.p 5 0))],[(5,.bx 105 [.u (.int .i64 s),.u (.cl f [c])])]⟩,p0 + s,⟨by omega,by omega,rfl⟩,⟨[(5,.k 5)],⟨by (try dsimp only);(repeat (refine LeT.cons rfl (by first | exact LeS.d (by first | exact LeD.u rfl | exact LeD.p rfl | fail) | fail) ?_));exact LeT.nil,by (try dsimp only);repeat (first | exact LeO.nil | refine LeO.bx rfl rfl (by repeat (first | exact LeL.nil | refine LeL.cons (by first | exact LeD.u rfl | fail) ?_)) ?_ | fail)⟩⟩,fun p hp => ?_⟩⟩
 obtain ⟨hp1,hp2,hq⟩ := hp
 dsimp only
 rw [hq]
 by_cases h9 : 0 ≤ p ∧ p < (l.length : Int)
 ·obtain ⟨i,rfl⟩ : ∃ i : Nat,p = i := ⟨p.toNat,by omega⟩
  have hi : i < l.length := by omega
  have he : l[i]? = some l[i] := List.getElem?_eq_getElem hi
  have hst := hin i l[i] he
  have hcl := hg l[i] (List.getElem_mem hi)
  have hlt := hmu i hi
  have hrow : ∀ {K : List V → Prop} {m : Int},m = (i : Int) → K (l[i]).row → Ix (l.map Ev.row) m K := fun h k => by subst h;exact Ix.map rfl hi k
  rw [hst]
  clear hst hin hout hmu hg hq
  generalize l[i] = e at *
  generalize hge : g e = ge at *
  cases ge
  ·rw [if_neg (by simp)]
   repeat' ((conv => whnf);first | refine Drw.of (T := tt) (i := 4) [13,14] [] [(0,true),(1,true),(2,true),(3,true),(4,true),(5,true),(6,true),(7,true),(8,true),(9,true),(10,true),(11,true),(12,true),(13,false),(14,false)] (by kernel_rfl) ?_ | refine hrow rfl ?_ | refine Gs.id ?_ | with_reducible refine Brn.T rfl ?_ | with_reducible refine Brn.F rfl ?_ | refine Brn.T (by (try simp only [smT]);first | rfl | assumption | omega | fail) ?_ | refine Brn.F (by (try simp only [smT]);first | rfl | assumption | fail) ?_ | (refine Brn.mk (fun hb => ?_) (fun hb => ?_) <;> (try simp only [smT] at hb) <;> (try (exact absurd trivial hb)) <;> (try (exfalso;omega))) | (refine Bnd.mk (fun hm => ?_);(try simp only [smT] at hm)) | refine Rng.mk (by (try simp only [smT]);omega) ?_ | (refine Raw.callF [] [] rfl rfl rfl rfl rfl rfl rfl rfl (hcl) ?_;rintro _ _ ⟨rfl,rfl⟩;refine Bk.mk rfl rfl ?_))
   all_goals (conv => whnf)
   all_goals first | exact ⟨(i : Int) + s,⟨by omega,by omega,rfl⟩,hlt,[(5,.k 5)],⟨by (try dsimp only);(repeat (refine LeT.cons rfl (by first | exact LeS.d (by first | exact LeD.u rfl | exact LeD.p rfl | fail) | fail) ?_));exact LeT.nil,by (try dsimp only);repeat (first | exact LeO.nil | refine LeO.bx rfl rfl (by repeat (first | exact LeL.nil | refine LeL.cons (by first | exact LeD.u rfl | fail) ?_)) ?_ | fail)⟩⟩ | (exfalso;simp_all;done)
  ·by_cases hk : e.kind = 1
   ·rw [if_pos ⟨hk,rfl⟩]
    repeat' ((conv => whnf);first | refine Drw.of (T := tt) (i := 4) [13,14] [] [(0,true),(1,true),(2,true),(3,true),(4,true),(5,true),(6,true),(7,true),(8,true),(9,true),(10,true),(11,true),(12,true),(13,false),(14,false)] (by kernel_rfl) ?_ | refine hrow rfl ?_ | refine Raw.max2 rfl rfl rfl rfl ?_ | refine Gs.id ?_ | with_reducible refine Brn.T rfl ?_ | refine Brn.T (by (try simp only [smT]);first | rfl | assumption | omega | fail) ?_ | (refine Bnd.mk (fun hm => ?_);(try simp only [smT] at hm)) | (refine Raw.callF [] [] rfl rfl rfl rfl rfl rfl rfl rfl (hcl) ?_;rintro _ _ ⟨rfl,rfl⟩;refine Bk.mk rfl rfl ?_))
    all_goals (conv => whnf)
    all_goals first | (exfalso;simp_all;done) | (refine Ret.is (congrArg di ?_);simp only [List.length_map];split <;> omega)
   ·rw [if_neg (fun h => hk h.1)]
    repeat' ((conv => whnf);first | refine Drw.of (T := tt) (i := 4) [13,14] [] [(0,true),(1,true),(2,true),(3,true),(4,true),(5,true),(6,true),(7,true),(8,true),(9,true),(10,true),(11,true),(12,true),(13,false),(14,false)] (by kernel_rfl) ?_ | refine hrow rfl ?_ | refine Gs.id ?_ | with_reducible refine Brn.T rfl ?_ | with_reducible refine Brn.F rfl ?_ | refine Brn.T (by (try simp only [smT]);first | rfl | omega | fail) ?_ | refine Brn.F (by (try simp only [smT]);first | rfl | assumption | fail) ?_ | (refine Bnd.mk (fun hm => ?_);(try simp only [smT] at hm)) | refine Rng.mk (by (try simp only [smT]);omega) ?_ | fail)
    all_goals (conv => whnf)
    all_goals first | exact ⟨(i : Int) + s,⟨by omega,by omega,rfl⟩,hlt,[(5,.k 5)],⟨by (try dsimp only);(repeat (refine LeT.cons rfl (by first | exact LeS.d (by first | exact LeD.u rfl | exact LeD.p rfl | fail) | fail) ?_));exact LeT.nil,by (try dsimp only);repeat (first | exact LeO.nil | refine LeO.bx rfl rfl (by repeat (first | exact LeL.nil | refine LeL.cons (by first | exact LeD.u rfl | fail) ?_)) ?_ | fail)⟩⟩ | (exfalso;simp_all;done)
 ·rw [hout p h9,clampM]
  clear hin hout hmu hg hq
  repeat' ((conv => whnf);first | refine Raw.max2 rfl rfl rfl rfl ?_ | refine Gs.id ?_ | with_reducible refine Brn.F rfl ?_ | refine Brn.T (by (try simp only [smT]);first | rfl | assumption | fail) ?_ | refine Brn.F (by (try simp only [smT]);first | rfl | assumption | omega | fail) ?_ | (refine Brn.mk (fun hb => ?_) (fun hb => ?_) <;> (try simp only [smT] at hb) <;> (try (exact absurd trivial hb)) <;> (try (exfalso;omega))) | (refine Bnd.mk (fun hm => ?_);(try simp only [smT] at hm)) | fail)
  all_goals (conv => whnf)
  all_goals first | (refine Ret.is (congrArg di ?_);simp only [List.length_map];split <;> omega) | (exfalso;simp at *;omega)
set_option maxHeartbeats 2000000 in
theorem moveN_T (l : List Ev) (p0 s : Int) (f : Nat) (g : Ev → Bool) (mv : Int → Int) (mu : Int → Nat) (hs : s = 1 ∨ s = -1) (hp : -1 ≤ p0 ∧ p0 ≤ (l.length : Int)) (hL : l.length ≤ 20000)
  (hg : ∀ e ∈ l,CallsA Tryz.prog f [.a e.ds] [] (Is (db (g e))))
  (hin : ∀ (i : Nat) (e : Ev),l[i]? = some e → mv i = if e.kind = 1 ∧ g e = true then (i : Int) else mv (i + s)) (hout : ∀ p,¬ (0 ≤ p ∧ p < (l.length : Int)) → mv p = clampM l.length p) (hmu : ∀ i : Nat,i < l.length → mu (i + s) < mu i) :
  CallsA Tryz.prog 55 [.d (.u (evs l)),di p0,.a [.u (.int .i64 s),.u (.fn f)]] [] (Is (di (mv (p0 + s)))) := by
 have hs2 : -1 ≤ s ∧ s ≤ 1 := by omega
 refine callsA_of_vc (T := tt) Tryz.func55 rfl rfl rfl rfl rfl ?_
 repeat' ((conv => whnf);first | refine Gs.id ?_ | refine Rng.mk (by (try simp only [smT]);omega) ?_ | fail)
 all_goals (conv => whnf)
 refine ⟨⟨Int,fun p => -2 ≤ p ∧ p ≤ (l.length : Int) + 1 ∧ mv (p0 + s) = mv p,fun p => mu p,fun p => ⟨[(0,.d (.u (evs l))),(1,di p),(5,.d (.p 5 0))],[(5,.bx 105 [.u (.int .i64 s),.u (.fn f)])]⟩,p0 + s,⟨by omega,by omega,rfl⟩,⟨[(5,.k 5)],⟨by (try dsimp only);(repeat (refine LeT.cons rfl (by first | exact LeS.d (by first | exact LeD.u rfl | exact LeD.p rfl | fail) | fail) ?_));exact LeT.nil,by (try dsimp only);repeat (first | exact LeO.nil | refine LeO.bx rfl rfl (by repeat (first | exact LeL.nil | refine LeL.cons (by first | exact LeD.u rfl | fail) ?_)) ?_ | fail)⟩⟩,fun p hp => ?_⟩⟩
 obtain ⟨hp1,hp2,hq⟩ := hp
 dsimp only
 rw [hq]
 by_cases h9 : 0 ≤ p ∧ p < (l.length : Int)
 ·obtain ⟨i,rfl⟩ : ∃ i : Nat,p = i := ⟨p.toNat,by omega⟩
  have hi : i < l.length := by omega
  have he : l[i]? = some l[i] := List.getElem?_eq_getElem hi
  have hst := hin i l[i] he
  have hcl := hg l[i] (List.getElem_mem hi)
  have hlt := hmu i hi
  have hrow : ∀ {K : List V → Prop} {m : Int},m = (i : Int) → K (l[i]).row → Ix (l.map Ev.row) m K := fun h k => by subst h;exact Ix.map rfl hi k
  rw [hst]
  clear hst hin hout hmu hg hq
  generalize l[i] = e at *
  generalize hge : g e = ge at *
  cases ge
  ·rw [if_neg (by simp)]
   repeat' ((conv => whnf);first | refine Drw.of (T := tt) (i := 4) [13,14] [] [(0,true),(1,true),(2,true),(3,true),(4,true),(5,true),(6,true),(7,true),(8,true),(9,true),(10,true),(11,true),(12,true),(13,false),(14,false)] (by kernel_rfl) ?_ | refine hrow rfl ?_ | refine Gs.id ?_ | with_reducible refine Brn.T rfl ?_ | with_reducible refine Brn.F rfl ?_ | refine Brn.T (by (try simp only [smT]);first | rfl | assumption | omega | fail) ?_ | refine Brn.F (by (try simp only [smT]);first | rfl | assumption | fail) ?_ | (refine Brn.mk (fun hb => ?_) (fun hb => ?_) <;> (try simp only [smT] at hb) <;> (try (exact absurd trivial hb)) <;> (try (exfalso;omega))) | (refine Bnd.mk (fun hm => ?_);(try simp only [smT] at hm)) | refine Rng.mk (by (try simp only [smT]);omega) ?_ | (refine Raw.callF [] [] rfl rfl rfl rfl rfl rfl rfl rfl (hcl) ?_;rintro _ _ ⟨rfl,rfl⟩;refine Bk.mk rfl rfl ?_))
   all_goals (conv => whnf)
   all_goals first | exact ⟨(i : Int) + s,⟨by omega,by omega,rfl⟩,hlt,[(5,.k 5)],⟨by (try dsimp only);(repeat (refine LeT.cons rfl (by first | exact LeS.d (by first | exact LeD.u rfl | exact LeD.p rfl | fail) | fail) ?_));exact LeT.nil,by (try dsimp only);repeat (first | exact LeO.nil | refine LeO.bx rfl rfl (by repeat (first | exact LeL.nil | refine LeL.cons (by first | exact LeD.u rfl | fail) ?_)) ?_ | fail)⟩⟩ | (exfalso;simp_all;done)
  ·by_cases hk : e.kind = 1
   ·rw [if_pos ⟨hk,rfl⟩]
    repeat' ((conv => whnf);first | refine Drw.of (T := tt) (i := 4) [13,14] [] [(0,true),(1,true),(2,true),(3,true),(4,true),(5,true),(6,true),(7,true),(8,true),(9,true),(10,true),(11,true),(12,true),(13,false),(14,false)] (by kernel_rfl) ?_ | refine hrow rfl ?_ | refine Raw.max2 rfl rfl rfl rfl ?_ | refine Gs.id ?_ | with_reducible refine Brn.T rfl ?_ | refine Brn.T (by (try simp only [smT]);first | rfl | assumption | omega | fail) ?_ | (refine Bnd.mk (fun hm => ?_);(try simp only [smT] at hm)) | (refine Raw.callF [] [] rfl rfl rfl rfl rfl rfl rfl rfl (hcl) ?_;rintro _ _ ⟨rfl,rfl⟩;refine Bk.mk rfl rfl ?_))
    all_goals (conv => whnf)
    all_goals first | (exfalso;simp_all;done) | (refine Ret.is (congrArg di ?_);simp only [List.length_map];split <;> omega)
   ·rw [if_neg (fun h => hk h.1)]
    repeat' ((conv => whnf);first | refine Drw.of (T := tt) (i := 4) [13,14] [] [(0,true),(1,true),(2,true),(3,true),(4,true),(5,true),(6,true),(7,true),(8,true),(9,true),(10,true),(11,true),(12,true),(13,false),(14,false)] (by kernel_rfl) ?_ | refine hrow rfl ?_ | refine Gs.id ?_ | with_reducible refine Brn.T rfl ?_ | with_reducible refine Brn.F rfl ?_ | refine Brn.T (by (try simp only [smT]);first | rfl | omega | fail) ?_ | refine Brn.F (by (try simp only [smT]);first | rfl | assumption | fail) ?_ | (refine Bnd.mk (fun hm => ?_);(try simp only [smT] at hm)) | refine Rng.mk (by (try simp only [smT]);omega) ?_ | fail)
    all_goals (conv => whnf)
    all_goals first | exact ⟨(i : Int) + s,⟨by omega,by omega,rfl⟩,hlt,[(5,.k 5)],⟨by (try dsimp only);(repeat (refine LeT.cons rfl (by first | exact LeS.d (by first | exact LeD.u rfl | exact LeD.p rfl | fail) | fail) ?_));exact LeT.nil,by (try dsimp only);repeat (first | exact LeO.nil | refine LeO.bx rfl rfl (by repeat (first | exact LeL.nil | refine LeL.cons (by first | exact LeD.u rfl | fail) ?_)) ?_ | fail)⟩⟩ | (exfalso;simp_all;done)
 ·rw [hout p h9,clampM]
  clear hin hout hmu hg hq
  repeat' ((conv => whnf);first | refine Raw.max2 rfl rfl rfl rfl ?_ | refine Gs.id ?_ | with_reducible refine Brn.F rfl ?_ | refine Brn.T (by (try simp only [smT]);first | rfl | assumption | fail) ?_ | refine Brn.F (by (try simp only [smT]);first | rfl | assumption | omega | fail) ?_ | (refine Brn.mk (fun hb => ?_) (fun hb => ?_) <;> (try simp only [smT] at hb) <;> (try (exact absurd trivial hb)) <;> (try (exfalso;omega))) | (refine Bnd.mk (fun hm => ?_);(try simp only [smT] at hm)) | fail)
  all_goals (conv => whnf)
  all_goals first | (refine Ret.is (congrArg di ?_);simp only [List.length_map];split <;> omega) | (exfalso;simp at *;omega)
def fwL (g : Ev → Bool) : List Ev → Nat → Int
 | [],i => i
 | e :: r,i => if e.kind = 1 ∧ g e = true then (i : Int) else fwL g r (i + 1)
def bwL (g : Ev → Bool) (l : List Ev) : Nat → Int
 | 0 => -1
 | i + 1 => match l[i]? with
  | some e => if e.kind = 1 ∧ g e = true then (i : Int) else bwL g l i
  | none => bwL g l i
def mvM (g : Ev → Bool) (l : List Ev) (s p : Int) : Int := if 0 ≤ p ∧ p < (l.length : Int) then (if s = 1 then fwL g (l.drop p.toNat) p.toNat else bwL g l (p.toNat + 1)) else clampM l.length p
theorem mvM_in {g : Ev → Bool} {l : List Ev} {s : Int} (hs : s = 1 ∨ s = -1) (i : Nat) (e : Ev) (he : l[i]? = some e) : mvM g l s i = if e.kind = 1 ∧ g e = true then (i : Int) else mvM g l s (i + s) := by
 have hi := (List.getElem?_eq_some_iff.1 he).1
 have hx := (List.getElem?_eq_some_iff.1 he).2
 unfold mvM
 rw [if_pos (by omega)]
 rcases hs with rfl | rfl
 ·rw [if_pos rfl,Int.toNat_natCast,List.drop_eq_getElem_cons hi,hx,fwL]
  by_cases hc : e.kind = 1 ∧ g e = true
  ·rw [if_pos hc,if_pos hc]
  ·rw [if_neg hc,if_neg hc]
   by_cases hl : i + 1 < l.length
   ·rw [if_pos (by omega),if_pos rfl,show ((i : Int) + 1).toNat = i + 1 by omega]
   ·rw [if_neg (by omega),clampM,List.drop_eq_nil_of_le (by omega),fwL]
    omega
 ·rw [if_neg (by omega),Int.toNat_natCast,bwL,he]
  dsimp only
  by_cases hc : e.kind = 1 ∧ g e = true
  ·rw [if_pos hc,if_pos hc]
  ·rw [if_neg hc,if_neg hc]
   cases i with
   | zero => rw [if_neg (by omega),bwL,clampM];omega
   | succ j =>
    rw [if_pos (by omega),if_neg (by omega),show (((j + 1 : Nat) : Int) + -1).toNat + 1 = j + 1 by omega]
theorem mvM_out {g : Ev → Bool} {l : List Ev} {s : Int} (p : Int) (h : ¬ (0 ≤ p ∧ p < (l.length : Int))) : mvM g l s p = clampM l.length p := by
 unfold mvM
 rw [if_neg h]
def muM (l : List Ev) (s p : Int) : Nat := if s = 1 then ((l.length : Int) + 2 - p).toNat else (p + 3).toNat
theorem muM_lt {l : List Ev} {s : Int} (hs : s = 1 ∨ s = -1) (i : Nat) (hi : i < l.length) : muM l s (i + s) < muM l s i := by
 unfold muM
 rcases hs with rfl | rfl
 ·rw [if_pos rfl,if_pos rfl];omega
 ·rw [if_neg (by omega),if_neg (by omega)];omega
theorem moveC {l : List Ev} {p0 s : Int} {f : Nat} {c : List V} {g : Ev → Bool} (hs : s = 1 ∨ s = -1) (hp : -1 ≤ p0 ∧ p0 ≤ (l.length : Int)) (hL : l.length ≤ 20000) (hg : ∀ e ∈ l,CallsA Tryz.prog f [.a e.ds,.d (.q c 0)] [] (Is (db (g e)))) :
  CallsA Tryz.prog 55 [.d (.u (evs l)),di p0,.a [.u (.int .i64 s),.u (.cl f [c])]] [] (Is (di (mvM g l s (p0 + s)))) :=
 moveC_T l p0 s f c g (mvM g l s) (muM l s) hs hp hL hg (mvM_in hs) (fun p h => mvM_out p h) (muM_lt hs)
theorem moveN {l : List Ev} {p0 s : Int} {f : Nat} {g : Ev → Bool} (hs : s = 1 ∨ s = -1) (hp : -1 ≤ p0 ∧ p0 ≤ (l.length : Int)) (hL : l.length ≤ 20000) (hg : ∀ e ∈ l,CallsA Tryz.prog f [.a e.ds] [] (Is (db (g e)))) :
  CallsA Tryz.prog 55 [.d (.u (evs l)),di p0,.a [.u (.int .i64 s),.u (.fn f)]] [] (Is (di (mvM g l s (p0 + s)))) :=
 moveN_T l p0 s f g (mvM g l s) (muM l s) hs hp hL hg (mvM_in hs) (fun p h => mvM_out p h) (muM_lt hs)
end Go.Proofs.YtabmcfnefjipbaaGreatDoor
namespace Go.Proofs.YtabmcfnefjipbaaGreatDoor
open Go.RowKit
def pushM (e : Ev) (act : List Fu) : List Fu := if e.kind = 2 then act ++ [e.fu] else act
def actM (e : Ev) (act : List Fu) : List Fu := if 2 < e.kind then (pushM e act).dropLast else pushM e act
def codeM (e : Ev) (fuel : Int) (act : List Fu) : Int :=
 if shapeM e fuel ≠ 0 then shapeM e fuel
 else if (pushM e act).length = 0 ∨ e.depth ≠ ((pushM e act).length : Int) then 11
 else if (pushM e act).getLast? ≠ some e.fu then 19 else 0
def vFrom (i : Int) (fuel : Int) (act : List Fu) : List Ev → Int × Int
 | [] => (0,0)
 | e :: r => if codeM e fuel act ≠ 0 then (codeM e fuel act,i) else vFrom (i + 1) e.fuel (actM e act) r
def validM (l : List Ev) : Int × Int := if 20000 < l.length then (2,-1) else vFrom 0 0 [] l
abbrev fuR (f : Fu) : List V := [.str f.1,.str f.2]
set_option maxHeartbeats 4000000 in
theorem validate_T (l : List Ev) : CallsA Tryz.prog 52 [.d (.u (evs l))] [] (Is (dfa (validM l).1 (validM l).2)) := by
 by_cases hl : 20000 < l.length
 ·have e : validM l = (2,-1) := by rw [validM,if_pos hl]
  rw [e]
  refine callsA_of_vc (T := tt) Tryz.func52 rfl rfl rfl rfl rfl ?_
  repeat' ((conv => whnf);first | refine Gs.id ?_ | refine Brn.T (by (try simp only [smT]);first | rfl | omega | fail) ?_ | (refine Bnd.mk (fun hm => ?_);(try simp only [smT] at hm)) | fail)
  all_goals (conv => whnf)
  all_goals exact Ret.is rfl
 ·have e : validM l = vFrom 0 0 [] l := by rw [validM,if_neg hl]
  rw [e]
  refine callsA_of_vc (T := tt) Tryz.func52 rfl rfl rfl rfl rfl ?_
  repeat' ((conv => whnf);first | refine Gs.id ?_ | refine Brn.F (by (try simp only [smT]);first | rfl | omega | fail) ?_ | (refine Bnd.mk (fun hm => ?_);(try simp only [smT] at hm)) | fail)
  all_goals (conv => whnf)
  refine ⟨⟨Nat × Int × List Fu,fun x => x.1 ≤ l.length ∧ x.2.2.length ≤ x.1 ∧ vFrom 0 0 [] l = vFrom x.1 x.2.1 x.2.2 (l.drop x.1),fun x => l.length - x.1,fun x => ⟨[(2,.d (.p 2 0)),(3,.d (.ow 900 x.2.2.length)),(4,di x.2.1),(13,.d (.u (evs l))),(14,di l.length),(15,di x.1)],[(2,.bx 25 [.u (.int .i64 0),.u (.int .i64 0)]),(900,.ar 83 2 (x.2.2.map fuR))]⟩,(0,0,[]),⟨Nat.zero_le _,Nat.le_refl _,rfl⟩,⟨[(2,.k 2),(900,.n 2)],⟨by (try dsimp only);(repeat (refine LeT.cons rfl (by first | exact LeS.d (by first | exact LeD.u rfl | exact LeD.p rfl | exact LeD.no rfl rfl | exact LeD.u (by simp;done) | fail) | fail) ?_));exact LeT.nil,by (try dsimp only);repeat (first | exact LeO.nil | refine LeO.bx rfl rfl (by repeat (first | exact LeL.nil | refine LeL.cons (by first | exact LeD.u rfl | fail) ?_)) ?_ | refine LeO.no rfl rfl ?_)⟩⟩,fun x hx => ?_⟩⟩
  obtain ⟨i,fuel,act⟩ := x
  obtain ⟨hi,ha,he⟩ := hx
  dsimp only at hi ha he ⊢
  rw [he]
  by_cases h9 : i < l.length
  ·rw [List.drop_eq_getElem_cons h9,vFrom]
   have hrow : ∀ {K : List V → Prop},K (l[i]).row → Ix (l.map Ev.row) (i : Int) K := fun k => Ix.map rfl h9 k
   generalize l[i] = e at *
   have hs := shape_T e fuel
   have ho := of_T e
   have hci : ((i + 1 : Nat) : Int) = (i : Int) + 1 := by omega
   have hkk : shapeM e fuel = 0 → 1 ≤ e.kind ∧ e.kind ≤ 4 := fun h => by unfold shapeM at h;split at h <;> omega
   by_cases h0 : shapeM e fuel = 0
   ·rw [h0] at hs
    by_cases hk : e.kind = 2
    ·have hp : pushM e act = act ++ [e.fu] := by rw [pushM,if_pos hk]
     have ha2 : actM e act = act ++ [e.fu] := by rw [actM,if_neg (by omega),hp]
     have hget : ((act.map fuR) ++ [[V.str e.md,V.str e.fn]])[act.length]? = some [V.str e.md,V.str e.fn] := by simp
     have hb1 := toList_beq e.md e.md
     have hb2 := toList_beq e.fn e.fn
     rw [decide_eq_true rfl] at hb1 hb2
     by_cases hd : e.depth = (act.length : Int) + 1
     ·have hc : codeM e fuel act = 0 := by simp [codeM,h0,hp,hd]
      rw [hc,if_neg (by simp),ha2]
      repeat' ((conv => whnf);first | refine hrow ?_ | refine Ixo.mk ⟨act.length,by simp,by simp,?_⟩ | refine Rw.get hget ?_ | refine Gs.id ?_ | with_reducible refine Brn.T rfl ?_ | with_reducible refine Brn.F rfl ?_ | refine Brn.T (by (try simp only [smT]);first | rfl | assumption | omega | fail) ?_ | refine Brn.F (by (try simp only [smT]);first | rfl | assumption | omega | (simp [*];done) | fail) ?_ | (refine Bnd.mk (fun hm => ?_);(try simp only [smT] at hm)) | refine Rng.mk (by (try simp only [smT]);omega) ?_ | refine Eqv.mk (by kernel_rfl) ?_ | refine Apd.mk (by first | rfl | simp) (by first | rfl | fail) (by (try simp only [smT]);first | omega | fail) (by unfold maxLen;first | (simp;omega) | fail) ?_ | refine Drw.of (T := tt) (i := 16) [] [] [(0,true),(1,true),(2,true),(3,true),(4,true),(5,true),(6,false),(7,true),(8,true)] (by kernel_rfl) ?_ | (refine CL.mk (Or.inl ?_);(conv => whnf);first | refine Cl.is (hs) rfl (by first | exact fun _ => rfl | fail) ?_ | refine Cl.is (ho) rfl (by first | exact fun _ => rfl | fail) ?_) | fail)
      all_goals (conv => whnf)
      all_goals exact ⟨(i + 1,e.fuel,act ++ [e.fu]),⟨by omega,by simp;omega,by dsimp only;rw [hci]⟩,by omega,[(2,.k 2),(900,.k 36)],⟨by (try dsimp only);(repeat (refine LeT.cons rfl (by first | exact LeS.d (by first | exact LeD.u rfl | exact LeD.p rfl | exact LeD.ow rfl (by simp [Ev.fu]) | fail) | fail) ?_));exact LeT.nil,by (try dsimp only);repeat (first | exact LeO.nil | refine LeO.bx rfl rfl (by repeat (first | exact LeL.nil | refine LeL.cons (by first | exact LeD.u rfl | fail) ?_)) ?_ | refine LeO.ar rfl rfl (by first | simp [Ev.fu]) ?_ | fail)⟩⟩
     ·have hc : codeM e fuel act = 11 := by simp [codeM,h0,hp,hd]
      rw [hc,if_pos (by simp)]
      repeat' ((conv => whnf);first | refine hrow ?_ | refine Gs.id ?_ | with_reducible refine Brn.T rfl ?_ | refine Brn.T (by (try simp only [smT]);first | rfl | assumption | omega | fail) ?_ | refine Brn.F (by (try simp only [smT]);first | rfl | omega | fail) ?_ | (refine Bnd.mk (fun hm => ?_);(try simp only [smT] at hm)) | refine Apd.mk (by first | rfl | simp) (by first | rfl | fail) (by (try simp only [smT]);first | omega | fail) (by unfold maxLen;first | (simp;omega) | fail) ?_ | (refine CL.mk (Or.inl ?_);(conv => whnf);first | refine Cl.is (hs) rfl (by first | exact fun _ => rfl | fail) ?_ | refine Cl.is (ho) rfl (by first | exact fun _ => rfl | fail) ?_) | fail)
      all_goals (conv => whnf)
      all_goals first | exact Ret.is rfl | (exfalso;simp at *;omega)
    ·have hp : pushM e act = act := by rw [pushM,if_neg hk]
     rcases List.eq_nil_or_concat act with rfl | ⟨L,f,rfl⟩
     ·have hc : codeM e fuel [] = 11 := by simp [codeM,h0,hp]
      rw [hc,if_pos (by simp)]
      repeat' ((conv => whnf);first | refine hrow ?_ | refine Gs.id ?_ | with_reducible refine Brn.T rfl ?_ | refine Brn.T (by (try simp only [smT]);first | rfl | omega | fail) ?_ | refine Brn.F (by (try simp only [smT]);first | rfl | assumption | fail) ?_ | (refine Bnd.mk (fun hm => ?_);(try simp only [smT] at hm)) | (refine CL.mk (Or.inl ?_);(conv => whnf);first | refine Cl.is (hs) rfl (by first | exact fun _ => rfl | fail) ?_ | fail) | fail)
      all_goals (conv => whnf)
      all_goals first | exact Ret.is rfl | (exfalso;simp at *;omega)
     ·rw [List.concat_eq_append] at *
      have hget : ((L ++ [f]).map fuR)[L.length]? = some (fuR f) := by simp
      have hlen : (((L ++ [f]).length : Nat) : Int) = (L.length : Int) + 1 := by simp
      by_cases hd : e.depth = (L.length : Int) + 1
      ·have hb1 := toList_beq f.1 e.md
       have hb2 := toList_beq f.2 e.fn
       by_cases hf : f = e.fu
       ·subst hf
        have hc : codeM e fuel (L ++ [e.fu]) = 0 := by simp [codeM,h0,hp,hd]
        have e1 : decide (e.fu.1 = e.md) = true := decide_eq_true rfl
        have e2 : decide (e.fu.2 = e.fn) = true := decide_eq_true rfl
        rw [e1] at hb1
        rw [e2] at hb2
        rw [hc,if_neg (by simp)]
        by_cases hk3 : 2 < e.kind
        ·have ha2 : actM e (L ++ [e.fu]) = L := by rw [actM,if_pos hk3,hp];simp
         rw [ha2]
         repeat' ((conv => whnf);first | refine hrow ?_ | refine Ixo.mk ⟨L.length,by simp,by simp,?_⟩ | refine Slc.mk ⟨0,L.length,rfl,by simp,by omega,by simp,?_⟩ | refine Rw.get hget ?_ | refine Gs.id ?_ | with_reducible refine Brn.T rfl ?_ | with_reducible refine Brn.F rfl ?_ | refine Brn.T (by (try simp only [smT]);first | rfl | assumption | omega | fail) ?_ | refine Brn.F (by (try simp only [smT]);first | rfl | assumption | omega | (simp [*];done) | fail) ?_ | (refine Brn.mk (fun hb => ?_) (fun hb => ?_) <;> (try simp only [smT] at hb) <;> (try (exact absurd trivial hb)) <;> (try (exfalso;omega))) | (refine Bnd.mk (fun hm => ?_);(try simp only [smT] at hm)) | refine Rng.mk (by (try simp only [smT]);omega) ?_ | refine Eqv.mk (by kernel_rfl) ?_ | refine Drw.of (T := tt) (i := 16) [] [] [(0,true),(1,true),(2,true),(3,true),(4,true),(5,true),(6,false),(7,true),(8,true)] (by kernel_rfl) ?_ | (refine CL.mk (Or.inl ?_);(conv => whnf);first | refine Cl.is (hs) rfl (by first | exact fun _ => rfl | fail) ?_ | refine Cl.is (ho) rfl (by first | exact fun _ => rfl | fail) ?_) | fail)
         all_goals (conv => whnf)
         all_goals first
          | (exfalso;have := hkk h0;omega)
          | exact ⟨(i + 1,e.fuel,L),⟨by omega,by simp at ha;dsimp only;omega,by dsimp only;rw [hci]⟩,by omega,[(2,.k 2),(900,.k 900)],(by (try dsimp only);(repeat (refine LeT.cons rfl (by first | exact LeS.d (by first | exact LeD.u rfl | exact LeD.p rfl | exact LeD.ow rfl rfl | fail) | fail) ?_));exact LeT.nil),.bx rfl rfl (.cons (.u rfl) (.cons (.u rfl) .nil)) (.tr (m := L.length) rfl rfl (by simp) (by simp) .nil)⟩
        ·have ha2 : actM e (L ++ [e.fu]) = L ++ [e.fu] := by rw [actM,if_neg hk3,hp]
         rw [ha2]
         repeat' ((conv => whnf);first | refine hrow ?_ | refine Ixo.mk ⟨L.length,by simp,by simp,?_⟩ | refine Rw.get hget ?_ | refine Gs.id ?_ | with_reducible refine Brn.T rfl ?_ | with_reducible refine Brn.F rfl ?_ | refine Brn.T (by (try simp only [smT]);first | rfl | omega | fail) ?_ | refine Brn.F (by (try simp only [smT]);first | rfl | assumption | omega | (simp [*];done) | fail) ?_ | (refine Bnd.mk (fun hm => ?_);(try simp only [smT] at hm)) | refine Rng.mk (by (try simp only [smT]);omega) ?_ | refine Eqv.mk (by kernel_rfl) ?_ | refine Drw.of (T := tt) (i := 16) [] [] [(0,true),(1,true),(2,true),(3,true),(4,true),(5,true),(6,false),(7,true),(8,true)] (by kernel_rfl) ?_ | (refine CL.mk (Or.inl ?_);(conv => whnf);first | refine Cl.is (hs) rfl (by first | exact fun _ => rfl | fail) ?_ | refine Cl.is (ho) rfl (by first | exact fun _ => rfl | fail) ?_) | fail)
         all_goals (conv => whnf)
         all_goals first
          | (exfalso;omega)
          | exact ⟨(i + 1,e.fuel,L ++ [e.fu]),⟨by omega,by dsimp only;omega,by dsimp only;rw [hci]⟩,by omega,[(2,.k 2),(900,.k 900)],⟨by (try dsimp only);(repeat (refine LeT.cons rfl (by first | exact LeS.d (by first | exact LeD.u rfl | exact LeD.p rfl | exact LeD.ow rfl rfl | fail) | fail) ?_));exact LeT.nil,by (try dsimp only);repeat (first | exact LeO.nil | refine LeO.bx rfl rfl (by repeat (first | exact LeL.nil | refine LeL.cons (by first | exact LeD.u rfl | fail) ?_)) ?_ | refine LeO.ar rfl rfl (by first | rfl | fail) ?_ | fail)⟩⟩
       ·have hc : codeM e fuel (L ++ [f]) = 19 := by simp [codeM,h0,hp,hd,hf]
        rw [hc,if_pos (by simp)]
        have hne : ¬ (f.1 = e.md ∧ f.2 = e.fn) := fun h => hf (Prod.ext h.1 h.2)
        repeat' ((conv => whnf);first | refine hrow ?_ | refine Ixo.mk ⟨L.length,by simp,by simp,?_⟩ | refine Slc.mk ⟨0,L.length,rfl,by simp,by omega,by simp,?_⟩ | refine Rw.get hget ?_ | refine Gs.id ?_ | with_reducible refine Brn.T rfl ?_ | with_reducible refine Brn.F rfl ?_ | refine Brn.T (by (try simp only [smT]);first | rfl | assumption | omega | fail) ?_ | refine Brn.F (by (try simp only [smT]);first | rfl | assumption | omega | fail) ?_ | (refine Brn.mk (fun hb => ?_) (fun hb => ?_) <;> (try simp only [smT] at hb) <;> (try (exact absurd trivial hb)) <;> (try (exfalso;omega))) | (refine Bnd.mk (fun hm => ?_);(try simp only [smT] at hm)) | refine Rng.mk (by (try simp only [smT]);omega) ?_ | refine Eqv.mk (by kernel_rfl) ?_ | refine Drw.of (T := tt) (i := 16) [] [] [(0,true),(1,true),(2,true),(3,true),(4,true),(5,true),(6,false),(7,true),(8,true)] (by kernel_rfl) ?_ | (refine CL.mk (Or.inl ?_);(conv => whnf);first | refine Cl.is (hs) rfl (by first | exact fun _ => rfl | fail) ?_ | refine Cl.is (ho) rfl (by first | exact fun _ => rfl | fail) ?_) | fail)
        all_goals (conv => whnf)
        all_goals first | exact Ret.is rfl | (exfalso;clear hs ho he hrow hget;grind)
      ·have hc : codeM e fuel (L ++ [f]) = 11 := by simp [codeM,h0,hp,hd]
       rw [hc,if_pos (by simp)]
       repeat' ((conv => whnf);first | refine hrow ?_ | refine Gs.id ?_ | with_reducible refine Brn.T rfl ?_ | refine Brn.T (by (try simp only [smT]);first | rfl | assumption | omega | fail) ?_ | refine Brn.F (by (try simp only [smT]);first | rfl | assumption | omega | fail) ?_ | (refine Bnd.mk (fun hm => ?_);(try simp only [smT] at hm)) | (refine CL.mk (Or.inl ?_);(conv => whnf);first | refine Cl.is (hs) rfl (by first | exact fun _ => rfl | fail) ?_ | fail) | fail)
       all_goals (conv => whnf)
       all_goals first | exact Ret.is rfl | (exfalso;simp at *;omega)
   ·have hc : codeM e fuel act = shapeM e fuel := by rw [codeM,if_pos h0]
    rw [hc,if_pos h0]
    repeat' ((conv => whnf);first | refine hrow ?_ | refine Gs.id ?_ | with_reducible refine Brn.F rfl ?_ | refine Brn.T (by (try simp only [smT]);first | rfl | assumption | omega | fail) ?_ | refine Brn.F (by (try simp only [smT]);first | rfl | assumption | fail) ?_ | (refine Bnd.mk (fun hm => ?_);(try simp only [smT] at hm)) | (refine CL.mk (Or.inl ?_);(conv => whnf);first | refine Cl.is (hs) rfl (by first | exact fun _ => rfl | fail) ?_ | fail) | fail)
    all_goals (conv => whnf)
    all_goals first | exact Ret.is rfl | (exfalso;simp at *;omega)
  ·obtain rfl : i = l.length := by omega
   rw [List.drop_length,vFrom]
   repeat' ((conv => whnf);first | refine Gs.id ?_ | refine Brn.F (by (try simp only [smT]);first | rfl | omega | fail) ?_ | fail)
   all_goals (conv => whnf)
   all_goals exact Ret.is rfl
end Go.Proofs.YtabmcfnefjipbaaGreatDoor
namespace Go.Proofs.YtabmcfnefjipbaaGreatDoor
open Go.RowKit
end Go.Proofs.YtabmcfnefjipbaaGreatDoor
namespace Go.Proofs.YtabmcfnefjipbaaGreatDoor
open Go.RowKit
structure Ac where
 md : ByteArray
 fn : ByteArray
 line : Int
def setLn (s : List Ac) (line : Int) : List Ac := match s.getLast? with
 | some a => s.dropLast ++ [⟨a.md,a.fn,line⟩]
 | none => s
def stepL (s : List Ac) (e : Ev) : List Ac := if e.kind = 2 then s ++ [⟨e.md,e.fn,e.line⟩] else if e.kind = 1 then setLn s e.line else s.dropLast
def stackAt (l : List Ev) (i : Nat) : List Ac := (l.take i).foldl stepL []
def actAt (l : List Ev) (i : Nat) : List Fu := (l.take i).foldl (fun a e => actM e a) []
def fuelAt (l : List Ev) (i : Nat) : Int := match i with
 | 0 => 0
 | j + 1 => match l[j]? with
  | some e => e.fuel
  | none => 0
def Vd (l : List Ev) : Prop := ∀ (i : Nat) (e : Ev),l[i]? = some e → codeM e (fuelAt l i) (actAt l i) = 0
theorem stackAt_succ {l : List Ev} {i : Nat} {e : Ev} (h : l[i]? = some e) : stackAt l (i + 1) = stepL (stackAt l i) e := by
 rw [stackAt,stackAt,List.take_add_one,h];simp
theorem actAt_succ {l : List Ev} {i : Nat} {e : Ev} (h : l[i]? = some e) : actAt l (i + 1) = actM e (actAt l i) := by
 rw [actAt,actAt,List.take_add_one,h];simp
theorem fuelAt_succ {l : List Ev} {i : Nat} {e : Ev} (h : l[i]? = some e) : fuelAt l (i + 1) = e.fuel := by
 simp [fuelAt,h]
theorem vFrom_Vd {l : List Ev} : ∀ (r : List Ev) (i : Nat),l.drop i = r → (vFrom (i : Int) (fuelAt l i) (actAt l i) r).1 = 0 → ∀ (j : Nat) (e : Ev),i ≤ j → l[j]? = some e → codeM e (fuelAt l j) (actAt l j) = 0
 | [],i,hd,_,j,e,hj,he => by
  have : l.length ≤ i := List.drop_eq_nil_iff.1 hd
  rw [List.getElem?_eq_none (by omega)] at he
  cases he
 | x :: r,i,hd,h,j,e,hj,he => by
  have hx : l[i]? = some x := by rw [← List.head?_drop,hd];rfl
  have hd2 : l.drop (i + 1) = r := by rw [← List.drop_drop,hd];rfl
  rw [vFrom] at h
  split at h
  ·rename_i hc;exact absurd h hc
  ·rename_i hc
   by_cases hij : j = i
   ·subst hij
    rw [hx] at he
    injection he with he
    subst he
    simpa using hc
   ·have e1 : ((i + 1 : Nat) : Int) = (i : Int) + 1 := by omega
    exact vFrom_Vd r (i + 1) hd2 (by rw [e1,fuelAt_succ hx,actAt_succ hx];exact h) j e (by omega) he
theorem valid_Vd {l : List Ev} (h : (validM l).1 = 0) : Vd l ∧ l.length ≤ 20000 := by
 unfold validM at h
 split at h
 ·cases h
 ·exact ⟨fun i e he => vFrom_Vd l 0 rfl h i e (Nat.zero_le _) he,by omega⟩
structure EvOk (e : Ev) (fuel : Int) (act : List Fu) : Prop where
 k1 : 1 ≤ e.kind
 k4 : e.kind ≤ 4
 line : 0 ≤ e.line
 fuel : fuel ≤ e.fuel
 locs : e.kind ≠ 1 → e.locs = []
 name : dottedM e.md = true ∧ nameB e.fn = true
 last : (pushM e act).getLast? = some e.fu
 depth : e.depth = ((pushM e act).length : Int)
theorem codeM_ok {e : Ev} {fuel : Int} {act : List Fu} (h : codeM e fuel act = 0) : EvOk e fuel act := by
 unfold codeM at h
 by_cases h1 : shapeM e fuel = 0
 ·rw [if_neg (by simpa using h1)] at h
  split at h
  ·omega
  ·rename_i h2
   split at h
   ·omega
   ·rename_i h3
    unfold shapeM at h1
    refine ⟨?_,?_,?_,?_,?_,?_,by simpa using h3,?_⟩
    ·grind
    ·grind
    ·grind
    ·grind
    ·intro hk
     have : ¬ 0 < e.locs.length := by grind
     exact List.eq_nil_of_length_eq_zero (by omega)
    ·grind
    ·grind
 ·rw [if_pos h1] at h
  exact absurd h h1
theorem Vd.ok {l : List Ev} (hv : Vd l) {i : Nat} {e : Ev} (h : l[i]? = some e) : EvOk e (fuelAt l i) (actAt l i) := codeM_ok (hv i e h)
end Go.Proofs.YtabmcfnefjipbaaGreatDoor
namespace Go.Proofs.YtabmcfnefjipbaaGreatDoor
open Go.RowKit
def cmdM (d : Int) (bs : List Bp) (c : ByteArray) : Option (Int × (Ev → Bool)) :=
 if c = stepK then some (1,fun _ => true)
 else if c = overK then some (1,fun e => decide (d = 0) || decide (e.depth ≤ d))
 else if c = outK' then some (1,fun e => decide (d = 0) || decide (e.depth < d))
 else if c = goK then some (1,fun e => bs.any (hitB e))
 else if c = backK then some (-1,fun _ => true)
 else if c = underK then some (-1,fun e => decide (d = 0) || decide (e.depth ≤ d))
 else if c = rewindK then some (-1,fun e => bs.any (hitB e)) else none
def cmdV (d : Int) (bv : V) (c : ByteArray) : Option (List V) :=
 if c = stepK then some [.int .i64 1,fnAny]
 else if c = overK then some [.int .i64 1,fnLev d]
 else if c = outK' then some [.int .i64 1,fnAbv d]
 else if c = goK then some [.int .i64 1,fnMrk bv]
 else if c = backK then some [.int .i64 (-1),fnAny]
 else if c = underK then some [.int .i64 (-1),fnLev d]
 else if c = rewindK then some [.int .i64 (-1),fnMrk bv] else none
abbrev zMot : List V := [.int .i64 0,.v .nilFunc]
theorem motE_lit (d : Int) (bv : V) : motE d bv = [([.str stepK],[.int .i64 1,fnAny]),([.str overK],[.int .i64 1,fnLev d]),([.str outK'],[.int .i64 1,fnAbv d]),([.str goK],[.int .i64 1,fnMrk bv]),([.str backK],[.int .i64 (-1),fnAny]),([.str underK],[.int .i64 (-1),fnLev d]),([.str rewindK],[.int .i64 (-1),fnMrk bv])] := by
 have n : ∀ a b : ByteArray,a ≠ b → eqCs [.str a] [.str b] = false := fun a b h => by simp [eqCs,eqC,h]
 unfold motE
 simp only [mputT,n overK stepK (by decide),n outK' stepK (by decide),n outK' overK (by decide),n goK stepK (by decide),n goK overK (by decide),n goK outK' (by decide),n backK stepK (by decide),n backK overK (by decide),n backK outK' (by decide),n backK goK (by decide),n underK stepK (by decide),n underK overK (by decide),n underK outK' (by decide),n underK goK (by decide),n underK backK (by decide),n rewindK stepK (by decide),n rewindK overK (by decide),n rewindK outK' (by decide),n rewindK goK (by decide),n rewindK backK (by decide),n rewindK underK (by decide),cond_false]
theorem motE_get (d : Int) (bv : V) (c : ByteArray) (z : List V) : mgetT (motE d bv) [.str c] z = (cmdV d bv c).getD z ∧ mhasT (motE d bv) [.str c] = (cmdV d bv c).isSome := by
 have q : ∀ a : ByteArray,eqCs [.str c] [.str a] = decide (c = a) := fun a => by
  simp only [eqCs,eqC]
  by_cases h : c = a <;> simp [h]
 rw [motE_lit]
 simp only [mgetT,mhasT,q]
 unfold cmdV
 by_cases h1 : c = stepK
 ·simp [h1]
 by_cases h2 : c = overK
 ·simp [h1,h2]
 by_cases h3 : c = outK'
 ·simp [h1,h2,h3]
 by_cases h4 : c = goK
 ·simp [h1,h2,h3,h4]
 by_cases h5 : c = backK
 ·simp [h1,h2,h3,h4,h5]
 by_cases h6 : c = underK
 ·simp [h1,h2,h3,h4,h5,h6]
 by_cases h7 : c = rewindK
 ·simp [h1,h2,h3,h4,h5,h6,h7]
 ·simp [h1,h2,h3,h4,h5,h6,h7]
theorem cmd_move {l : List Ev} {bs : List Bp} {bv : V} {p : Int} {c : ByteArray} {s : Int} {g : Ev → Bool} (hp : -1 ≤ p ∧ p ≤ (l.length : Int)) (hL : l.length ≤ 20000) (hmk : ∀ e ∈ l,CallsA Tryz.prog 89 [.a e.ds,.d (.q [bv] 0)] [] (Is (db (bs.any (hitB e))))) (hc : cmdM (depM l p) bs c = some (s,g)) :
  ∃ fv,cmdV (depM l p) bv c = some [.int .i64 s,fv] ∧ (s = 1 ∨ s = -1) ∧ CallsA Tryz.prog 55 [.d (.u (evs l)),di p,.a [.u (.int .i64 s),.u fv]] [] (Is (di (mvM g l s (p + s)))) := by
 unfold cmdM at hc
 unfold cmdV
 generalize depM l p = d at *
 split at hc
 ·rename_i h;injection hc with hc;injection hc with h1 h2;subst h1 h2
  exact ⟨_,by rw [if_pos h],.inl rfl,moveN (.inl rfl) hp hL fun e _ => any_T e⟩
 split at hc
 ·rename_i h0 h;injection hc with hc;injection hc with h1 h2;subst h1 h2
  exact ⟨_,by rw [if_neg h0,if_pos h],.inl rfl,moveC (.inl rfl) hp hL fun e _ => lev_T d e⟩
 split at hc
 ·rename_i h0 h1' h;injection hc with hc;injection hc with h1 h2;subst h1 h2
  exact ⟨_,by rw [if_neg h0,if_neg h1',if_pos h],.inl rfl,moveC (.inl rfl) hp hL fun e _ => abv_T d e⟩
 split at hc
 ·rename_i h0 h1' h2' h;injection hc with hc;injection hc with h1 h2;subst h1 h2
  exact ⟨_,by rw [if_neg h0,if_neg h1',if_neg h2',if_pos h],.inl rfl,moveC (.inl rfl) hp hL fun e q => hmk e q⟩
 split at hc
 ·rename_i h0 h1' h2' h3' h;injection hc with hc;injection hc with h1 h2;subst h1 h2
  exact ⟨_,by rw [if_neg h0,if_neg h1',if_neg h2',if_neg h3',if_pos h],.inr rfl,moveN (.inr rfl) hp hL fun e _ => any_T e⟩
 split at hc
 ·rename_i h0 h1' h2' h3' h4' h;injection hc with hc;injection hc with h1 h2;subst h1 h2
  exact ⟨_,by rw [if_neg h0,if_neg h1',if_neg h2',if_neg h3',if_neg h4',if_pos h],.inr rfl,moveC (.inr rfl) hp hL fun e _ => lev_T d e⟩
 split at hc
 ·rename_i h0 h1' h2' h3' h4' h5' h;injection hc with hc;injection hc with h1 h2;subst h1 h2
  exact ⟨_,by rw [if_neg h0,if_neg h1',if_neg h2',if_neg h3',if_neg h4',if_neg h5',if_pos h],.inr rfl,moveC (.inr rfl) hp hL fun e q => hmk e q⟩
 ·cases hc
theorem cmd_none {d : Int} {bs : List Bp} {bv : V} {c : ByteArray} (hc : cmdM d bs c = none) : cmdV d bv c = none := by
 unfold cmdM at hc
 unfold cmdV
 (repeat' split at hc) <;> first | (cases hc;done) | simp_all
def posM (l : List Ev) (p : Int) : Int × Int := if (validM l).1 ≠ 0 then validM l else if p < -1 ∨ (l.length : Int) < p then (4,-2) else (0,0)
theorem position_T (l : List Ev) (p : Int) : CallsA Tryz.prog 53 [.d (.u (evs l)),di p] [] (Is (dfa (posM l p).1 (posM l p).2)) := by
 have hv := validate_T l
 unfold posM
 generalize validM l = v at *
 obtain ⟨c,i⟩ := v
 dsimp only at *
 by_cases h0 : c = 0
 ·subst h0
  rw [if_neg (by simp)]
  by_cases h1 : p < -1 ∨ (l.length : Int) < p
  ·rw [if_pos h1]
   refine callsA_of_vc (T := tt) Tryz.func53 rfl rfl rfl rfl rfl ?_
   repeat' ((conv => whnf);first | refine Gs.id ?_ | with_reducible refine Brn.T rfl ?_ | with_reducible refine Brn.F rfl ?_ | refine Brn.T (by (try simp only [smT]);first | rfl | assumption | omega | fail) ?_ | refine Brn.F (by (try simp only [smT]);first | rfl | assumption | fail) ?_ | (refine Brn.mk (fun hb => ?_) (fun hb => ?_) <;> (try simp only [smT] at hb) <;> (try (exact absurd trivial hb)) <;> (try (exfalso;omega))) | (refine Bnd.mk (fun hm => ?_);(try simp only [smT] at hm)) | (refine CL.mk (Or.inl ?_);(conv => whnf);refine Cl.is (hv) rfl (by first | exact fun _ => rfl | fail) ?_) | fail)
   all_goals (conv => whnf)
   all_goals first | exact Ret.is rfl | (exfalso;simp at *;omega)
  ·rw [if_neg h1]
   refine callsA_of_vc (T := tt) Tryz.func53 rfl rfl rfl rfl rfl ?_
   repeat' ((conv => whnf);first | refine Gs.id ?_ | with_reducible refine Brn.F rfl ?_ | refine Brn.F (by (try simp only [smT]);first | rfl | omega | fail) ?_ | (refine Bnd.mk (fun hm => ?_);(try simp only [smT] at hm)) | (refine CL.mk (Or.inl ?_);(conv => whnf);refine Cl.is (hv) rfl (by first | exact fun _ => rfl | fail) ?_) | fail)
   all_goals (conv => whnf)
   all_goals first | exact Ret.is rfl | (exfalso;simp at *;omega)
 ·rw [if_pos h0]
  refine callsA_of_vc (T := tt) Tryz.func53 rfl rfl rfl rfl rfl ?_
  repeat' ((conv => whnf);first | refine Gs.id ?_ | refine Brn.T (by (try simp only [smT]);first | rfl | assumption | fail) ?_ | (refine CL.mk (Or.inl ?_);(conv => whnf);refine Cl.is (hv) rfl (by first | exact fun _ => rfl | fail) ?_) | fail)
  all_goals (conv => whnf)
  all_goals first | exact Ret.is rfl | (exfalso;simp at *;omega)
def moveM (l : List Ev) (bs : List Bp) (p : Int) (c : ByteArray) : Int × (Int × Int) :=
 if (validM l).1 ≠ 0 then (0,validM l)
 else if (validB bs).1 ≠ 0 then (0,((validB bs).1,(validB bs).2 + 100000))
 else if (posM l p).1 ≠ 0 then (0,posM l p)
 else match cmdM (depM l p) bs c with
  | some (s,g) => (mvM g l s (p + s),(0,0))
  | none => (0,(7,-3))
theorem validB_len {bs : List Bp} (h : (validB bs).1 = 0) : bs.length ≤ 50 := by
 unfold validB at h
 split at h
 ·cases h
 ·omega
theorem validB_rng : ∀ (bs : List Bp),-1 ≤ (validB bs).2 ∧ (validB bs).2 ≤ 50 := by
 intro bs
 unfold validB
 split
 ·exact ⟨Int.le_refl _,by decide⟩
 ·rename_i h
  have go : ∀ (l : List Bp) (i : Nat) (bf : List Bp),i + l.length ≤ 50 → -1 ≤ (bFrom i bf l).2 ∧ (bFrom i bf l).2 ≤ 50 := by
   intro l
   induction l with
   | nil => intro i bf _;exact ⟨by simp [bFrom],by simp [bFrom]⟩
   | cons b r ih =>
    intro i bf hi
    rw [List.length_cons] at hi
    rw [bFrom]
    split
    ·dsimp only;omega
    ·exact ih (i + 1) _ (by omega)
  exact go bs 0 [] (by omega)
set_option maxHeartbeats 2000000 in
theorem move_T (l : List Ev) (bs : List Bp) (p : Int) (c : ByteArray) (he : ∀ e ∈ l,e.locs.length ≤ 9000000000) : CallsA Tryz.prog 17 [.d (.u (evs l)),.d (.u (bks bs)),di p,dsr c] [] (Is (.t [.d (.u (.int .i64 (moveM l bs p c).1)),.a [.u (.int .i64 (moveM l bs p c).2.1),.u (.int .i64 (moveM l bs p c).2.2)]])) := by
 have h1 := validate_T l
 have h2 := validateB_T bs
 have h3 := position_T l p
 have hr := validB_rng bs
 unfold moveM
 by_cases v1 : (validM l).1 = 0
 ·rw [if_neg (by simpa using v1)]
  have hL := (valid_Vd v1).2
  by_cases v2 : (validB bs).1 = 0
  ·rw [if_neg (by simpa using v2)]
   have hb := validB_len v2
   by_cases v3 : (posM l p).1 = 0
   ·rw [if_neg (by simpa using v3)]
    have hp : -1 ≤ p ∧ p ≤ (l.length : Int) := by
     unfold posM at v3
     rw [if_neg (by simpa using v1)] at v3
     split at v3
     ·cases v3
     ·omega
    have hmo := motions_T l bs p hp
    obtain ⟨m1,m2⟩ := motE_get (depM l p) (bks bs) c zMot
    have hok := motE_ok (depM l p) (bks bs)
    cases hc : cmdM (depM l p) bs c with
    | none =>
     rw [cmd_none hc] at m1 m2
     generalize validM l = a1 at *
     generalize validB bs = a2 at *
     generalize posM l p = a3 at *
     obtain ⟨a1,b1⟩ := a1
     obtain ⟨a2,b2⟩ := a2
     obtain ⟨a3,b3⟩ := a3
     dsimp only at *
     subst v1 v2 v3
     refine callsA_of_vc (T := tt) Tryz.func17 rfl rfl rfl rfl rfl ?_
     repeat' ((conv => whnf);first | refine Mlk.of zMot false (by kernel_rfl) hok m1 m2 ?_ | refine Gs.id ?_ | with_reducible refine Brn.T rfl ?_ | with_reducible refine Brn.F rfl ?_ | (refine CL.mk (Or.inl ?_);(conv => whnf);first | refine Cl.is (h1) rfl (by first | exact fun _ => rfl | fail) ?_ | refine Cl.is (h2) rfl (by first | exact fun _ => rfl | fail) ?_ | refine Cl.is (h3) rfl (by first | exact fun _ => rfl | fail) ?_) | (refine CL.mk (Or.inr (Raw.callI [] [920] rfl rfl rfl rfl rfl rfl rfl (hmo) ?_));rintro _ _ ⟨rfl,rfl⟩;refine Bk.mk rfl rfl ?_))
     all_goals (conv => whnf)
     all_goals exact Ret.is rfl
    | some sg =>
     obtain ⟨s,g⟩ := sg
     obtain ⟨fv,q1,q2,q3⟩ := cmd_move hp hL (fun e q => mrk_T bs e (he e q) (by omega)) hc
     rw [q1] at m1 m2
     generalize validM l = a1 at *
     generalize validB bs = a2 at *
     generalize posM l p = a3 at *
     obtain ⟨a1,b1⟩ := a1
     obtain ⟨a2,b2⟩ := a2
     obtain ⟨a3,b3⟩ := a3
     dsimp only at *
     subst v1 v2 v3
     refine callsA_of_vc (T := tt) Tryz.func17 rfl rfl rfl rfl rfl ?_
     repeat' ((conv => whnf);first | refine Mlk.of [.int .i64 s,fv] true (by kernel_rfl) hok m1 m2 ?_ | refine Gs.id ?_ | with_reducible refine Brn.F rfl ?_ | (refine CL.mk (Or.inl ?_);(conv => whnf);first | refine Cl.is (h1) rfl (by first | exact fun _ => rfl | fail) ?_ | refine Cl.is (h2) rfl (by first | exact fun _ => rfl | fail) ?_ | refine Cl.is (h3) rfl (by first | exact fun _ => rfl | fail) ?_ | refine Cl.is (q3) rfl (by first | exact fun _ => rfl | fail) ?_) | (refine CL.mk (Or.inr (Raw.callI [] [920] rfl rfl rfl rfl rfl rfl rfl (hmo) ?_));rintro _ _ ⟨rfl,rfl⟩;refine Bk.mk rfl rfl ?_))
     all_goals (conv => whnf)
     all_goals exact Ret.is rfl
   ·rw [if_pos v3]
    have v3' := v3
    generalize validM l = a1 at *
    generalize validB bs = a2 at *
    generalize posM l p = a3 at *
    obtain ⟨a1,b1⟩ := a1
    obtain ⟨a2,b2⟩ := a2
    obtain ⟨a3,b3⟩ := a3
    dsimp only at *
    subst v1 v2
    refine callsA_of_vc (T := tt) Tryz.func17 rfl rfl rfl rfl rfl ?_
    repeat' ((conv => whnf);first | refine Gs.id ?_ | with_reducible refine Brn.F rfl ?_ | refine Brn.T (by (try simp only [smT]);first | rfl | assumption | fail) ?_ | refine Drw.of (T := tt) (i := 9) [2] [] [(0,true),(1,true),(2,false)] (by kernel_rfl) ?_ | (refine CL.mk (Or.inl ?_);(conv => whnf);first | refine Cl.is (h1) rfl (by first | exact fun _ => rfl | fail) ?_ | refine Cl.is (h2) rfl (by first | exact fun _ => rfl | fail) ?_ | refine Cl.is (h3) rfl (by first | exact fun _ => rfl | fail) ?_) | fail)
    all_goals (conv => whnf)
    all_goals first | exact Ret.is rfl | (exfalso;simp at *;omega)
  ·rw [if_pos v2]
   generalize validM l = a1 at *
   generalize validB bs = a2 at *
   obtain ⟨a1,b1⟩ := a1
   obtain ⟨a2,b2⟩ := a2
   dsimp only at *
   subst v1
   refine callsA_of_vc (T := tt) Tryz.func17 rfl rfl rfl rfl rfl ?_
   repeat' ((conv => whnf);first | refine Gs.id ?_ | with_reducible refine Brn.F rfl ?_ | refine Brn.T (by (try simp only [smT]);first | rfl | assumption | fail) ?_ | refine Rng.mk (by (try simp only [smT]);omega) ?_ | refine Drw.of (T := tt) (i := 6) [7] [] [(0,true),(1,true),(2,true),(3,true),(4,true),(5,true),(6,true),(7,false)] (by kernel_rfl) ?_ | (refine CL.mk (Or.inl ?_);(conv => whnf);first | refine Cl.is (h1) rfl (by first | exact fun _ => rfl | fail) ?_ | refine Cl.is (h2) rfl (by first | exact fun _ => rfl | fail) ?_) | fail)
   all_goals (conv => whnf)
   all_goals first | exact Ret.is rfl | (exfalso;simp at *;omega)
 ·rw [if_pos v1]
  generalize validM l = a1 at *
  obtain ⟨a1,b1⟩ := a1
  dsimp only at *
  refine callsA_of_vc (T := tt) Tryz.func17 rfl rfl rfl rfl rfl ?_
  repeat' ((conv => whnf);first | refine Gs.id ?_ | refine Brn.T (by (try simp only [smT]);first | rfl | assumption | fail) ?_ | refine Drw.of (T := tt) (i := 3) [2] [] [(0,true),(1,true),(2,false)] (by kernel_rfl) ?_ | (refine CL.mk (Or.inl ?_);(conv => whnf);refine Cl.is (h1) rfl (by first | exact fun _ => rfl | fail) ?_) | fail)
  all_goals (conv => whnf)
  all_goals first | exact Ret.is rfl | (exfalso;simp at *;omega)
end Go.Proofs.YtabmcfnefjipbaaGreatDoor
namespace Go.Proofs.YtabmcfnefjipbaaGreatDoor
open Go.RowKit
structure Av where
 md : ByteArray
 fn : ByteArray
 line : Int
 stop : Int
abbrev Av.row (a : Av) : List V := [.str a.md,.str a.fn,.int .i64 a.line,.int .i64 a.stop]
def Av.fu (a : Av) : Fu := (a.md,a.fn)
def setAv (s : List Av) (line : Int) (i : Int) : List Av := match s.getLast? with
 | some a => s.dropLast ++ [⟨a.md,a.fn,line,i⟩]
 | none => s
def stepV (p : Nat) (i : Nat) (s : List Av) (e : Ev) : List Av := if e.kind = 2 then s ++ [⟨e.md,e.fn,e.line,-1⟩] else if e.kind = 1 then setAv s e.line i else if i < p then s.dropLast else s
def avAt (l : List Ev) (p : Nat) : Nat → List Av
 | 0 => []
 | i + 1 => match l[i]? with
  | some e => stepV p i (avAt l p i) e
  | none => avAt l p i
theorem avAt_succ {l : List Ev} {p i : Nat} {e : Ev} (h : l[i]? = some e) : avAt l p (i + 1) = stepV p i (avAt l p i) e := by rw [avAt,h]
theorem setAv_fu (s : List Av) (n i : Int) : (setAv s n i).map Av.fu = s.map Av.fu := by
 unfold setAv
 rcases List.eq_nil_or_concat s with rfl | ⟨L,a,rfl⟩
 ·rfl
 ·simp [Av.fu]
theorem avAt_fu {l : List Ev} (hv : Vd l) {p : Nat} : ∀ i,i ≤ p → i ≤ l.length → (avAt l p i).map Av.fu = actAt l i
 | 0,_,_ => rfl
 | i + 1,hip,hi => by
  have he : l[i]? = some l[i] := List.getElem?_eq_getElem (by omega)
  have ok := hv.ok he
  have k1 := ok.k1
  have ih := avAt_fu hv (p := p) i (by omega) (by omega)
  rw [avAt_succ he,actAt_succ he,stepV,actM,pushM]
  by_cases h2 : l[i].kind = 2
  ·rw [if_pos h2,if_pos h2,if_neg (by omega),List.map_append,ih];rfl
  ·rw [if_neg h2,if_neg h2]
   by_cases h1 : l[i].kind = 1
   ·rw [if_pos h1,if_neg (by omega),setAv_fu,ih]
   ·rw [if_neg h1,if_pos (by omega),if_pos (by omega),List.map_dropLast,ih]
theorem avAt_len {l : List Ev} {p : Nat} : ∀ i,(avAt l p i).length ≤ i
 | 0 => Nat.le_refl _
 | i + 1 => by
  have ih := avAt_len (l := l) (p := p) i
  rw [avAt]
  split
  ·unfold stepV
   split
   ·simp;omega
   ·split
    ·have := congrArg List.length (setAv_fu (avAt l p i) (by assumption : Ev).line i)
     simp only [List.length_map] at this
     omega
    ·split
     ·simp;omega
     ·omega
  ·omega
def activeM (l : List Ev) (p : Int) : List Av := if p < 0 ∨ p = (l.length : Int) then [] else avAt l p.toNat (p.toNat + 1)
abbrev avs (s : List Av) : V := .sl 4 (s.map Av.row)
set_option maxHeartbeats 4000000 in
theorem active_T {l : List Ev} (hv : Vd l) (hL : l.length ≤ 20000) (p : Int) (hp : -1 ≤ p ∧ p ≤ (l.length : Int)) : CallsA Tryz.prog 60 [.d (.u (evs l)),di p] [] (Is (.d (.u (avs (activeM l p))))) := by
 by_cases h1 : p < 0
 ·have e : activeM l p = [] := by rw [activeM,if_pos (.inl h1)]
  rw [e]
  refine callsA_of_vc (T := tt) Tryz.func60 rfl rfl rfl rfl rfl ?_
  repeat' ((conv => whnf);first | refine Gs.id ?_ | with_reducible refine Brn.T rfl ?_ | refine Brn.T (by (try simp only [smT]);first | rfl | assumption | fail) ?_ | fail)
  all_goals (conv => whnf)
  all_goals first | exact Ret.nl (by repeat (first | exact NlD.u (NlV.nl (by first | rfl | fail)) | refine NlS.d ?_ | fail)) | (exfalso;simp at *;omega)
 ·by_cases h2 : p = (l.length : Int)
  ·have e : activeM l p = [] := by rw [activeM,if_pos (.inr h2)]
   rw [e]
   refine callsA_of_vc (T := tt) Tryz.func60 rfl rfl rfl rfl rfl ?_
   repeat' ((conv => whnf);first | refine Gs.id ?_ | refine Brn.T (by (try simp only [smT]);first | rfl | assumption | fail) ?_ | refine Brn.F (by (try simp only [smT]);first | rfl | omega | fail) ?_ | (refine Bnd.mk (fun hm => ?_);(try simp only [smT] at hm)) | fail)
   all_goals (conv => whnf)
   all_goals first | exact Ret.nl (by repeat (first | exact NlD.u (NlV.nl (by first | rfl | fail)) | refine NlS.d ?_ | fail)) | (exfalso;simp at *;omega)
  ·obtain ⟨m,rfl⟩ : ∃ m : Nat,p = m := ⟨p.toNat,by omega⟩
   have hml : m < l.length := by omega
   have e : activeM l m = avAt l m (m + 1) := by rw [activeM,if_neg (by omega),Int.toNat_natCast]
   rw [e]
   refine callsA_of_vc (T := tt) Tryz.func60 rfl rfl rfl rfl rfl ?_
   repeat' ((conv => whnf);first | refine Slc.mk ⟨0,m + 1,rfl,by simp,by omega,by simp;omega,?_⟩ | refine Gs.id ?_ | with_reducible refine Brn.F rfl ?_ | refine Brn.F (by (try simp only [smT]);first | rfl | assumption | fail) ?_ | (refine Bnd.mk (fun hm => ?_);(try simp only [smT] at hm)) | refine Rng.mk (by (try simp only [smT]);omega) ?_ | fail)
   all_goals (conv => whnf)
   have htl : ((l.map Ev.row).take (m + 1)).length = m + 1 := by rw [List.length_take,List.length_map];omega
   refine ⟨⟨Nat,fun i => i ≤ m + 1,fun i => m + 1 - i,fun i => ⟨[(1,di m),(5,.d (.ow 900 (avAt l m i).length)),(20,.d (.u (.sl 8 ((l.map Ev.row).take (m + 1))))),(21,di ((l.map Ev.row).take (m + 1)).length),(22,di i)],[(900,.ar 164 4 ((avAt l m i).map Av.row))]⟩,0,Nat.zero_le _,⟨[(900,.n 4)],⟨by (try dsimp only);(repeat (refine LeT.cons rfl (by first | exact LeS.d (by first | exact LeD.u rfl | exact LeD.no rfl rfl | fail) | fail) ?_));exact LeT.nil,by (try dsimp only);repeat (first | exact LeO.nil | refine LeO.no rfl rfl ?_)⟩⟩,fun i hi => ?_⟩⟩
   dsimp only at hi ⊢
   by_cases h9 : i < m + 1
   ·have he : l[i]? = some l[i] := List.getElem?_eq_getElem (by omega)
    have hrow : ∀ {K : List V → Prop} {j : Int},j = (i : Int) → K (l[i]).row → Ix ((l.map Ev.row).take (m + 1)) j K := fun h k => ⟨⟨i,(l[i]).row,h,by rw [List.getElem?_take,if_pos h9,List.getElem?_map,he];rfl,k⟩⟩
    have hst := avAt_succ (p := m) he
    have hfu := avAt_fu hv (p := m) i (by omega) (by omega)
    have hle := avAt_len (l := l) (p := m) i
    have ok := hv.ok he
    have k1 := ok.k1
    have hlast := ok.last
    clear ok
    generalize l[i] = e at *
    unfold pushM at hlast
    unfold stepV at hst
    by_cases hk2 : e.kind = 2
    ·rw [if_pos hk2] at hst
     clear hfu hlast
     generalize avAt l m i = s at *
     repeat' ((conv => whnf);first | refine hrow rfl ?_ | refine Gs.id ?_ | refine Brn.T (by (try simp only [smT]);first | rfl | assumption | omega | fail) ?_ | (refine Bnd.mk (fun hm => ?_);(try simp only [smT] at hm)) | refine Rng.mk (by (try simp only [smT]);omega) ?_ | refine Apd.mk (by first | rfl | simp) (by first | rfl | fail) (by (try simp only [smT]);first | omega | fail) (by unfold maxLen;first | (simp;omega) | fail) ?_ | fail)
     all_goals (conv => whnf)
     all_goals first | (exfalso;simp_all;done) | exact ⟨i + 1,by omega,by omega,[(900,.k 50)],by (rw [hst];exact ⟨by (try dsimp only);(repeat (refine LeT.cons rfl (by first | exact LeS.d (by first | exact LeD.u rfl | exact LeD.ow rfl (by simp) | fail) | fail) ?_));exact LeT.nil,by (try dsimp only);repeat (first | exact LeO.nil | refine LeO.ar rfl rfl (by first | simp) ?_ | fail)⟩)⟩
    ·rw [if_neg hk2] at hst hlast
     rw [← hfu] at hlast
     clear hfu
     generalize avAt l m i = s at *
     rcases List.eq_nil_or_concat s with rfl | ⟨L,a,rfl⟩
     ·simp at hlast
     ·rw [List.concat_eq_append] at *
      clear hlast
      have hlen : (((L ++ [a]).length : Nat) : Int) = (L.length : Int) + 1 := by simp
      by_cases hk1 : e.kind = 1
      ·rw [if_pos hk1,setAv] at hst
       simp only [List.getLast?_append,List.getLast?_singleton,Option.some_or,List.dropLast_concat] at hst
       have hget : ((L ++ [a]).map Av.row)[L.length]? = some a.row := by simp
       have hget2 : (((L ++ [a]).map Av.row).set L.length [.str a.md,.str a.fn,.int .i64 e.line,.int .i64 a.stop])[L.length]? = some [.str a.md,.str a.fn,.int .i64 e.line,.int .i64 a.stop] := by simp
       have hrows : (((L ++ [a]).map Av.row).set L.length [.str a.md,.str a.fn,.int .i64 e.line,.int .i64 a.stop]).set L.length [.str a.md,.str a.fn,.int .i64 e.line,.int .i64 (i : Int)] = (L ++ [(⟨a.md,a.fn,e.line,i⟩ : Av)]).map Av.row := by simp
       repeat' ((conv => whnf);first | refine hrow rfl ?_ | refine Ixo.mk ⟨L.length,by simp,by simp,?_⟩ | refine Rw.get hget ?_ | refine Rw.get hget2 ?_ | refine Gs.id ?_ | refine Brn.T (by (try simp only [smT]);first | rfl | assumption | omega | fail) ?_ | refine Brn.F (by (try simp only [smT]);first | rfl | assumption | fail) ?_ | (refine Bnd.mk (fun hm => ?_);(try simp only [smT] at hm)) | refine Rng.mk (by (try simp only [smT]);omega) ?_ | fail)
       all_goals (conv => whnf)
       all_goals first | (exfalso;simp_all;done) | exact ⟨i + 1,by omega,by omega,[(900,.k 900)],by (rw [hst,← hrows];exact ⟨by (try dsimp only);(repeat (refine LeT.cons rfl (by first | exact LeS.d (by first | exact LeD.u rfl | exact LeD.ow rfl (by simp) | fail) | fail) ?_));exact LeT.nil,by (try dsimp only);repeat (first | exact LeO.nil | refine LeO.ar rfl rfl (by first | rfl | fail) ?_ | fail)⟩)⟩
      ·rw [if_neg hk1] at hst
       by_cases him : i < m
       ·rw [if_pos him,List.dropLast_concat] at hst
        repeat' ((conv => whnf);first | refine hrow rfl ?_ | refine Slc.mk ⟨0,L.length,rfl,by simp,by omega,by simp,?_⟩ | refine Gs.go (i := 15) (Ghost.trunc 900 L.length rfl (by simp) (show _ = L.map Av.row by simp)) ?_ | refine Gs.id ?_ | refine Brn.T (by (try simp only [smT]);first | rfl | omega | fail) ?_ | refine Brn.F (by (try simp only [smT]);first | rfl | assumption | fail) ?_ | (refine Bnd.mk (fun hm => ?_);(try simp only [smT] at hm)) | refine Rng.mk (by (try simp only [smT]);omega) ?_ | fail)
        all_goals (conv => whnf)
        all_goals first | (exfalso;simp_all;done) | (exfalso;omega) | exact ⟨i + 1,by omega,by omega,[(900,.k 900)],by (rw [hst];exact ⟨by (try dsimp only);(repeat (refine LeT.cons rfl (by first | exact LeS.d (by first | exact LeD.u rfl | exact LeD.ow rfl rfl | fail) | fail) ?_));exact LeT.nil,by (try dsimp only);repeat (first | exact LeO.nil | refine LeO.ar rfl rfl (by first | rfl | fail) ?_ | fail)⟩)⟩
       ·rw [if_neg him] at hst
        repeat' ((conv => whnf);first | refine hrow rfl ?_ | refine Gs.id ?_ | refine Brn.T (by (try simp only [smT]);first | rfl | omega | fail) ?_ | refine Brn.F (by (try simp only [smT]);first | rfl | assumption | omega | fail) ?_ | (refine Bnd.mk (fun hm => ?_);(try simp only [smT] at hm)) | refine Rng.mk (by (try simp only [smT]);omega) ?_ | fail)
        all_goals (conv => whnf)
        all_goals first | (exfalso;simp_all;done) | (exfalso;omega) | exact ⟨i + 1,by omega,by omega,[(900,.k 900)],by (rw [hst];exact ⟨by (try dsimp only);(repeat (refine LeT.cons rfl (by first | exact LeS.d (by first | exact LeD.u rfl | exact LeD.ow rfl rfl | fail) | fail) ?_));exact LeT.nil,by (try dsimp only);repeat (first | exact LeO.nil | refine LeO.ar rfl rfl (by first | rfl | fail) ?_ | fail)⟩)⟩
   ·obtain rfl : i = m + 1 := by omega
    repeat' ((conv => whnf);first | refine Gs.id ?_ | refine Brn.F (by (try simp only [smT]);first | rfl | omega | fail) ?_ | refine Len.mk (by first | rfl | (simp;done) | fail) ?_ | fail)
    all_goals (conv => whnf)
    all_goals first | exact Ret.is rfl | exact Ret.nl (by repeat (fail))
end Go.Proofs.YtabmcfnefjipbaaGreatDoor
namespace Go.Proofs.YtabmcfnefjipbaaGreatDoor
open Go.RowKit
structure Pc where
 md : ByteArray
 fn : ByteArray
 line : Int
abbrev Pc.row (a : Pc) : List V := [.str a.md,.str a.fn,.int .i64 a.line]
abbrev Pc.ds (a : Pc) : List D := [.u (.str a.md),.u (.str a.fn),.u (.int .i64 a.line)]
def Av.pc (a : Av) : Pc := ⟨a.md,a.fn,a.line⟩
abbrev pcs (s : List Pc) : V := .sl 3 (s.map Pc.row)
theorem places_T (s : List Av) (hs : s.length ≤ 1000000) : CallsA Tryz.prog 59 [.d (.u (avs s))] [] (Is (.d (.u (pcs (s.map Av.pc))))) := by
 refine callsA_of_vc (T := tt) Tryz.func59 rfl rfl rfl rfl rfl ?_
 repeat' ((conv => whnf);first | refine Gs.id ?_ | (refine Bnd.mk (fun hm => ?_);(try simp only [smT] at hm)) | fail)
 all_goals (conv => whnf)
 refine ⟨⟨Nat,fun i => i ≤ s.length,fun i => s.length - i,fun i => ⟨[(3,.d (.ow 900 (s.take i).length)),(6,.d (.u (avs s))),(7,di s.length),(8,di i)],[(900,.ar 112 3 (((s.take i).map Av.pc).map Pc.row))]⟩,0,Nat.zero_le _,⟨[(900,.n 3)],⟨by (try dsimp only);(repeat (refine LeT.cons rfl (by first | exact LeS.d (by first | exact LeD.u rfl | exact LeD.no rfl rfl | exact LeD.u (by simp;done) | fail) | fail) ?_));exact LeT.nil,by (try dsimp only);repeat (first | exact LeO.nil | refine LeO.no rfl rfl ?_)⟩⟩,fun i hi => ?_⟩⟩
 dsimp only at hi ⊢
 by_cases h9 : i < s.length
 ·have he : s[i]? = some s[i] := List.getElem?_eq_getElem h9
  have hrow : ∀ {K : List V → Prop},K (s[i]).row → Ix (s.map Av.row) (i : Int) K := fun k => Ix.map rfl h9 k
  have htk : s.take (i + 1) = s.take i ++ [s[i]] := by rw [List.take_add_one,he];rfl
  generalize s[i] = a at *
  repeat' ((conv => whnf);first | refine hrow ?_ | refine Gs.id ?_ | refine Brn.T (by (try simp only [smT]);first | rfl | omega | fail) ?_ | refine Rng.mk (by (try simp only [smT]);omega) ?_ | refine Apd.mk (by first | rfl | simp) (by first | rfl | fail) (by (try simp only [smT]);first | omega | fail) (by unfold maxLen;first | (simp;omega) | fail) ?_ | fail)
  all_goals (conv => whnf)
  all_goals exact ⟨i + 1,by omega,by omega,[(900,.k 16)],by (rw [htk];exact ⟨by (try dsimp only);(repeat (refine LeT.cons rfl (by first | exact LeS.d (by first | exact LeD.u rfl | exact LeD.ow rfl (by simp [Av.pc]) | fail) | fail) ?_));exact LeT.nil,by (try dsimp only);repeat (first | exact LeO.nil | refine LeO.ar rfl rfl (by first | simp [Av.pc]) ?_ | fail)⟩)⟩
 ·obtain rfl : i = s.length := by omega
  rw [List.take_length]
  repeat' ((conv => whnf);first | refine Gs.id ?_ | refine Brn.F (by (try simp only [smT]);first | rfl | omega | fail) ?_ | refine Len.mk (by first | rfl | (simp;done) | fail) ?_ | fail)
  all_goals (conv => whnf)
  all_goals first | exact Ret.is rfl | exact Ret.nl (by repeat (fail))
theorem activeM_len {l : List Ev} {p : Int} (hp : -1 ≤ p ∧ p ≤ (l.length : Int)) : (activeM l p).length ≤ l.length + 1 := by
 unfold activeM
 split
 ·simp
 ·have := avAt_len (l := l) (p := p.toNat) (p.toNat + 1)
  omega
theorem pos_ok {l : List Ev} {p : Int} (h : (posM l p).1 = 0) : (-1 ≤ p ∧ p ≤ (l.length : Int)) ∧ Vd l ∧ l.length ≤ 20000 := by
 unfold posM at h
 split at h
 ·rename_i h1;exact absurd h h1
 ·rename_i h1
  have h1 : (validM l).1 = 0 := by simpa using h1
  split at h
  ·cases h
  ·have := valid_Vd h1
   exact ⟨by omega,this.1,this.2⟩
theorem posM_zero {l : List Ev} {p : Int} (h : (posM l p).1 = 0) : posM l p = (0,0) := by
 unfold posM at h ⊢
 split at h
 ·rename_i h1;exact absurd h h1
 ·rename_i h1
  rw [if_neg h1]
  split at h
  ·cases h
  ·rename_i h2;rw [if_neg h2]
def stackP (l : List Ev) (p : Int) : List Pc := if (posM l p).1 ≠ 0 then [] else (activeM l p).map Av.pc
set_option maxHeartbeats 1000000 in
theorem stackD_T (l : List Ev) (p : Int) : CallsA Tryz.prog 25 [.d (.u (evs l)),di p] [] (Is (.t [.d (.u (pcs (stackP l p))),.a [.u (.int .i64 (posM l p).1),.u (.int .i64 (posM l p).2)]])) := by
 have h1 := position_T l p
 unfold stackP
 by_cases h0 : (posM l p).1 = 0
 ·obtain ⟨hp,hv,hL⟩ := pos_ok h0
  have h2 := active_T hv hL p hp
  have hal := activeM_len hp
  have h3 := places_T (activeM l p) (by omega)
  rw [if_neg (by simpa using h0)]
  rw [posM_zero h0] at h1 ⊢
  generalize activeM l p = s at *
  clear h0
  refine callsA_of_vc (T := tt) Tryz.func25 rfl rfl rfl rfl rfl ?_
  repeat' ((conv => whnf);first | refine Gs.id ?_ | with_reducible refine Brn.F rfl ?_ | (refine CL.mk (Or.inl ?_);(conv => whnf);first | refine Cl.is (h1) rfl (by first | exact fun _ => rfl | fail) ?_ | refine Cl.is (h2) rfl (by first | (intro e;cases e;done) | fail) ?_ | refine Cl.is (h3) rfl (by first | (intro e;cases e;done) | fail) ?_) | fail)
  all_goals (conv => whnf)
  all_goals exact Ret.is rfl
 ·rw [if_pos h0]
  generalize posM l p = a1 at *
  obtain ⟨a1,b1⟩ := a1
  dsimp only at *
  refine callsA_of_vc (T := tt) Tryz.func25 rfl rfl rfl rfl rfl ?_
  repeat' ((conv => whnf);first | refine Gs.id ?_ | refine Brn.T (by (try simp only [smT]);first | rfl | assumption | fail) ?_ | refine Drw.of (T := tt) (i := 3) [2] [] [(0,true),(1,true),(2,false)] (by kernel_rfl) ?_ | (refine CL.mk (Or.inl ?_);(conv => whnf);refine Cl.is (h1) rfl (by first | exact fun _ => rfl | fail) ?_) | fail)
  all_goals (conv => whnf)
  all_goals first | exact Ret.nl (by repeat (first | exact NlL.nil | exact NlCs.nil | exact NlD.refl | exact NlD.u (NlV.nl (by first | rfl | fail)) | refine NlL.cons ?_ ?_ | refine NlCs.cons ?_ ?_ | refine NlS.t ?_ | refine NlC.a ?_ | refine NlC.d ?_)) | (exfalso;simp at *;omega)
theorem avAt_stop {l : List Ev} {p : Nat} : ∀ i,∀ a ∈ avAt l p i,-1 ≤ a.stop ∧ a.stop < (i : Int)
 | 0,a,h => by simp [avAt] at h
 | i + 1,a,h => by
  have ih := avAt_stop (l := l) (p := p) i
  have old : ∀ b ∈ avAt l p i,-1 ≤ b.stop ∧ b.stop < ((i + 1 : Nat) : Int) := fun b hb => by have := ih b hb;omega
  rw [avAt] at h
  split at h
  ·unfold stepV at h
   split at h
   ·rcases List.mem_append.1 h with h | h
    ·exact old a h
    ·simp at h;subst h;exact ⟨Int.le_refl _,by dsimp only;omega⟩
   ·split at h
    ·unfold setAv at h
     split at h
     ·rcases List.mem_append.1 h with h | h
      ·exact old a (List.dropLast_subset _ h)
      ·simp at h;subst h;exact ⟨by dsimp only;omega,by dsimp only;omega⟩
     ·exact old a h
    ·split at h
     ·exact old a (List.dropLast_subset _ h)
     ·exact old a h
  ·exact old a h
theorem activeM_stop {l : List Ev} {p : Int} (hp : -1 ≤ p ∧ p ≤ (l.length : Int)) : ∀ a ∈ activeM l p,-1 ≤ a.stop ∧ a.stop < (l.length : Int) := by
 intro a h
 unfold activeM at h
 split at h
 ·cases h
 ·have := avAt_stop _ a h
  omega
def showM (l : List Ev) (p : Int) (n : ByteArray) : Option ByteArray := match (activeM l p).getLast? with
 | none => none
 | some a => if a.stop < 0 then none else match l[a.stop.toNat]? with
  | some e => varM n e.locs
  | none => none
set_option maxHeartbeats 1000000 in
theorem show_T {l : List Ev} (hv : Vd l) (hL : l.length ≤ 20000) (he : ∀ e ∈ l,e.locs.length ≤ 9000000000) (p : Int) (hp : -1 ≤ p ∧ p ≤ (l.length : Int)) (n : ByteArray) : CallsA Tryz.prog 61 [.d (.u (evs l)),di p,dsr n] [] (Is (varS (showM l p n))) := by
 have h2 := active_T hv hL p hp
 have hst := activeM_stop hp
 have hal := activeM_len hp
 unfold showM
 generalize activeM l p = s at *
 rcases List.eq_nil_or_concat s with rfl | ⟨L,a,rfl⟩
 ·refine callsA_of_vc (T := tt) Tryz.func61 rfl rfl rfl rfl rfl ?_
  repeat' ((conv => whnf);first | refine Gs.id ?_ | with_reducible refine Brn.T rfl ?_ | (refine Bnd.mk (fun hm => ?_);(try simp only [smT] at hm)) | (refine CL.mk (Or.inl ?_);(conv => whnf);refine Cl.is (h2) rfl (by first | (intro e;cases e;done) | fail) ?_) | fail)
  all_goals (conv => whnf)
  all_goals first | exact Ret.is rfl | (exfalso;simp at *;done)
 ·rw [List.concat_eq_append] at *
  have hlen : (((L ++ [a]).length : Nat) : Int) = (L.length : Int) + 1 := by simp
  have hget : ((L ++ [a]).map Av.row)[L.length]? = some a.row := by simp
  obtain ⟨s1,s2⟩ := hst a (by simp)
  simp only [List.getLast?_append,List.getLast?_singleton,Option.some_or]
  clear hst
  by_cases h0 : a.stop < 0
  ·rw [if_pos h0]
   refine callsA_of_vc (T := tt) Tryz.func61 rfl rfl rfl rfl rfl ?_
   repeat' ((conv => whnf);first | refine (Ix.mk ⟨L.length,a.row,(by simp),hget,?_⟩) | refine Gs.id ?_ | refine Brn.T (by (try simp only [smT]);first | rfl | assumption | fail) ?_ | refine Brn.F (by (try simp only [smT]);first | rfl | omega | fail) ?_ | (refine Bnd.mk (fun hm => ?_);(try simp only [smT] at hm)) | refine Rng.mk (by (try simp only [smT]);omega) ?_ | (refine CL.mk (Or.inl ?_);(conv => whnf);refine Cl.is (h2) rfl (by first | (intro e;cases e;done) | fail) ?_) | fail)
   all_goals (conv => whnf)
   all_goals first | exact Ret.is rfl | (exfalso;simp at *;done) | (exfalso;omega)
  ·rw [if_neg h0]
   obtain ⟨m,hm⟩ : ∃ m : Nat,a.stop = m := ⟨a.stop.toNat,by omega⟩
   have hml : m < l.length := by omega
   have hx : l[m]? = some l[m] := List.getElem?_eq_getElem hml
   have hrow : ∀ {K : List V → Prop} {j : Int},j = (m : Int) → K (l[m]).row → Ix (l.map Ev.row) j K := fun h k => by subst h;exact Ix.map rfl hml k
   have hva := value_T l[m] n (he _ (List.getElem_mem hml))
   rw [hm,Int.toNat_natCast,hx]
   dsimp only
   generalize l[m] = x at *
   generalize varM n x.locs = o at *
   obtain ⟨am,af,al,as'⟩ := a
   dsimp only at *
   subst hm
   refine callsA_of_vc (T := tt) Tryz.func61 rfl rfl rfl rfl rfl ?_
   repeat' ((conv => whnf);first | refine (Ix.mk ⟨L.length,_,(by first | (simp;done) | fail),hget,?_⟩) | refine hrow rfl ?_ | refine Gs.id ?_ | with_reducible refine Brn.F rfl ?_ | refine Brn.F (by (try simp only [smT]);first | rfl | omega | fail) ?_ | (refine Bnd.mk (fun hm => ?_);(try simp only [smT] at hm)) | refine Rng.mk (by (try simp only [smT]);omega) ?_ | (refine CL.mk (Or.inl ?_);(conv => whnf);first | refine Cl.is (h2) rfl (by first | (intro e;cases e;done) | fail) ?_ | refine Cl.is (hva) rfl (by first | exact fun _ => rfl | fail) ?_) | fail)
   all_goals (conv => whnf)
   all_goals first | exact Ret.is rfl | (exfalso;simp at *;done) | (exfalso;omega)
def showP (l : List Ev) (p : Int) (n : ByteArray) : Option ByteArray × (Int × Int) := if (posM l p).1 ≠ 0 then (none,posM l p) else if nameB n = false then (none,(7,-3)) else (showM l p n,(0,0))
set_option maxHeartbeats 1000000 in
theorem showD_T (l : List Ev) (he : ∀ e ∈ l,e.locs.length ≤ 9000000000) (p : Int) (n : ByteArray) : CallsA Tryz.prog 26 [.d (.u (evs l)),di p,dsr n] [] (Is (.t [.d (.u (.str ((showP l p n).1.getD emB))),.d (.u (.bool (showP l p n).1.isSome)),.a [.u (.int .i64 (showP l p n).2.1),.u (.int .i64 (showP l p n).2.2)]])) := by
 have h1 := position_T l p
 have hn := isName_T' n
 unfold showP
 by_cases h0 : (posM l p).1 = 0
 ·obtain ⟨hp,hv,hL⟩ := pos_ok h0
  have h2 := show_T hv hL he p hp n
  rw [if_neg (by simpa using h0)]
  rw [posM_zero h0] at h1
  generalize showM l p n = o at *
  clear h0
  generalize nameB n = b at *
  cases b
  ·rw [if_pos rfl]
   refine callsA_of_vc (T := tt) Tryz.func26 rfl rfl rfl rfl rfl ?_
   repeat' ((conv => whnf);first | refine Gs.id ?_ | with_reducible refine Brn.T rfl ?_ | with_reducible refine Brn.F rfl ?_ | (refine CL.mk (Or.inl ?_);(conv => whnf);first | refine Cl.is (h1) rfl (by first | exact fun _ => rfl | fail) ?_ | refine Cl.is (hn) rfl (by first | exact fun _ => rfl | fail) ?_ | fail) | fail)
   all_goals (conv => whnf)
   all_goals first | exact Ret.is rfl | (exfalso;simp at *;done)
  ·rw [if_neg (by simp)]
   refine callsA_of_vc (T := tt) Tryz.func26 rfl rfl rfl rfl rfl ?_
   repeat' ((conv => whnf);first | refine Gs.id ?_ | with_reducible refine Brn.F rfl ?_ | (refine CL.mk (Or.inl ?_);(conv => whnf);first | refine Cl.is (h1) rfl (by first | exact fun _ => rfl | fail) ?_ | refine Cl.is (hn) rfl (by first | exact fun _ => rfl | fail) ?_ | refine Cl.is (h2) rfl (by first | exact fun _ => rfl | fail) ?_) | fail)
   all_goals (conv => whnf)
   all_goals first | exact Ret.is rfl | (exfalso;simp at *;done)
 ·rw [if_pos h0]
  generalize posM l p = a1 at *
  obtain ⟨a1,b1⟩ := a1
  dsimp only at *
  refine callsA_of_vc (T := tt) Tryz.func26 rfl rfl rfl rfl rfl ?_
  repeat' ((conv => whnf);first | refine Gs.id ?_ | refine Brn.T (by (try simp only [smT]);first | rfl | assumption | fail) ?_ | refine Drw.of (T := tt) (i := 3) [3] [] [(0,true),(1,true),(2,true),(3,false)] (by kernel_rfl) ?_ | (refine CL.mk (Or.inl ?_);(conv => whnf);refine Cl.is (h1) rfl (by first | exact fun _ => rfl | fail) ?_) | fail)
  all_goals (conv => whnf)
  all_goals first | exact Ret.is rfl | (exfalso;simp at *;omega)
end Go.Proofs.YtabmcfnefjipbaaGreatDoor
namespace Go.Proofs.YtabmcfnefjipbaaGreatDoor
open Go.RowKit
def numU (s : ByteArray) : Nat → Int
 | 0 => 0
 | i + 1 => numU s i * 10 + (((s.data[i]?.getD 48).toNat : Int) - 48)
def digsB (s : ByteArray) : Prop := ∀ i,i < s.size → 48 ≤ ((s.data[i]?.getD 48).toNat : Int) ∧ ((s.data[i]?.getD 48).toNat : Int) ≤ 57
theorem numU_bd {s : ByteArray} (h : digsB s) : ∀ i,i ≤ s.size → 0 ≤ numU s i ∧ numU s i < 10 ^ i
 | 0,_ => by simp [numU]
 | i + 1,hi => by
  have ih := numU_bd h i (by omega)
  have hd := h i (by omega)
  rw [numU,Int.pow_succ]
  omega
theorem pow9 {i : Nat} (h : i ≤ 9) : (10 : Int) ^ i ≤ 1000000000 := by
 have h' : i = 0 ∨ i = 1 ∨ i = 2 ∨ i = 3 ∨ i = 4 ∨ i = 5 ∨ i = 6 ∨ i = 7 ∨ i = 8 ∨ i = 9 := by omega
 rcases h' with rfl | rfl | rfl | rfl | rfl | rfl | rfl | rfl | rfl | rfl <;> decide
set_option maxHeartbeats 2000000 in
theorem atoi0_T (s : ByteArray) (h1 : 1 ≤ s.size) (h9 : s.size ≤ 9) (hd : digsB s) : CallsA Tryz.prog 142 [dsr s] [] (Is (.t [.d (.u (.int .i64 (numU s s.size))),.d (.u (.v .nilIface))])) := by
 have hb := numU_bd hd
 have h0 := hd 0 (by omega)
 have e0 : (s[0].toNat : Int) = ((s.data[0]?.getD 48).toNat : Int) := by
  rw [Array.getElem?_eq_getElem (show 0 < s.data.size from h1)];rfl
 generalize hx0 : (s[0].toNat : Int) = x0 at *
 rw [← e0] at h0
 clear e0
 refine callsA_of_vc (T := tt) Tryz.func142 rfl rfl rfl rfl rfl ?_
 repeat' ((conv => whnf);first | (refine Sbx.mk ⟨0,h1,rfl,?_⟩;rw [hx0]) | refine Raw.convBytes (T := tt) rfl rfl rfl rfl rfl rfl rfl rfl ?_ | refine Gs.id ?_ | with_reducible refine Brn.T rfl ?_ | with_reducible refine Brn.F rfl ?_ | refine Brn.T (by (try simp only [smT]);first | rfl | omega | fail) ?_ | refine Brn.F (by (try simp only [smT]);first | rfl | omega | fail) ?_ | (refine Bnd.mk (fun hm => ?_);(try simp only [smT] at hm)) | fail)
 all_goals (conv => whnf)
 all_goals try (exfalso;simp at *;omega)
 refine ⟨⟨Nat,fun i => i ≤ s.size,fun i => s.size - i,fun i => ⟨[(5,dsr s),(6,di (numU s i)),(47,.d (.u (.sl 1 (s.data.toList.map fun b => [V.int .u8 (b.toNat : Int)])))),(48,di s.size),(49,di i)],[]⟩,0,Nat.zero_le _,⟨[],⟨by (try dsimp only);(repeat (refine LeT.cons rfl (by first | exact LeS.d (by first | exact LeD.u rfl | exact LeD.u (by simp [numU];done) | fail) | fail) ?_));exact LeT.nil,by (try dsimp only);repeat (first | exact LeO.nil | fail)⟩⟩,fun i hi => ?_⟩⟩
 dsimp only at hi ⊢
 by_cases h8 : i < s.size
 ·have hdi := hd i h8
  have hbi := hb i (by omega)
  have hbi2 := hb (i + 1) (by omega)
  have hp := pow9 (i := i) (by omega)
  have hst : numU s (i + 1) = numU s i * 10 + (((s.data[i]?.getD 48).toNat : Int) - 48) := rfl
  have hrow : ∀ {K : List V → Prop} {j : Int},j = (i : Int) → K [V.int .u8 ((s.data[i]?.getD 48).toNat : Int)] → Ix (s.data.toList.map fun b => [V.int .u8 (b.toNat : Int)]) j K := fun h k => ⟨⟨i,_,h,by rw [List.getElem?_map,Array.getElem?_toList,Array.getElem?_eq_getElem (show i < s.data.size from h8)];simp [show i < s.data.size from h8],k⟩⟩
  generalize ((s.data[i]?.getD 48).toNat : Int) = b at *
  have hsub : (b - 48) % 256 = b - 48 := by omega
  generalize numU s i = n at *
  clear hb hd
  repeat' ((conv => whnf);first | refine hrow rfl ?_ | refine Raw.subU8 rfl rfl hsub rfl ?_ | refine Raw.convI64 rfl rfl rfl rfl rfl (by omega) (by omega) rfl ?_ | refine Gs.id ?_ | refine Brn.T (by (try simp only [smT]);first | rfl | omega | fail) ?_ | refine Brn.F (by (try simp only [smT]);first | rfl | omega | fail) ?_ | refine Rng.mk (by (try simp only [smT]);omega) ?_ | fail)
  all_goals (conv => whnf)
  all_goals first | (exfalso;simp at *;omega) | exact ⟨i + 1,by omega,by omega,[],by (rw [hst];exact ⟨by (try dsimp only);(repeat (refine LeT.cons rfl (by first | exact LeS.d (by first | exact LeD.u rfl | fail) | fail) ?_));exact LeT.nil,by (try dsimp only);repeat (first | exact LeO.nil | fail)⟩)⟩
 ·obtain rfl : i = s.size := by omega
  have hbi := hb s.size (Nat.le_refl _)
  have hp := pow9 h9
  generalize numU s s.size = n at *
  clear hb hd
  repeat' ((conv => whnf);first | (refine Sbx.mk ⟨0,h1,rfl,?_⟩;rw [hx0]) | refine Gs.id ?_ | refine Brn.F (by (try simp only [smT]);first | rfl | omega | fail) ?_ | fail)
  all_goals (conv => whnf)
  all_goals first | exact Ret.is rfl | (exfalso;simp at *;omega)
theorem atoi_T (s : ByteArray) (h1 : 1 ≤ s.size) (h9 : s.size ≤ 9) (hd : digsB s) : CallsA Tryz.prog 116 [dsr s] [] (Is (.t [.d (.u (.int .i64 (numU s s.size))),.d (.u (.v .nilIface))])) := by
 have h := atoi0_T s h1 h9 hd
 refine callsA_of_vc (T := tt) Tryz.func116 rfl rfl rfl rfl rfl ?_
 repeat' ((conv => whnf);first | refine Raw.neqNil rfl (by kernel_rfl) rfl ?_ | refine Gs.id ?_ | with_reducible refine Brn.F rfl ?_ | (refine CL.mk (Or.inl ?_);(conv => whnf);refine Cl.is (h) rfl (by first | exact fun _ => rfl | fail) ?_) | fail)
 all_goals (conv => whnf)
 all_goals exact Ret.is rfl
end Go.Proofs.YtabmcfnefjipbaaGreatDoor
namespace Go.Proofs.YtabmcfnefjipbaaGreatDoor
open Go.RowKit
section
variable {ρ ρ' : Rho} {z z' : Fz} {k : Nat}
end
section
variable {P : Program} {T : List (Nat × Ty)} [hT : Tys P T] {nt : Nt} {Q : Exit → Act → World → Prop} {c : Cx} {st : St} {tm : List (Nat × Value)} {h : Hs} {ρ : Rho} {G : FG} {ty : TypeId} {pos : String} {af : Array Edge} {gd : Option (Nat × Bool)} {K : Kt}
end
end Go.Proofs.YtabmcfnefjipbaaGreatDoor
namespace Go.Proofs.YtabmcfnefjipbaaGreatDoor
open Go.RowKit
section
variable {P : Program} {T : List (Nat × Ty)} [hT : Tys P T] {nt : Nt} {Q : Exit → Act → World → Prop} {c : Cx} {st : St} {tm : List (Nat × Value)} {h : Hs} {ρ : Rho} {G : FG} {ty : TypeId} {pos : String} {af : Array Edge} {gd : Option (Nat × Bool)} {K : Kt}
end
end Go.Proofs.YtabmcfnefjipbaaGreatDoor
namespace Go.Proofs.YtabmcfnefjipbaaGreatDoor
open Go.RowKit
inductive FrL : List E → List V → Prop
 | nil : FrL [] []
 | v {x : V} {es : List E} {vs : List V} : FrL es vs → FrL (.v x :: es) (x :: vs)
 | os {t sz : Nat} {rr : List (List V)} {es : List E} {vs : List V} : FrL es vs → FrL (.os t sz rr :: es) (.sl sz rr :: vs)
inductive FrR : List (List E) → List (List V) → Prop
 | nil : FrR [] []
 | cons {r : List E} {v : List V} {rs : List (List E)} {vs : List (List V)} : FrL r v → FrR rs vs → FrR (r :: rs) (v :: vs)
section
variable {F : Nat → Prop} {w0 w : World} {hp : List (Nat × Hb)} {ρ : Rho} {G : FG}
end
inductive BorR (ob : List (Nat × Ob)) : D → V → Prop
 | u {x : V} : BorR ob (.u x) x
 | ar {k n t sz : Nat} {rs : List (List V)} : lk k ob = some (.ar t sz rs) → rs.length = n → BorR ob (.ow k n) (.sl sz rs)
 | fa {k n t sz : Nat} {rs : List (List E)} {vs : List (List V)} : lk k ob = some (.fa t sz rs) → rs.length = n → FrR rs vs → BorR ob (.ow k n) (.sl sz vs)
 | rf {k i o sz n u szf e : Nat} {rs : List (List E)} {row : List E} {rr : List (List V)} : lk k ob = some (.fa u szf rs) → rs[i]? = some row → row[o]? = some (.os e sz rr) → rr.length = n → BorR ob (D.r k i o sz n) (.sl sz rr)
inductive BorLR (ob : List (Nat × Ob)) : List D → List D → Prop
 | nil : BorLR ob [] []
 | cons {d : D} {v : V} {r r' : List D} : BorR ob d v → BorLR ob r r' → BorLR ob (d :: r) (.u v :: r')
inductive ArgR (ob : List (Nat × Ob)) (tm : List (Nat × SV)) : List Operand → List SV → Prop
 | nil : ArgR ob tm [] []
 | d {x : Operand} {d : D} {v : V} {r : List Operand} {ss : List SV} : evT tm x = some (.d d) → BorR ob d v → ArgR ob tm r ss → ArgR ob tm (x :: r) (.d (.u v) :: ss)
 | a {x : Operand} {ds ds' : List D} {r : List Operand} {ss : List SV} : evT tm x = some (.a ds) → BorLR ob ds ds' → ArgR ob tm r ss → ArgR ob tm (x :: r) (.a ds' :: ss)
section
variable {P : Program} {T : List (Nat × Ty)} {nt : Nt} {Q : Exit → Act → World → Prop} {c : Cx} {st : St} {tm : List (Nat × Value)} {h : Hs} {ρ : Rho} {G : FG} {ty : TypeId} {pos : String} {af : Array Edge} {gd : Option (Nat × Bool)} {K : Kt} {w : World}
end
end Go.Proofs.YtabmcfnefjipbaaGreatDoor
namespace Go.Proofs.YtabmcfnefjipbaaGreatDoor
open Go.RowKit
inductive OF where
 | nil
 | alt (i : Nat) (s r : OF)
 | fst (i : Nat) (s : OF)
def OF.heads : OF → List Nat
 | .nil => []
 | .alt i _ r => i :: r.heads
 | .fst _ _ => []
def OF.depth : OF → Nat
 | .nil => 0
 | .alt _ s r => max (s.depth + 1) r.depth
 | .fst _ s => s.depth + 1
def OF.chk (ops : Array Oper) (late free : List Nat) : OF → Bool → Array Bool → Bool
 | .nil,top,listed => bif top then Region.ready .any ops listed == [] else true
 | .alt i s r,top,listed => (bif top then Region.ready .any ops listed == (OF.alt i s r).heads else true) && ((late.contains i && !free.contains i) && (s.chk ops late free true (listed.setIfInBounds i true) && r.chk ops late free false listed))
 | .fst i s,top,listed => (top && (free.contains i && regOk ops listed [] i)) && (dstAt ops i && s.chk ops late free true (listed.setIfInBounds i true))
section
variable (P : Program) (T : List (Nat × Ty)) (nt : Nt)
def ixT (op : Op) (tm : List (Nat × SV)) (ob : List (Nat × Ob)) (K : SV → Prop) : Option Prop := match op with
 | .indexAddr t x ix => match evT tm ix with
  | some (.d (.u (.int _ i))) => match lk t T with
   | none => none
   | some ti => match ti.k with
    | .sl e => match lk e T with
     | none => none
     | some j => match evT tm x with
      | some (.d (.ow k n)) => bif szT ob j.size (.d (.ow k n)) then some (Ixo n i fun m => K (.d (.e k m 0))) else none
      | _ => none
    | _ => none
  | _ => none
 | _ => none
def vcYW (o : Oper) (tm : List (Nat × SV)) (ob : List (Nat × Ob)) (K : Kt) : Prop := match ixT T o.op tm ob (fun s => putT nt o.dst s tm ob K) with
 | some p => p
 | none => vcYF P T nt o tm ob K
end
section
variable {P : Program} {T : List (Nat × Ty)} [hT : Tys P T] {nt : Nt} {c : Cx} {st : St} {tm : List (Nat × Value)} {h : Hs} {ρ : Rho} {G : FG} {ty : TypeId} {pos : String} {af : Array Edge} {gd : Option (Nat × Bool)} {d : Option Tmp}
theorem ixT_sound (g : Gd c st tm h ρ G) {op : Op} {K : SV → Prop} {p : Prop} (hy : ixT T op st.tm st.ob K = some p) (hp : p) : ∃ s v,(∀ h',Yd P nt ⟨d,op,ty,pos,af,gd⟩ tm h' v) ∧ DenS ρ ⟨G,h.w0⟩ s v ∧ K s := by
 unfold ixT at hy
 split at hy
 ·split at hy
  ·rename_i ik i hix
   split at hy
   ·cases hy
   ·rename_i ti ht
    split at hy
    ·rename_i e hk
     split at hy
     ·cases hy
     ·rename_i j hj
      obtain ⟨jk,js,jb,jz⟩ := j
      have e2 := evT_int g hix
      split at hy
      ·rename_i k n hx
       cases hb : szT st.ob js (.d (.ow k n)) <;> simp only [hb,cond_false,cond_true] at hy
       ·cases hy
       ·injection hy with hy;subst hy
        obtain ⟨m,rfl,hm,hp⟩ := hp.out
        obtain ⟨v,q1,q2⟩ := g.ev hx
        cases q2 with | d q2 => cases q2 with | @ow _ _ l h0 hA hnc =>
        obtain ⟨hls,hform⟩ := szT_at g hb h0
        obtain ⟨A,cc,lsz⟩ := l
        dsimp only at hls
        subst hls
        rcases hform with h1 | ⟨b,h1⟩ <;> dsimp only at h1 <;> subst h1
        ·have := hA rfl;omega
        ·refine ⟨_,_,fun h' => ?_,.d (.e (o := 0) h0),hp⟩
         have := Yd.indexNat (P := P) (nt := nt) (h := h') (d := d) (ty := ty) (pos := pos) (af := af) (gd := gd) q1 e2 ht hk hj hm
         rw [Nat.zero_add] at this
         exact this
      ·cases hy
    ·cases hy
  ·cases hy
 ·cases hy
end
section
variable (P : Program) (T : List (Nat × Ty)) (nt : Nt)
def vcGF (ops : Array Oper) (i : Nat) (X : Kt) : Kt := fun tm ob => match nth ops.toList i with
 | none => False
 | some o => match o.guard with
  | none => vcYW P T nt o tm ob X
  | some (j,want) => match gdT ops j with
   | none => False
   | some t => match lk t tm with
    | some (.d (.u (.bool b))) => match want with
     | true => Brn b (vcYW P T nt o tm ob X) (skipT nt o.dst tm ob X)
     | false => Brn b (skipT nt o.dst tm ob X) (vcYW P T nt o tm ob X)
    | some (.t []) => skipT nt o.dst tm ob X
    | _ => False
def vcOF (ops : Array Oper) (K : Kt) : OF → Kt
 | .nil,tm,ob => K tm ob
 | .fst i s,tm,ob => vcGF P T nt ops i (vcOF ops K s) tm ob
 | .alt i s .nil,tm,ob => vcG P T nt ops i (vcOF ops K s) tm ob
 | .alt i s (.alt j s' r),tm,ob => vcG P T nt ops i (vcOF ops K s) tm ob ∧ vcOF ops K (.alt j s' r) tm ob
 | .alt _ _ (.fst _ _),_,_ => False
end
section
variable {P : Program} {T : List (Nat × Ty)} [hT : Tys P T] {nt : Nt} {ops : Array Oper} {Q : Exit → Act → World → Prop} {late free : List Nat} {c : Cx} {K : Kt}
omit hT in
theorem vcOF_alt {i : Nat} {s r : OF} {tm : List (Nat × SV)} {ob : List (Nat × Ob)} (k : vcOF P T nt ops K (.alt i s r) tm ob) : vcG P T nt ops i (vcOF P T nt ops K s) tm ob ∧ (r ≠ .nil → vcOF P T nt ops K r tm ob) := by
 cases r with
 | nil => exact ⟨k,fun h => absurd rfl h⟩
 | alt j s' r => exact ⟨k.1,fun _ => k.2⟩
 | fst j s' => exact k.elim
theorem vcOF_sound [q : PanicOk Q] (hK : ∀ st tm h ρ G,Gd c st tm h ρ G → K st.tm st.ob → AWq nt Q .normal tm h) : ∀ (t : OF) (listed : Array Bool) (fuel : Nat) (S : World → Prop) (st : St) (tm : List (Nat × Value)) (h : Hs) (ρ : Rho) (G : FG),t.depth ≤ fuel → DC .any ops listed → Gd c st tm h ρ G → vcOF P T nt ops K t st.tm st.ob → ∀ (a : Act) (w : World),Slt nt tm a → Hp h w →
  (t.chk ops late free true listed = true → wpAnyX P .any ops Q S (Frn h) late free fuel listed a w) ∧ (∀ f,fuel = f + 1 → t.chk ops late free false listed = true → ∀ i ∈ t.heads,i ∈ Region.ready .any ops listed → wpOp P ops Q i (fun a' w' => (((free.contains i = true → w' = w) ∧ (late.contains i = false → free.contains i = false → S w')) ∧ Frn h w') ∧ wpAnyX P .any ops Q S (Frn h) late free f (listed.setIfInBounds i true) a' w') a w)
 | .nil,listed,fuel,S,st,tm,h,ρ,G,hf,hdc,g,k,a,w,ha,hw => by
  refine ⟨fun hc => ?_,fun f _ _ i hi => by cases hi⟩
  have hr : Region.ready .any ops listed = [] := by simpa [OF.chk] using hc
  have hq := (hK st tm h ρ G g k).out a w ha hw
  cases fuel with
  | zero => exact ⟨hr,hq⟩
  | succ n => exact ⟨fun _ => hq,by rw [hr];simp⟩
 | .alt i s r,listed,fuel,S,st,tm,h,ρ,G,hf,hdc,g,k,a,w,ha,hw => by
  obtain ⟨k1,k2⟩ := vcOF_alt k
  simp only [OF.depth] at hf
  have two : ∀ f,fuel = f + 1 → (OF.alt i s r).chk ops late free false listed = true → ∀ j ∈ (OF.alt i s r).heads,j ∈ Region.ready .any ops listed → wpOp P ops Q j (fun a' w' => (((free.contains j = true → w' = w) ∧ (late.contains j = false → free.contains j = false → S w')) ∧ Frn h w') ∧ wpAnyX P .any ops Q S (Frn h) late free f (listed.setIfInBounds j true) a' w') a w := by
   intro f hfu hc j hj hrj
   simp only [OF.chk,cond_false,Bool.true_and,Bool.and_eq_true,Bool.not_eq_true'] at hc
   obtain ⟨⟨lt1,lt2⟩,hcs,hcr⟩ := hc
   rcases List.mem_cons.1 hj with rfl | hj
   ·obtain ⟨_,o,hoj,hdep⟩ := mem_ready.1 hrj
    exact vcG_sound g.recx k1 (fun tm' h' ⟨st',ρ',G',h2,hh,g',k'⟩ a' w' ha' hw' => ⟨⟨⟨fun hn => (by rw [lt2] at hn;cases hn),fun hn => (by rw [lt1] at hn;cases hn)⟩,Frn.back hw g' (hh w' hw').frn⟩,
     wpAnyX_mono (fun _ h => h) (fun w2 hw2 => Frn.back hw g' hw2) _ _ _ _ ((vcOF_sound hK s _ f S st' tm' h2 ρ' G' (by omega) (hdc.set hoj hdep) (g.back g') k' a' w' ha' (hh w' hw')).1 hcs)⟩) a w ha hw
   ·have hne : r ≠ .nil := fun e => by subst e;cases hj
    exact (vcOF_sound hK r listed fuel S st tm h ρ G (by omega) hdc g (k2 hne) a w ha hw).2 f hfu hcr j hj hrj
  refine ⟨fun hc => ?_,two⟩
  simp only [OF.chk,cond_true,Bool.and_eq_true] at hc
  have hr : Region.ready .any ops listed = (OF.alt i s r).heads := eq_of_beq hc.1
  cases fuel with
  | zero => omega
  | succ n =>
   refine ⟨fun h' => (by rw [hr] at h';cases h'),fun j hj => ?_⟩
   have hj0 := hj
   rw [hr] at hj
   exact two n rfl (by simp only [OF.chk,cond_false,Bool.true_and,Bool.and_eq_true];exact hc.2) j hj hj0
 | .fst i s,listed,fuel,S,st,tm,h,ρ,G,hf,hdc,g,k,a,w,ha,hw => by
  refine ⟨fun hc => ?_,fun f _ _ i hi => by cases hi⟩
  simp only [OF.chk,Bool.true_and,Bool.and_eq_true,regOk] at hc
  obtain ⟨⟨hfr,b1,b2,b3,_⟩,hds,hcs⟩ := hc
  simp only [OF.depth] at hf
  cases fuel with
  | zero => omega
  | succ fuel =>
  have hr' : i ∈ Region.ready .any ops listed := by simpa using b3
  obtain ⟨_,o,hoj,hdep⟩ := mem_ready.1 hr'
  have hdc' := hdc.set hoj hdep
  have hdd : ∃ d,o.dst = some d := by
   simp only [dstAt,hoj] at hds
   exact Option.isSome_iff_exists.1 hds
  obtain ⟨d0,hd0⟩ := hdd
  have hn : nth ops.toList i = some o := by rw [nth_eq];simpa using hoj
  simp only [vcOF,vcGF,hn] at k
  obtain ⟨d,op,ty,pos,af,gu⟩ := o
  simp only at hd0
  subst hd0
  rcases vcR_guard (X := vcOF P T nt ops K s) (i := i) g a ha k with ⟨hw1,k1⟩ | ⟨hw1,k1⟩
  ·simp only [vcYW] at k1
   cases hi : ixT T op st.tm st.ob (fun z => putT nt (some d0) z st.tm st.ob (vcOF P T nt ops K s)) with
   | some p =>
    simp only [hi] at k1
    obtain ⟨z,v,q1,q2,q3⟩ := ixT_sound g hi k1 (P := P) (nt := nt) (ty := ty) (pos := pos) (af := af) (gd := gu) (d := some d0)
    simp only [putT] at q3
    cases hd : Nat.blt d0 nt
    ·rw [hd] at q3;exact q3.elim
    ·rw [hd] at q3
     have hrest := (vcOF_sound hK s _ fuel S _ _ h ρ G (by omega) hdc' (g.put (d := d0) q2) q3 _ w (ha.put (by simpa using hd) v) hw).1 hcs
     exact wpAnyX_free hoj (Region.noSelect_spec b1) (fun c a w hq => q.ok c a _ _ w hq) hfr fuel listed a w hdc (Region.free_spec hoj b2) hr' (.inl ⟨hw1,fun w' hw' => (q1 ⟨h.F,h.w0,[]⟩).out a w' ha hw'⟩) hw.frn hrest
   | none =>
   simp only [hi,vcYF] at k1
   cases hy : vcY P T op st.tm [] (fun z => putT nt (some d0) z st.tm st.ob (vcOF P T nt ops K s)) with
   | none => simp only [hy] at k1
   | some p =>
    simp only [hy] at k1
    have g0 : Gd c ⟨st.tm,[]⟩ tm ⟨h.F,h.w0,[]⟩ ρ G := ⟨g.fF,g.fw,g.gF,g.gx,g.fm,g.tm,rfl⟩
    obtain ⟨z,v,q1,q2,q3⟩ := vcY_sound g0 hy k1 (P := P) (nt := nt) (ty := ty) (pos := pos) (af := af) (gd := gu) (d := some d0)
    simp only [putT] at q3
    cases hd : Nat.blt d0 nt
    ·rw [hd] at q3;exact q3.elim
    ·rw [hd] at q3
     have hrest := (vcOF_sound hK s _ fuel S _ _ h ρ G (by omega) hdc' (g.put (d := d0) q2) q3 _ w (ha.put (by simpa using hd) v) hw).1 hcs
     exact wpAnyX_free hoj (Region.noSelect_spec b1) (fun c a w hq => q.ok c a _ _ w hq) hfr fuel listed a w hdc (Region.free_spec hoj b2) hr' (.inl ⟨hw1,fun w' hw' => q1.out a w' ha hw'⟩) hw.frn hrest
  ·simp only [skipT] at k1
   cases hd : Nat.blt d0 nt
   ·rw [hd] at k1;exact k1.elim
   ·rw [hd] at k1
    have hrest := (vcOF_sound hK s _ fuel S _ _ h ρ G (by omega) hdc' (g.put (d := d0) (.t (vs := []) rfl (by simp))) k1 _ w (ha.put (by simpa using hd) undef) hw).1 hcs
    exact wpAnyX_free hoj (Region.noSelect_spec b1) (fun c a w hq => q.ok c a _ _ w hq) hfr fuel listed a w hdc (Region.free_spec hoj b2) hr' (.inr ⟨hw1,rfl⟩) hw.frn hrest
theorem Drw.ofT {i : Nat} {tmT : List (Nat × SV)} {ob : List (Nat × Ob)} (late free : List Nat) (t : OF) (ho : (Nat.ble t.depth ops.size && t.chk ops late free true (Array.replicate ops.size false)) = true) (k : vcOF P T nt ops K t tmT ob) : Drw P nt i ops K tmT ob :=
 ⟨fun c tm h ρ G g Q q hK hnd => ⟨fun a w ha hw => Cw.region_any q.no hT.mo hnd (wpAny_of_X (S := Hp h) (S1 := Frn h) (late := late) (free := free) _ _ _ _ (by
  simp only [Bool.and_eq_true,Nat.ble_eq] at ho
  exact (vcOF_sound hK t _ _ _ ⟨tmT,ob⟩ tm h ρ G ho.1 DC.start g k a { w with drawn := w.drawn + 1 } ha (hw.drawn _)).1 ho.2))⟩⟩
end
end Go.Proofs.YtabmcfnefjipbaaGreatDoor
namespace Go.Proofs.YtabmcfnefjipbaaGreatDoor
open Go.RowKit
theorem at_R (a b : Int) : CallsA Tryz.prog 23 [di a,di b] [] (Is (dfa a b)) := by
 refine callsA_of_vc (T := tt) Tryz.func23 rfl rfl rfl rfl rfl ?_
 repeat' ((conv => whnf);first | refine Gs.id ?_ | fail)
 all_goals (conv => whnf)
 all_goals exact Ret.is rfl
theorem in_R (n lo hi : Int) : CallsA Tryz.prog 33 [di n,di lo,di hi] [] (Is (db (decide (lo ≤ n ∧ n ≤ hi)))) := by
 by_cases h1 : lo ≤ n
 ·by_cases h2 : n ≤ hi
  ·rw [show decide (lo ≤ n ∧ n ≤ hi) = true by simp [h1,h2]]
   refine callsA_of_vc (T := tt) Tryz.func33 rfl rfl rfl rfl rfl ?_
   repeat' ((conv => whnf);first | refine Gs.id ?_ | refine Brn.T (by (try simp only [smT]);first | rfl | assumption | fail) ?_ | fail)
   all_goals (conv => whnf)
   all_goals first | exact Ret.is rfl | (refine Ret.is ?_;simp [h1,h2];rfl)
  ·rw [show decide (lo ≤ n ∧ n ≤ hi) = false by simp [h2]]
   refine callsA_of_vc (T := tt) Tryz.func33 rfl rfl rfl rfl rfl ?_
   repeat' ((conv => whnf);first | refine Gs.id ?_ | refine Brn.T (by (try simp only [smT]);first | rfl | assumption | fail) ?_ | fail)
   all_goals (conv => whnf)
   all_goals first | exact Ret.is rfl | (refine Ret.is ?_;simp [h1,h2];rfl)
 ·rw [show decide (lo ≤ n ∧ n ≤ hi) = false by simp [h1]]
  refine callsA_of_vc (T := tt) Tryz.func33 rfl rfl rfl rfl rfl ?_
  repeat' ((conv => whnf);first | refine Gs.id ?_ | refine Brn.F (by (try simp only [smT]);first | rfl | omega | fail) ?_ | fail)
  all_goals (conv => whnf)
  all_goals first | exact Ret.is rfl | (refine Ret.is ?_;simp [h1];rfl)
def pushI (e : Ev) (i : Nat) (ix : List Nat) : List Nat := if e.kind = 2 then ix ++ [i] else ix
def actI (e : Ev) (i : Nat) (ix : List Nat) : List Nat := if 2 < e.kind then (pushI e i ix).dropLast else pushI e i ix
def fuI (l : List Ev) (ix : List Nat) : List Fu := ix.map fun j => ((l[j]?.map Ev.fu).getD (ByteArray.mk #[],ByteArray.mk #[]))
abbrev ixR (i : Nat) : List V := [.int .i64 (i : Int)]
theorem fuI_push {l : List Ev} {e : Ev} {i : Nat} {ix : List Nat} (he : l[i]? = some e) : fuI l (pushI e i ix) = pushM e (fuI l ix) := by
 unfold pushI pushM
 split
 ·simp [fuI,he]
 ·rfl
theorem fuI_act {l : List Ev} {e : Ev} {i : Nat} {ix : List Nat} (he : l[i]? = some e) : fuI l (actI e i ix) = actM e (fuI l ix) := by
 unfold actI actM
 split
 ·rw [← fuI_push he];simp [fuI,List.map_dropLast]
 ·exact fuI_push he
set_option maxHeartbeats 4000000 in
theorem trace_R (l : List Ev) (hsz : ∀ e ∈ l,e.md.size ≤ 1000000000000) : CallsA Tryz.prog 20 [.d (.u (evs l))] [] (Is (dfa (validM l).1 (validM l).2)) := by
 have hat := fun a b => at_R a b
 by_cases hl : 20000 < l.length
 ·have e : validM l = (2,-1) := by rw [validM,if_pos hl]
  rw [e]
  refine callsA_of_vc (T := tt) Tryz.func20 rfl rfl rfl rfl rfl ?_
  repeat' ((conv => whnf);first | refine Gs.id ?_ | refine Brn.T (by (try simp only [smT]);first | rfl | omega | fail) ?_ | (refine Bnd.mk (fun hm => ?_);(try simp only [smT] at hm)) | (refine CL.mk (Or.inl ?_);(conv => whnf);refine Cl.is (hat _ _) rfl (by first | exact fun _ => rfl | fail) ?_) | fail)
  all_goals (conv => whnf)
  all_goals exact Ret.is rfl
 ·have e : validM l = vFrom 0 0 [] l := by rw [validM,if_neg hl]
  rw [e]
  refine callsA_of_vc (T := tt) Tryz.func20 rfl rfl rfl rfl rfl ?_
  repeat' ((conv => whnf);first | refine Gs.id ?_ | refine Brn.F (by (try simp only [smT]);first | rfl | omega | fail) ?_ | (refine Bnd.mk (fun hm => ?_);(try simp only [smT] at hm)) | fail)
  all_goals (conv => whnf)
  refine ⟨⟨Nat × List Nat,fun x => x.1 ≤ l.length ∧ x.2.length ≤ x.1 ∧ (∀ j ∈ x.2,j < l.length) ∧ 0 ≤ fuelAt l x.1 ∧ vFrom 0 0 [] l = vFrom x.1 (fuelAt l x.1) (fuI l x.2) (l.drop x.1),fun x => l.length - x.1,fun x => ⟨[(0,.d (.u (evs l))),(2,.d (.p 2 0)),(3,.d (.ow 900 x.2.length)),(4,di x.1)],[(2,.bx 25 [.u (.int .i64 0),.u (.int .i64 0)]),(900,.ar 3 1 (x.2.map ixR))]⟩,(0,[]),⟨Nat.zero_le _,Nat.le_refl _,by simp,Int.le_refl _,rfl⟩,⟨[(2,.k 2),(900,.n 1)],⟨by (try dsimp only);(repeat (refine LeT.cons rfl (by first | exact LeS.d (by first | exact LeD.u rfl | exact LeD.p rfl | exact LeD.no rfl rfl | fail) | fail) ?_));exact LeT.nil,by (try dsimp only);repeat (first | exact LeO.nil | refine LeO.bx rfl rfl (by repeat (first | exact LeL.nil | refine LeL.cons (by first | exact LeD.u rfl | fail) ?_)) ?_ | refine LeO.no rfl rfl ?_)⟩⟩,fun x hx => ?_⟩⟩
  obtain ⟨i,ix⟩ := x
  obtain ⟨hi,hxl,hxj,hf0,he⟩ := hx
  dsimp only at hi hxl hxj hf0 he ⊢
  rw [he]
  by_cases h9 : i < l.length
  ·rw [List.drop_eq_getElem_cons h9,vFrom]
   have hev : l[i]? = some l[i] := List.getElem?_eq_getElem h9
   have hmem := List.mem_of_getElem? hev
   have hds := hsz _ hmem
   have hci : ((i + 1 : Nat) : Int) = (i : Int) + 1 := by omega
   have hrow : ∀ {K : List V → Prop} {j : Int},j = (i : Int) → K (l[i]).row → Ix (l.map Ev.row) j K := fun h k => by subst h;exact Ix.map rfl h9 k
   have hpv : ∀ {K : List V → Prop} {j : Int},0 < i → j = (i : Int) - 1 → (∀ e',e'.fuel = fuelAt l i → K (Ev.row e')) → Ix (l.map Ev.row) j K := fun {K j} h0 h k => by
    subst h
    have hp : l[i - 1]? = some (l[i - 1]'(by omega)) := List.getElem?_eq_getElem (by omega)
    refine ⟨⟨i - 1,(l[i - 1]'(by omega)).row,by omega,by rw [List.getElem?_map,hp];rfl,k _ ?_⟩⟩
    have := fuelAt_succ hp
    rw [show i - 1 + 1 = i by omega] at this
    exact this.symm
   have hpush := fuI_push (ix := ix) hev
   have hact := fuI_act (ix := ix) hev
   have hfs := fuelAt_succ hev
   generalize l[i] = e at *
   have hin := in_R e.kind 1 4
   have hd := dotted_R e.md hds
   rw [← dottedM_eq] at hd
   have hn := name_R e.fn
   have hs0 := str_nil (s := e.text)
   generalize hz : (e.text.toList == (ByteArray.mk #[]).toList) = bz at *
   have hl0 : ((e.locs.map locR).length : Int) = (e.locs.length : Int) := by simp
   by_cases hk : e.kind < 1 ∨ 4 < e.kind
   ·have hs : shapeM e (fuelAt l i) = 5 := by rw [shapeM,if_pos hk]
    have hc : codeM e (fuelAt l i) (fuI l ix) = 5 := by rw [codeM,hs];rfl
    rw [hc,if_pos (by decide)]
    rw [show decide ((1 : Int) ≤ e.kind ∧ e.kind ≤ 4) = false by simp;omega] at hin
    repeat' ((conv => whnf);first | refine hrow rfl ?_ | refine Gs.id ?_ | with_reducible refine Brn.T rfl ?_ | refine Brn.T (by (try simp only [smT]);first | rfl | omega | fail) ?_ | (refine Bnd.mk (fun hm => ?_);(try simp only [smT] at hm)) | (refine CL.mk (Or.inl ?_);(conv => whnf);first | refine Cl.is (hin) rfl (by first | exact fun _ => rfl | fail) ?_ | refine Cl.is (hat _ _) rfl (by first | exact fun _ => rfl | fail) ?_) | fail)
    all_goals (conv => whnf)
    all_goals exact Ret.is rfl
   ·rw [show decide ((1 : Int) ≤ e.kind ∧ e.kind ≤ 4) = true by simp;omega] at hin
    by_cases hB : (e.kind ≠ 1 ∧ 0 < e.locs.length) ∨ (e.kind ≤ 2 ∧ e.text.size ≠ 0)
    ·have hs : shapeM e (fuelAt l i) = 6 := by rw [shapeM,if_neg hk,if_pos hB]
     have hc : codeM e (fuelAt l i) (fuI l ix) = 6 := by rw [codeM,hs];rfl
     rw [hc,if_pos (by decide)]
     by_cases hB1 : e.kind ≠ 1 ∧ 0 < e.locs.length
     ·repeat' ((conv => whnf);first | refine hrow rfl ?_ | refine Gs.id ?_ | with_reducible refine Brn.T rfl ?_ | with_reducible refine Brn.F rfl ?_ | refine Brn.T (by (try simp only [smT]);first | rfl | omega | fail) ?_ | (refine Bnd.mk (fun hm => ?_);(try simp only [smT] at hm)) | (refine CL.mk (Or.inl ?_);(conv => whnf);first | refine Cl.is (hin) rfl (by first | exact fun _ => rfl | fail) ?_ | refine Cl.is (hat _ _) rfl (by first | exact fun _ => rfl | fail) ?_) | fail)
      all_goals (conv => whnf)
      all_goals first | exact Ret.is rfl | (exfalso;simp at *;omega)
     ·obtain ⟨hB2,hB3⟩ := hB.resolve_left hB1
      rw [decide_eq_false hB3] at hs0
      subst hs0
      rcases (show e.kind = 1 ∨ e.kind = 2 by omega) with hk1 | hk1
      ·repeat' ((conv => whnf);first | refine hrow rfl ?_ | rw [hz] | refine Gs.id ?_ | with_reducible refine Brn.T rfl ?_ | with_reducible refine Brn.F rfl ?_ | refine Brn.T (by (try simp only [smT]);first | rfl | assumption | omega | fail) ?_ | refine Brn.F (by (try simp only [smT]);first | rfl | assumption | fail) ?_ | (refine Bnd.mk (fun hm => ?_);(try simp only [smT] at hm)) | (refine CL.mk (Or.inl ?_);(conv => whnf);first | refine Cl.is (hin) rfl (by first | exact fun _ => rfl | fail) ?_ | refine Cl.is (hat _ _) rfl (by first | exact fun _ => rfl | fail) ?_) | fail)
       all_goals (conv => whnf)
       all_goals first | exact Ret.is rfl | (exfalso;simp at *;omega)
      ·repeat' ((conv => whnf);first | refine hrow rfl ?_ | rw [hz] | refine Gs.id ?_ | with_reducible refine Brn.T rfl ?_ | with_reducible refine Brn.F rfl ?_ | refine Brn.T (by (try simp only [smT]);first | rfl | assumption | omega | fail) ?_ | refine Brn.F (by (try simp only [smT]);first | rfl | omega | fail) ?_ | (refine Bnd.mk (fun hm => ?_);(try simp only [smT] at hm)) | (refine CL.mk (Or.inl ?_);(conv => whnf);first | refine Cl.is (hin) rfl (by first | exact fun _ => rfl | fail) ?_ | refine Cl.is (hat _ _) rfl (by first | exact fun _ => rfl | fail) ?_) | fail)
       all_goals (conv => whnf)
       all_goals first | exact Ret.is rfl | (exfalso;simp at *;omega)
    ·have hloc : e.kind ≠ 1 → e.locs.length = 0 := fun h => by omega
     have htx : e.kind ≤ 2 → bz = true := fun h => by rw [hs0];exact decide_eq_true (by omega)
     refine' cutR (fun _ : Unit => True) (fun _ => ⟨[(0,.d (.u (evs l))),(2,.d (.p 2 0)),(3,.d (.ow 900 ix.length)),(4,di i),(5,.d (.p 5 0))],[(2,.bx 25 [.u (.int .i64 0),.u (.int .i64 0)]),(5,.bx 58 e.ds),(900,.ar 3 1 (ix.map ixR))]⟩) _ (fun hR => ?_) ?_
     rotate_left
     ·rcases (show e.kind = 1 ∨ e.kind = 2 ∨ e.kind = 3 ∨ e.kind = 4 by omega) with hk1 | hk1 | hk1 | hk1
      ·have hx := htx (by omega)
       subst hx
       repeat' ((conv => whnf);first | refine hrow rfl ?_ | rw [hz] | (exact Gs.cut (i := 12) (by assumption) () [(2,.k 2),(5,.k 5),(900,.k 900)] rfl ⟨by (try dsimp only);(repeat (refine LeT.cons rfl (by first | exact LeS.d (by first | exact LeD.u rfl | exact LeD.p rfl | exact LeD.ow rfl rfl | fail) | fail) ?_));(first | exact LeT.nil | fail),by (try dsimp only);(repeat (first | exact LeO.nil | refine LeO.bx rfl rfl (by repeat (first | exact LeL.nil | refine LeL.cons (by first | exact LeD.u rfl | fail) ?_)) ?_ | refine LeO.ar rfl rfl (by first | rfl | fail) ?_ | fail));done⟩ (by trivial)) | refine Gs.id ?_ | with_reducible refine Brn.T rfl ?_ | with_reducible refine Brn.F rfl ?_ | refine Brn.T (by (try simp only [smT]);first | rfl | assumption | omega | fail) ?_ | refine Brn.F (by (try simp only [smT]);first | rfl | assumption | fail) ?_ | (refine Bnd.mk (fun hm => ?_);(try simp only [smT] at hm)) | (refine CL.mk (Or.inl ?_);(conv => whnf);first | refine Cl.is (hin) rfl (by first | exact fun _ => rfl | fail) ?_ | fail) | fail)
      ·have hx := htx (by omega)
       subst hx
       have hx2 := hloc (by omega)
       repeat' ((conv => whnf);first | refine hrow rfl ?_ | rw [hz] | (exact Gs.cut (i := 12) (by assumption) () [(2,.k 2),(5,.k 5),(900,.k 900)] rfl ⟨by (try dsimp only);(repeat (refine LeT.cons rfl (by first | exact LeS.d (by first | exact LeD.u rfl | exact LeD.p rfl | exact LeD.ow rfl rfl | fail) | fail) ?_));(first | exact LeT.nil | fail),by (try dsimp only);(repeat (first | exact LeO.nil | refine LeO.bx rfl rfl (by repeat (first | exact LeL.nil | refine LeL.cons (by first | exact LeD.u rfl | fail) ?_)) ?_ | refine LeO.ar rfl rfl (by first | rfl | fail) ?_ | fail));done⟩ (by trivial)) | refine Gs.id ?_ | with_reducible refine Brn.F rfl ?_ | refine Brn.T (by (try simp only [smT]);first | rfl | assumption | omega | fail) ?_ | refine Brn.F (by (try simp only [smT]);first | rfl | omega | fail) ?_ | (refine Bnd.mk (fun hm => ?_);(try simp only [smT] at hm)) | (refine CL.mk (Or.inl ?_);(conv => whnf);first | refine Cl.is (hin) rfl (by first | exact fun _ => rfl | fail) ?_ | fail) | fail)
      ·have hx2 := hloc (by omega)
       repeat' ((conv => whnf);first | refine hrow rfl ?_ | (exact Gs.cut (i := 12) (by assumption) () [(2,.k 2),(5,.k 5),(900,.k 900)] rfl ⟨by (try dsimp only);(repeat (refine LeT.cons rfl (by first | exact LeS.d (by first | exact LeD.u rfl | exact LeD.p rfl | exact LeD.ow rfl rfl | fail) | fail) ?_));(first | exact LeT.nil | fail),by (try dsimp only);(repeat (first | exact LeO.nil | refine LeO.bx rfl rfl (by repeat (first | exact LeL.nil | refine LeL.cons (by first | exact LeD.u rfl | fail) ?_)) ?_ | refine LeO.ar rfl rfl (by first | rfl | fail) ?_ | fail));done⟩ (by trivial)) | refine Gs.id ?_ | with_reducible refine Brn.F rfl ?_ | refine Brn.T (by (try simp only [smT]);first | rfl | omega | fail) ?_ | refine Brn.F (by (try simp only [smT]);first | rfl | omega | fail) ?_ | (refine Bnd.mk (fun hm => ?_);(try simp only [smT] at hm)) | (refine CL.mk (Or.inl ?_);(conv => whnf);first | refine Cl.is (hin) rfl (by first | exact fun _ => rfl | fail) ?_ | fail) | fail)
      ·have hx2 := hloc (by omega)
       repeat' ((conv => whnf);first | refine hrow rfl ?_ | (exact Gs.cut (i := 12) (by assumption) () [(2,.k 2),(5,.k 5),(900,.k 900)] rfl ⟨by (try dsimp only);(repeat (refine LeT.cons rfl (by first | exact LeS.d (by first | exact LeD.u rfl | exact LeD.p rfl | exact LeD.ow rfl rfl | fail) | fail) ?_));(first | exact LeT.nil | fail),by (try dsimp only);(repeat (first | exact LeO.nil | refine LeO.bx rfl rfl (by repeat (first | exact LeL.nil | refine LeL.cons (by first | exact LeD.u rfl | fail) ?_)) ?_ | refine LeO.ar rfl rfl (by first | rfl | fail) ?_ | fail));done⟩ (by trivial)) | refine Gs.id ?_ | with_reducible refine Brn.F rfl ?_ | refine Brn.T (by (try simp only [smT]);first | rfl | omega | fail) ?_ | refine Brn.F (by (try simp only [smT]);first | rfl | omega | fail) ?_ | (refine Bnd.mk (fun hm => ?_);(try simp only [smT] at hm)) | (refine CL.mk (Or.inl ?_);(conv => whnf);first | refine Cl.is (hin) rfl (by first | exact fun _ => rfl | fail) ?_ | fail) | fail)
     ·intro _ _
      dsimp only
      clear hin hz hs0 hl0 hloc htx
      have hsN : (dottedM e.md = false ∨ nameB e.fn = false) → shapeM e (fuelAt l i) = 7 := fun h => by rw [shapeM,if_neg hk,if_neg hB,if_pos h]
      have hsY : ¬ (dottedM e.md = false ∨ nameB e.fn = false) → shapeM e (fuelAt l i) = (if e.line < 0 ∨ e.fuel < fuelAt l i then 4 else 0) := fun h => by rw [shapeM,if_neg hk,if_neg hB,if_neg h]
      generalize dottedM e.md = bd at *
      generalize nameB e.fn = bn at *
      by_cases hN : bd = false ∨ bn = false
      ·have hs := hsN hN
       have hc : codeM e (fuelAt l i) (fuI l ix) = 7 := by rw [codeM,hs];rfl
       rw [hc,if_pos (by decide)]
       cases bd
       ·repeat' ((conv => whnf);first | refine Gs.id ?_ | with_reducible refine Brn.T rfl ?_ | (refine CL.mk (Or.inl ?_);(conv => whnf);first | refine Cl.is (hd) rfl (by first | exact fun _ => rfl | fail) ?_ | refine Cl.is (hat _ _) rfl (by first | exact fun _ => rfl | fail) ?_) | fail)
        all_goals (conv => whnf)
        all_goals exact Ret.is rfl
       ·obtain rfl : bn = false := hN.resolve_left (by simp)
        repeat' ((conv => whnf);first | refine Gs.id ?_ | with_reducible refine Brn.T rfl ?_ | with_reducible refine Brn.F rfl ?_ | (refine CL.mk (Or.inl ?_);(conv => whnf);first | refine Cl.is (hd) rfl (by first | exact fun _ => rfl | fail) ?_ | refine Cl.is (hn) rfl (by first | exact fun _ => rfl | fail) ?_ | refine Cl.is (hat _ _) rfl (by first | exact fun _ => rfl | fail) ?_) | fail)
        all_goals (conv => whnf)
        all_goals exact Ret.is rfl
      ·have hs := hsY hN
       obtain rfl : bd = true := by cases bd <;> simp_all
       obtain rfl : bn = true := by cases bn <;> simp_all
       by_cases hR0 : e.line < 0 ∨ e.fuel < fuelAt l i
       ·rw [if_pos hR0] at hs
        have hc : codeM e (fuelAt l i) (fuI l ix) = 4 := by rw [codeM,hs];rfl
        rw [hc,if_pos (by decide)]
        by_cases hR1 : e.line < 0
        ·repeat' ((conv => whnf);first | refine Gs.id ?_ | with_reducible refine Brn.T rfl ?_ | with_reducible refine Brn.F rfl ?_ | refine Brn.T (by (try simp only [smT]);first | rfl | assumption | fail) ?_ | refine Drw.of (T := tt) (i := 14) [] [] [(0,true),(1,true),(2,true),(3,true),(4,true),(5,true),(6,true),(7,true),(8,true),(9,true),(10,true),(11,true),(12,true),(13,true),(14,true),(15,true),(16,true),(17,true),(18,true),(19,true),(20,true),(21,true),(22,true)] (by kernel_rfl) ?_ | (refine CL.mk (Or.inl ?_);(conv => whnf);first | refine Cl.is (hd) rfl (by first | exact fun _ => rfl | fail) ?_ | refine Cl.is (hn) rfl (by first | exact fun _ => rfl | fail) ?_ | refine Cl.is (hat _ _) rfl (by first | exact fun _ => rfl | fail) ?_) | fail)
         all_goals (conv => whnf)
         all_goals exact Ret.is rfl
        ·by_cases hR2 : e.fuel < 0
         ·repeat' ((conv => whnf);first | refine Gs.id ?_ | with_reducible refine Brn.T rfl ?_ | with_reducible refine Brn.F rfl ?_ | refine Brn.T (by (try simp only [smT]);first | rfl | assumption | fail) ?_ | refine Brn.F (by (try simp only [smT]);first | rfl | omega | fail) ?_ | refine Drw.of (T := tt) (i := 14) [] [] [(0,true),(1,true),(2,true),(3,true),(4,true),(5,true),(6,true),(7,true),(8,true),(9,true),(10,true),(11,true),(12,true),(13,true),(14,true),(15,true),(16,true),(17,true),(18,true),(19,true),(20,true),(21,true),(22,true)] (by kernel_rfl) ?_ | (refine CL.mk (Or.inl ?_);(conv => whnf);first | refine Cl.is (hd) rfl (by first | exact fun _ => rfl | fail) ?_ | refine Cl.is (hn) rfl (by first | exact fun _ => rfl | fail) ?_ | refine Cl.is (hat _ _) rfl (by first | exact fun _ => rfl | fail) ?_) | fail)
          all_goals (conv => whnf)
          all_goals exact Ret.is rfl
         ·have hi0 : 0 < i := by
           rcases Nat.eq_zero_or_pos i with h | h
           ·subst h
            have : fuelAt l 0 = 0 := rfl
            omega
           ·exact h
          repeat' ((conv => whnf);first | refine hpv (by omega) rfl (fun e' he' => ?_) | refine Gs.id ?_ | with_reducible refine Brn.F rfl ?_ | refine Brn.T (by (try simp only [smT]);first | rfl | omega | fail) ?_ | refine Brn.F (by (try simp only [smT]);first | rfl | omega | fail) ?_ | refine Rng.mk (by (try simp only [smT]);omega) ?_ | refine Drw.of (T := tt) (i := 14) [] [] [(0,true),(1,true),(2,true),(3,true),(4,true),(5,true),(6,true),(7,true),(8,true),(9,true),(10,true),(11,true),(12,true),(13,true),(14,true),(15,true),(16,true),(17,true),(18,true),(19,true),(20,true),(21,true),(22,true)] (by kernel_rfl) ?_ | (refine CL.mk (Or.inl ?_);(conv => whnf);first | refine Cl.is (hd) rfl (by first | exact fun _ => rfl | fail) ?_ | refine Cl.is (hn) rfl (by first | exact fun _ => rfl | fail) ?_ | refine Cl.is (hat _ _) rfl (by first | exact fun _ => rfl | fail) ?_) | fail)
          all_goals (conv => whnf)
          all_goals exact Ret.is rfl
       ·rw [if_neg hR0] at hs
        refine' cutR (fun _ : Unit => True) (fun _ => ⟨[(0,.d (.u (evs l))),(2,.d (.p 2 0)),(3,.d (.ow 900 (pushI e i ix).length)),(4,di i),(5,.d (.p 5 0))],[(2,.bx 25 [.u (.int .i64 0),.u (.int .i64 0)]),(5,.bx 58 e.ds),(900,.ar 3 1 ((pushI e i ix).map ixR))]⟩) _ (fun hR => ?_) ?_
        rotate_left
        ·by_cases h2 : e.kind = 2
         ·have hp : pushI e i ix = ix ++ [i] := by rw [pushI,if_pos h2]
          rcases Nat.eq_zero_or_pos i with h0 | h0
          ·repeat' ((conv => whnf);first | (exact Gs.cut (i := 18) (by assumption) () [(2,.k 2),(5,.k 5),(900,.k 96)] rfl ⟨by (try dsimp only);(repeat (refine LeT.cons rfl (by first | exact LeS.d (by first | exact LeD.u rfl | exact LeD.p rfl | exact LeD.ow rfl (by simp [hp];done) | fail) | fail) ?_));(first | exact LeT.nil | fail),by (try dsimp only);(repeat (first | exact LeO.nil | refine LeO.bx rfl rfl (by repeat (first | exact LeL.nil | refine LeL.cons (by first | exact LeD.u rfl | fail) ?_)) ?_ | refine LeO.ar rfl rfl (by first | (simp [hp];done) | fail) ?_ | fail));done⟩ (by trivial)) | refine Gs.id ?_ | with_reducible refine Brn.F rfl ?_ | refine Brn.T (by (try simp only [smT]);first | rfl | assumption | fail) ?_ | refine Brn.F (by (try simp only [smT]);first | rfl | omega | fail) ?_ | refine Apd.mk (by first | rfl | simp) (by first | rfl | fail) (by (try simp only [smT]);first | omega | fail) (by unfold maxLen;first | (simp;omega) | fail) ?_ | refine Drw.of (T := tt) (i := 14) [] [] [(0,true),(1,true),(2,true),(3,true),(4,true),(5,true),(6,true),(7,true),(8,true),(9,true),(10,true),(11,true),(12,true),(13,true),(14,true),(15,true),(16,true),(17,true),(18,true),(19,true),(20,true),(21,true),(22,true)] (by kernel_rfl) ?_ | (refine CL.mk (Or.inl ?_);(conv => whnf);first | refine Cl.is (hd) rfl (by first | exact fun _ => rfl | fail) ?_ | refine Cl.is (hn) rfl (by first | exact fun _ => rfl | fail) ?_ | fail) | fail)
          ·repeat' ((conv => whnf);first | refine hpv (by omega) rfl (fun e' he' => ?_) | (exact Gs.cut (i := 18) (by assumption) () [(2,.k 2),(5,.k 5),(900,.k 96)] rfl ⟨by (try dsimp only);(repeat (refine LeT.cons rfl (by first | exact LeS.d (by first | exact LeD.u rfl | exact LeD.p rfl | exact LeD.ow rfl (by simp [hp];done) | fail) | fail) ?_));(first | exact LeT.nil | fail),by (try dsimp only);(repeat (first | exact LeO.nil | refine LeO.bx rfl rfl (by repeat (first | exact LeL.nil | refine LeL.cons (by first | exact LeD.u rfl | fail) ?_)) ?_ | refine LeO.ar rfl rfl (by first | (simp [hp];done) | fail) ?_ | fail));done⟩ (by trivial)) | refine Gs.id ?_ | with_reducible refine Brn.F rfl ?_ | refine Brn.T (by (try simp only [smT]);first | rfl | assumption | omega | fail) ?_ | refine Brn.F (by (try simp only [smT]);first | rfl | omega | fail) ?_ | refine Rng.mk (by (try simp only [smT]);omega) ?_ | refine Apd.mk (by first | rfl | simp) (by first | rfl | fail) (by (try simp only [smT]);first | omega | fail) (by unfold maxLen;first | (simp;omega) | fail) ?_ | refine Drw.of (T := tt) (i := 14) [] [] [(0,true),(1,true),(2,true),(3,true),(4,true),(5,true),(6,true),(7,true),(8,true),(9,true),(10,true),(11,true),(12,true),(13,true),(14,true),(15,true),(16,true),(17,true),(18,true),(19,true),(20,true),(21,true),(22,true)] (by kernel_rfl) ?_ | (refine CL.mk (Or.inl ?_);(conv => whnf);first | refine Cl.is (hd) rfl (by first | exact fun _ => rfl | fail) ?_ | refine Cl.is (hn) rfl (by first | exact fun _ => rfl | fail) ?_ | fail) | fail)
         ·have hp : pushI e i ix = ix := by rw [pushI,if_neg h2]
          rcases Nat.eq_zero_or_pos i with h0 | h0
          ·repeat' ((conv => whnf);first | (exact Gs.cut (i := 18) (by assumption) () [(2,.k 2),(5,.k 5),(900,.k 900)] rfl ⟨by (try dsimp only);(repeat (refine LeT.cons rfl (by first | exact LeS.d (by first | exact LeD.u rfl | exact LeD.p rfl | exact LeD.ow rfl (by simp [hp];done) | fail) | fail) ?_));(first | exact LeT.nil | fail),by (try dsimp only);(repeat (first | exact LeO.nil | refine LeO.bx rfl rfl (by repeat (first | exact LeL.nil | refine LeL.cons (by first | exact LeD.u rfl | fail) ?_)) ?_ | refine LeO.ar rfl rfl (by first | (simp [hp];done) | fail) ?_ | fail));done⟩ (by trivial)) | refine Gs.id ?_ | with_reducible refine Brn.F rfl ?_ | refine Brn.F (by (try simp only [smT]);first | rfl | assumption | omega | fail) ?_ | refine Drw.of (T := tt) (i := 14) [] [] [(0,true),(1,true),(2,true),(3,true),(4,true),(5,true),(6,true),(7,true),(8,true),(9,true),(10,true),(11,true),(12,true),(13,true),(14,true),(15,true),(16,true),(17,true),(18,true),(19,true),(20,true),(21,true),(22,true)] (by kernel_rfl) ?_ | (refine CL.mk (Or.inl ?_);(conv => whnf);first | refine Cl.is (hd) rfl (by first | exact fun _ => rfl | fail) ?_ | refine Cl.is (hn) rfl (by first | exact fun _ => rfl | fail) ?_ | fail) | fail)
          ·repeat' ((conv => whnf);first | refine hpv (by omega) rfl (fun e' he' => ?_) | (exact Gs.cut (i := 18) (by assumption) () [(2,.k 2),(5,.k 5),(900,.k 900)] rfl ⟨by (try dsimp only);(repeat (refine LeT.cons rfl (by first | exact LeS.d (by first | exact LeD.u rfl | exact LeD.p rfl | exact LeD.ow rfl (by simp [hp];done) | fail) | fail) ?_));(first | exact LeT.nil | fail),by (try dsimp only);(repeat (first | exact LeO.nil | refine LeO.bx rfl rfl (by repeat (first | exact LeL.nil | refine LeL.cons (by first | exact LeD.u rfl | fail) ?_)) ?_ | refine LeO.ar rfl rfl (by first | (simp [hp];done) | fail) ?_ | fail));done⟩ (by trivial)) | refine Gs.id ?_ | with_reducible refine Brn.F rfl ?_ | refine Brn.T (by (try simp only [smT]);first | rfl | omega | fail) ?_ | refine Brn.F (by (try simp only [smT]);first | rfl | assumption | omega | fail) ?_ | refine Rng.mk (by (try simp only [smT]);omega) ?_ | refine Drw.of (T := tt) (i := 14) [] [] [(0,true),(1,true),(2,true),(3,true),(4,true),(5,true),(6,true),(7,true),(8,true),(9,true),(10,true),(11,true),(12,true),(13,true),(14,true),(15,true),(16,true),(17,true),(18,true),(19,true),(20,true),(21,true),(22,true)] (by kernel_rfl) ?_ | (refine CL.mk (Or.inl ?_);(conv => whnf);first | refine Cl.is (hd) rfl (by first | exact fun _ => rfl | fail) ?_ | refine Cl.is (hn) rfl (by first | exact fun _ => rfl | fail) ?_ | fail) | fail)
        ·intro _ _
         dsimp only
         have hs' : ¬ (shapeM e (fuelAt l i) ≠ 0) := fun h => h hs
         have hcm : codeM e (fuelAt l i) (fuI l ix) = if (fuI l (pushI e i ix)).length = 0 ∨ e.depth ≠ ((fuI l (pushI e i ix)).length : Int) then 11 else if (fuI l (pushI e i ix)).getLast? ≠ some e.fu then 19 else 0 := by rw [codeM,if_neg hs',← hpush]
         have hfl : (fuI l (pushI e i ix)).length = (pushI e i ix).length := by simp [fuI]
         have hjj : ∀ j ∈ pushI e i ix,j < l.length := by
          intro j hj
          unfold pushI at hj
          split at hj
          ·rcases List.mem_append.1 hj with hj | hj
           ·exact hxj j hj
           ·simp at hj;omega
          ·exact hxj j hj
         have hlen1 : (pushI e i ix).length ≤ i + 1 := by unfold pushI;split <;> first | omega | (simp;done) | (simp;omega)
         have hai : actI e i ix = if 2 < e.kind then (pushI e i ix).dropLast else pushI e i ix := rfl
         rw [hfl] at hcm
         rw [← hact]
         clear hs' hpush hact hd hn hs hrow hpv
         generalize pushI e i ix = ix1 at *
         rcases List.eq_nil_or_concat ix1 with rfl | ⟨L,j,rfl⟩
         ·have hc : codeM e (fuelAt l i) (fuI l ix) = 11 := by rw [hcm,if_pos (.inl rfl)]
          rw [hc,if_pos (by decide)]
          repeat' ((conv => whnf);first | refine Gs.id ?_ | with_reducible refine Brn.T rfl ?_ | (refine Bnd.mk (fun hm => ?_);(try simp only [smT] at hm)) | (refine CL.mk (Or.inl ?_);(conv => whnf);refine Cl.is (hat _ _) rfl (by first | exact fun _ => rfl | fail) ?_) | fail)
          all_goals (conv => whnf)
          all_goals exact Ret.is rfl
         ·rw [List.concat_eq_append] at *
          have hlenL : (((L ++ [j]).length : Nat) : Int) = (L.length : Int) + 1 := by simp
          by_cases hd1 : e.depth = (L.length : Int) + 1
          ·have hjl := hjj j (by simp)
           obtain ⟨f,hf⟩ : ∃ f,l[j]? = some f := ⟨_,List.getElem?_eq_getElem hjl⟩
           have hlast : (fuI l (L ++ [j])).getLast? = some f.fu := by simp [fuI,hf]
           rw [hlast] at hcm
           have hcm2 : codeM e (fuelAt l i) (fuI l ix) = if some f.fu ≠ some e.fu then 19 else 0 := by rw [hcm,if_neg (by simp;omega)]
           have hrowj : ∀ {K : List V → Prop} {m : Int},m = (j : Int) → K f.row → Ix (l.map Ev.row) m K := fun h k => ⟨⟨j,f.row,h,by rw [List.getElem?_map,hf];rfl,k⟩⟩
           have hget : ((L ++ [j]).map ixR)[L.length]? = some (ixR j) := by simp
           have hb1 := toList_beq f.md e.md
           have hb2 := toList_beq f.fn e.fn
           by_cases hfu : f.md = e.md ∧ f.fn = e.fn
           ·have hc : codeM e (fuelAt l i) (fuI l ix) = 0 := by rw [hcm2,if_neg (by simp [Ev.fu,hfu.1,hfu.2])]
            rw [hc,if_neg (by simp)]
            rw [decide_eq_true hfu.1] at hb1
            rw [decide_eq_true hfu.2] at hb2
            by_cases h3 : 2 < e.kind
            ·have ha2 : actI e i ix = L := by rw [hai,if_pos h3];simp
             rw [ha2]
             repeat' ((conv => whnf);first | refine Ixo.mk ⟨L.length,by simp,by simp,?_⟩ | refine Rw.get hget ?_ | refine hrowj rfl ?_ | refine Slc.mk ⟨0,L.length,rfl,by simp,by omega,by simp,?_⟩ | rw [hb1] | rw [hb2] | refine Gs.id ?_ | with_reducible refine Brn.F rfl ?_ | refine Brn.T (by (try simp only [smT]);first | rfl | assumption | fail) ?_ | refine Brn.F (by (try simp only [smT]);first | rfl | assumption | omega | fail) ?_ | (refine Bnd.mk (fun hm => ?_);(try simp only [smT] at hm)) | refine Rng.mk (by (try simp only [smT]);omega) ?_ | fail)
             all_goals (conv => whnf)
             all_goals exact ⟨(i + 1,L),⟨by omega,by simp at hlen1;dsimp only;omega,fun j hj => hjj j (by simp [hj]),by rw [hfs];omega,by dsimp only;rw [hfs,hci]⟩,by omega,[(2,.k 2),(900,.k 900)],(by (try dsimp only);(repeat (refine LeT.cons rfl (by first | exact LeS.d (by first | exact LeD.u rfl | exact LeD.p rfl | exact LeD.ow rfl rfl | fail) | fail) ?_));exact LeT.nil),.bx rfl rfl (.cons (.u rfl) (.cons (.u rfl) .nil)) (.tr (m := L.length) rfl rfl (by simp) (by simp) .nil)⟩
            ·have ha2 : actI e i ix = L ++ [j] := by rw [hai,if_neg h3]
             rw [ha2]
             repeat' ((conv => whnf);first | refine Ixo.mk ⟨L.length,by simp,by simp,?_⟩ | refine Rw.get hget ?_ | refine hrowj rfl ?_ | rw [hb1] | rw [hb2] | refine Gs.id ?_ | with_reducible refine Brn.F rfl ?_ | refine Brn.F (by (try simp only [smT]);first | rfl | assumption | omega | fail) ?_ | (refine Bnd.mk (fun hm => ?_);(try simp only [smT] at hm)) | refine Rng.mk (by (try simp only [smT]);omega) ?_ | fail)
             all_goals (conv => whnf)
             all_goals exact ⟨(i + 1,L ++ [j]),⟨by omega,by dsimp only;omega,hjj,by rw [hfs];omega,by dsimp only;rw [hfs,hci]⟩,by omega,[(2,.k 2),(900,.k 900)],⟨by (try dsimp only);(repeat (refine LeT.cons rfl (by first | exact LeS.d (by first | exact LeD.u rfl | exact LeD.p rfl | exact LeD.ow rfl rfl | fail) | fail) ?_));exact LeT.nil,by (try dsimp only);repeat (first | exact LeO.nil | refine LeO.bx rfl rfl (by repeat (first | exact LeL.nil | refine LeL.cons (by first | exact LeD.u rfl | fail) ?_)) ?_ | refine LeO.ar rfl rfl (by first | rfl | fail) ?_ | fail)⟩⟩
           ·have hc : codeM e (fuelAt l i) (fuI l ix) = 19 := by rw [hcm2,if_pos (by intro h;injection h with h;simp only [Ev.fu,Prod.mk.injEq] at h;exact hfu h)]
            rw [hc,if_pos (by decide)]
            repeat' ((conv => whnf);first | refine Ixo.mk ⟨L.length,by simp,by simp,?_⟩ | refine Rw.get hget ?_ | refine hrowj rfl ?_ | rw [hb1] | rw [hb2] | refine Gs.id ?_ | with_reducible refine Brn.T rfl ?_ | refine Brn.T (by (try simp only [smT]);first | rfl | assumption | fail) ?_ | refine Brn.F (by (try simp only [smT]);first | rfl | assumption | omega | fail) ?_ | (refine Brn.mk (fun hb => ?_) (fun hb => ?_) <;> (try simp only [smT] at hb) <;> (try (exact absurd trivial hb)) <;> (try (exfalso;omega))) | (refine Bnd.mk (fun hm => ?_);(try simp only [smT] at hm)) | refine Rng.mk (by (try simp only [smT]);omega) ?_ | (refine CL.mk (Or.inl ?_);(conv => whnf);refine Cl.is (hat _ _) rfl (by first | exact fun _ => rfl | fail) ?_) | fail)
            all_goals (conv => whnf)
            all_goals first | exact Ret.is rfl | (exfalso;simp at *;grind)
          ·have hc : codeM e (fuelAt l i) (fuI l ix) = 11 := by rw [hcm,if_pos (.inr (by simp;omega))]
           rw [hc,if_pos (by decide)]
           repeat' ((conv => whnf);first | refine Gs.id ?_ | refine Brn.T (by (try simp only [smT]);first | rfl | assumption | fail) ?_ | refine Brn.F (by (try simp only [smT]);first | rfl | omega | fail) ?_ | (refine Bnd.mk (fun hm => ?_);(try simp only [smT] at hm)) | (refine CL.mk (Or.inl ?_);(conv => whnf);refine Cl.is (hat _ _) rfl (by first | exact fun _ => rfl | fail) ?_) | fail)
           all_goals (conv => whnf)
           all_goals first | exact Ret.is rfl | (exfalso;simp at *;omega)
  ·obtain rfl : i = l.length := by omega
   rw [List.drop_length,vFrom]
   repeat' ((conv => whnf);first | refine Gs.id ?_ | refine Brn.F (by (try simp only [smT]);first | rfl | omega | fail) ?_ | (refine Bnd.mk (fun hm => ?_);(try simp only [smT] at hm)) | (refine CL.mk (Or.inl ?_);(conv => whnf);refine Cl.is (hat _ _) rfl (by first | exact fun _ => rfl | fail) ?_) | fail)
   all_goals (conv => whnf)
   all_goals exact Ret.is rfl
end Go.Proofs.YtabmcfnefjipbaaGreatDoor
namespace Go.Proofs.YtabmcfnefjipbaaGreatDoor
open Go.RowKit
def whereB (p : Pc) : ByteArray := p.md ++ ByteArray.mk #[58] ++ itoaB p.line ++ ByteArray.mk #[32] ++ p.fn
theorem where_T (p : Pc) (h0 : -9223372036854775808 ≤ p.line) (h1 : p.line ≤ 9223372036854775807) (h2 : p.md.size ≤ 1000) (h3 : p.fn.size ≤ 1000) (zt : Fz) (hz : Tab zt) : CallsA Tryz.prog 97 [.a p.ds] [(907,tbOb zt)] (Iso (dsr (whereB p)) [(907,tbOb zt)]) := by
 have hit := itoa_T p.line h0 h1 zt hz
 have his := itoaB_size h0 h1
 have s1 : (ByteArray.mk #[58]).size = 1 := rfl
 have s2 : (ByteArray.mk #[32]).size = 1 := rfl
 refine callsA_of_vcO (T := tt) Tryz.func97 rfl rfl rfl rfl rfl ?_
 repeat' ((conv => whnf);first | refine Cat.mk (by unfold maxLen;(try simp only [ByteArray.size_append]);omega) ?_ | refine Gs.id ?_ | with_reducible refine And.intro ?_ ?_ | refine Drw.ofT (T := tt) (i := 1) [1,4,5,9] [0,2,3,6,7,8,10,11] (OF.fst 0 (OF.fst 3 (OF.fst 8 (OF.alt 1 (OF.fst 2 (OF.alt 4 (OF.alt 5 (OF.fst 6 (OF.fst 7 (OF.alt 9 (OF.fst 10 (OF.fst 11 OF.nil)) OF.nil))) (OF.alt 9 (OF.alt 5 (OF.fst 6 (OF.fst 7 (OF.fst 10 (OF.fst 11 OF.nil)))) OF.nil) OF.nil)) (OF.alt 9 (OF.alt 4 (OF.alt 5 (OF.fst 6 (OF.fst 7 (OF.fst 10 (OF.fst 11 OF.nil)))) OF.nil) OF.nil) OF.nil))) (OF.alt 4 (OF.alt 1 (OF.fst 2 (OF.alt 5 (OF.fst 6 (OF.fst 7 (OF.alt 9 (OF.fst 10 (OF.fst 11 OF.nil)) OF.nil))) (OF.alt 9 (OF.alt 5 (OF.fst 6 (OF.fst 7 (OF.fst 10 (OF.fst 11 OF.nil)))) OF.nil) OF.nil))) (OF.alt 5 (OF.alt 1 (OF.fst 2 (OF.fst 6 (OF.fst 7 (OF.alt 9 (OF.fst 10 (OF.fst 11 OF.nil)) OF.nil)))) (OF.alt 9 (OF.alt 1 (OF.fst 2 (OF.fst 6 (OF.fst 7 (OF.fst 10 (OF.fst 11 OF.nil))))) OF.nil) OF.nil)) (OF.alt 9 (OF.alt 1 (OF.fst 2 (OF.alt 5 (OF.fst 6 (OF.fst 7 (OF.fst 10 (OF.fst 11 OF.nil)))) OF.nil)) (OF.alt 5 (OF.alt 1 (OF.fst 2 (OF.fst 6 (OF.fst 7 (OF.fst 10 (OF.fst 11 OF.nil))))) OF.nil) OF.nil)) OF.nil))) (OF.alt 9 (OF.alt 1 (OF.fst 2 (OF.alt 4 (OF.alt 5 (OF.fst 6 (OF.fst 7 (OF.fst 10 (OF.fst 11 OF.nil)))) OF.nil) OF.nil)) (OF.alt 4 (OF.alt 1 (OF.fst 2 (OF.alt 5 (OF.fst 6 (OF.fst 7 (OF.fst 10 (OF.fst 11 OF.nil)))) OF.nil)) (OF.alt 5 (OF.alt 1 (OF.fst 2 (OF.fst 6 (OF.fst 7 (OF.fst 10 (OF.fst 11 OF.nil))))) OF.nil) OF.nil)) OF.nil)) OF.nil)))))) (by kernel_rfl) ?_ | (refine CL.mk (Or.inr (Raw.callI [907] [907] rfl rfl rfl rfl rfl rfl rfl (hit) ?_));rintro _ _ ⟨rfl,rfl⟩;refine Bk.mk rfl rfl ?_))
 all_goals (conv => whnf)
 all_goals refine RetO.mk ⟨[(907,.k 907)],_,_,(by first | exact LeS.d (by first | exact LeD.u rfl | fail) | fail),(by repeat (first | exact LeO.nil | refine LeO.ab rfl rfl (by repeat (first | exact LeL.nil | fail)) (by first | rfl | fail) ?_ | fail)),rfl,rfl⟩
end Go.Proofs.YtabmcfnefjipbaaGreatDoor
namespace Go.Proofs.YtabmcfnefjipbaaGreatDoor
open Go.RowKit
abbrev bwdV (ps : List Pc) : V := .cl 115 [[pcs ps]]
theorem bwd0_T (ps : List Pc) : CallsA Tryz.prog 99 [.d (.u (pcs ps))] [] (Is (.d (.u (bwdV ps)))) := by
 refine callsA_of_vc (T := tt) Tryz.func99 rfl rfl rfl rfl rfl ?_
 repeat' ((conv => whnf);first | refine Gs.go (i := 1) (Ghost.frzB 1 rfl rfl) ?_ | refine Gs.id ?_ | fail)
 all_goals (conv => whnf)
 all_goals exact Ret.is rfl
abbrev bwSS (n i : Nat) (p : Pc) : List SV := [di ((n : Int) - 1 - (i : Int)),.a p.ds]
set_option maxHeartbeats 2000000 in
theorem bwd_T {ps : List Pc} (hL : ps.length ≤ 1000000) (lp : Nat) (zb : Fz) (φ : Nat → List (Nat × Hb) → Prop) (hY : ∀ (i : Nat) (p : Pc),i < ps.length → ps[ps.length - 1 - i]? = some p → YieldsA Tryz.prog lp (bwSS ps.length i p) zb (φ i) (φ (i + 1))) :
  CallsA Tryz.prog 115 [yv lp,.d (.q [pcs ps] 0)] [(900,.ab [] [] zb (φ 0))] (fun _ ob => ob = [(900,.ab [] [] zb (φ ps.length))]) := by
 refine callsA_of_vcO (T := tt) Tryz.func115 rfl rfl rfl rfl rfl ?_
 repeat' ((conv => whnf);first | refine Gs.id ?_ | (refine Bnd.mk (fun hm => ?_);(try simp only [smT] at hm)) | refine Rng.mk (by (try simp only [smT]);omega) ?_ | fail)
 all_goals (conv => whnf)
 refine ⟨⟨Nat,fun i => i ≤ ps.length,fun i => ps.length - i,fun i => ⟨[(0,yv lp),(1,.d (.q [pcs ps] 0)),(3,di ((ps.length : Int) - 1 - (i : Int)))],[(900,.ab [] [] zb (φ i))]⟩,0,Nat.zero_le _,⟨[(900,.k 900)],⟨by (try dsimp only);(repeat (refine LeT.cons rfl (by first | exact LeS.d (by first | exact LeD.u rfl | exact LeD.u (by simp;done) | exact LeD.q rfl | fail) | fail) ?_));exact LeT.nil,by (try dsimp only);repeat (first | exact LeO.nil | refine LeO.ab rfl rfl (by repeat (first | exact LeL.nil | fail)) (by first | rfl | fail) ?_ | fail)⟩⟩,fun i hi => ?_⟩⟩
 dsimp only at hi ⊢
 by_cases h9 : i < ps.length
 ·obtain ⟨p,hpp⟩ : ∃ p,ps[ps.length - 1 - i]? = some p := ⟨_,List.getElem?_eq_getElem (by omega)⟩
  have hy := hY i p h9 hpp
  have hrow : ∀ {K : List V → Prop} {j : Int},j = (ps.length : Int) - 1 - (i : Int) → K p.row → Ix (ps.map Pc.row) j K := fun hj k => ⟨⟨ps.length - 1 - i,p.row,by omega,by rw [List.getElem?_map,hpp];rfl,k⟩⟩
  have hst : (ps.length : Int) - 1 - (i : Int) - 1 = (ps.length : Int) - 1 - ((i + 1 : Nat) : Int) := by omega
  repeat' ((conv => whnf);first | refine hrow rfl ?_ | refine Gs.id ?_ | with_reducible refine Brn.F rfl ?_ | refine Brn.T (by (try simp only [smT]);first | rfl | omega | fail) ?_ | refine Rng.mk (by (try simp only [smT]);omega) ?_ | (refine RawY.call 900 rfl rfl rfl (by (conv => whnf);(repeat (refine Len.mk (by first | rfl | fail) ?_));exact trivial) rfl (hy) ?_))
  all_goals (conv => whnf)
  all_goals first | (exfalso;simp at *;omega) | exact ⟨i + 1,by omega,by omega,[(900,.k 900)],by (rw [← hst];exact ⟨by (try dsimp only);(repeat (refine LeT.cons rfl (by first | exact LeS.d (by first | exact LeD.u rfl | exact LeD.q rfl | fail) | fail) ?_));exact LeT.nil,by (try dsimp only);repeat (first | exact LeO.nil | refine LeO.ab rfl rfl (by repeat (first | exact LeL.nil | fail)) (by first | rfl | fail) ?_ | fail)⟩)⟩
 ·obtain rfl : i = ps.length := by omega
  repeat' ((conv => whnf);first | refine Gs.id ?_ | refine Brn.F (by (try simp only [smT]);first | rfl | omega | fail) ?_ | fail)
  all_goals (conv => whnf)
  all_goals first | exact RetO.mk ⟨[(900,.k 900)],_,_,.ts .nil,(by repeat (first | exact LeO.nil | refine LeO.ab rfl rfl (by repeat (first | exact LeL.nil | fail)) (by first | rfl | fail) ?_ | fail)),rfl⟩ | (exfalso;simp at *;omega)
end Go.Proofs.YtabmcfnefjipbaaGreatDoor
