/-
  Part 10 of the proofs of dsession_holds: laws and contracts that they need.
-/
import Derived.Test.YtabmcfnefjipbaaGreatDoorW9
set_option linter.unusedVariables false
set_option linter.unusedSimpArgs false
namespace Go.Proofs.YtabmcfnefjipbaaGreatDoor
open Go.RowKit
def lineM (l : List Ev) (e : Ev) (j : Nat) : Nat → Int
 | 0 => e.line
 | n + 1 => if n ≤ j then e.line else match l[n]? with
  | some x => if x.kind = 1 ∧ x.depth = e.depth then x.line else lineM l e j n
  | none => lineM l e j n
theorem lineM_le {l : List Ev} {e : Ev} {j n : Nat} (h : n ≤ j + 1) : lineM l e j n = e.line := by
 cases n with
 | zero => rfl
 | succ n => rw [lineM,if_pos (by omega)]
theorem lineM_succ {l : List Ev} {e x : Ev} {j n : Nat} (h : j < n) (hx : l[n]? = some x) : lineM l e j (n + 1) = if x.kind = 1 ∧ x.depth = e.depth then x.line else lineM l e j n := by
 rw [lineM,if_neg (by omega),hx]
set_option maxHeartbeats 2000000 in
theorem lineOf_R (l : List Ev) (j n : Nat) (e : Ev) (he : l[j]? = some e) (hjn : j < n) (hn : n ≤ l.length) (hl : l.length ≤ 1000000000) : CallsA Tryz.prog 62 [.d (.u (evs l)),di j,di n] [] (Is (di (lineM l e j n))) := by
 have hjl := (List.getElem?_eq_some_iff.1 he).1
 have hrowj : ∀ {K : List V → Prop} {m : Int},m = (j : Int) → K e.row → Ix (l.map Ev.row) m K := fun h k => ⟨⟨j,e.row,h,by rw [List.getElem?_map,he];rfl,k⟩⟩
 refine callsA_of_vc (T := tt) Tryz.func62 rfl rfl rfl rfl rfl ?_
 repeat' ((conv => whnf);first | refine hrowj rfl ?_ | refine Gs.id ?_ | refine Rng.mk (by (try simp only [smT]);omega) ?_ | fail)
 all_goals (conv => whnf)
 refine ⟨⟨Nat,fun i => j + 1 ≤ i ∧ i ≤ n,fun i => n - i,fun i => ⟨[(0,.d (.u (evs l))),(2,di n),(7,di (lineM l e j i)),(8,di e.depth),(9,di i)],[]⟩,j + 1,⟨Nat.le_refl _,by omega⟩,⟨[],by (dsimp only;rw [lineM_le (Nat.le_refl _)];exact ⟨by (try dsimp only);(repeat (refine LeT.cons rfl (by first | exact LeS.d (by first | exact LeD.u rfl | fail) | fail) ?_));exact LeT.nil,by (try dsimp only);repeat (first | exact LeO.nil | fail)⟩)⟩,fun i hi => ?_⟩⟩
 obtain ⟨hi1,hi2⟩ := hi
 dsimp only
 by_cases h9 : i < n
 ·obtain ⟨x,hx⟩ : ∃ x,l[i]? = some x := ⟨_,List.getElem?_eq_getElem (by omega)⟩
  have hrow : ∀ {K : List V → Prop} {m : Int},m = (i : Int) → K x.row → Ix (l.map Ev.row) m K := fun h k => ⟨⟨i,x.row,h,by rw [List.getElem?_map,hx];rfl,k⟩⟩
  have hst := lineM_succ (e := e) (show j < i by omega) hx
  by_cases hk : x.kind = 1
  ·by_cases hd : x.depth = e.depth
   ·rw [if_pos ⟨hk,hd⟩] at hst
    repeat' ((conv => whnf);first | refine hrow rfl ?_ | refine Gs.id ?_ | refine Brn.T (by (try simp only [smT]);first | rfl | assumption | omega | fail) ?_ | refine Rng.mk (by (try simp only [smT]);omega) ?_ | fail)
    all_goals (conv => whnf)
    all_goals exact ⟨i + 1,⟨by omega,by omega⟩,by omega,[],by rw [hst];exact ⟨by (try dsimp only);(repeat (refine LeT.cons rfl (by first | exact LeS.d (by first | exact LeD.u rfl | fail) | fail) ?_));exact LeT.nil,by (try dsimp only);repeat (first | exact LeO.nil | fail)⟩⟩
   ·rw [if_neg (fun h => hd h.2)] at hst
    generalize lineM l e j i = L at *
    repeat' ((conv => whnf);first | refine hrow rfl ?_ | refine Gs.id ?_ | refine Brn.T (by (try simp only [smT]);first | rfl | assumption | omega | fail) ?_ | refine Brn.F (by (try simp only [smT]);first | rfl | assumption | fail) ?_ | refine Rng.mk (by (try simp only [smT]);omega) ?_ | fail)
    all_goals (conv => whnf)
    all_goals exact ⟨i + 1,⟨by omega,by omega⟩,by omega,[],by rw [hst];exact ⟨by (try dsimp only);(repeat (refine LeT.cons rfl (by first | exact LeS.d (by first | exact LeD.u rfl | fail) | fail) ?_));exact LeT.nil,by (try dsimp only);repeat (first | exact LeO.nil | fail)⟩⟩
  ·rw [if_neg (fun h => hk h.1)] at hst
   generalize lineM l e j i = L at *
   repeat' ((conv => whnf);first | refine hrow rfl ?_ | refine Gs.id ?_ | with_reducible refine Brn.F rfl ?_ | refine Brn.T (by (try simp only [smT]);first | rfl | omega | fail) ?_ | refine Brn.F (by (try simp only [smT]);first | rfl | assumption | fail) ?_ | refine Rng.mk (by (try simp only [smT]);omega) ?_ | fail)
   all_goals (conv => whnf)
   all_goals exact ⟨i + 1,⟨by omega,by omega⟩,by omega,[],by rw [hst];exact ⟨by (try dsimp only);(repeat (refine LeT.cons rfl (by first | exact LeS.d (by first | exact LeD.u rfl | fail) | fail) ?_));exact LeT.nil,by (try dsimp only);repeat (first | exact LeO.nil | fail)⟩⟩
 ·obtain rfl : i = n := by omega
  repeat' ((conv => whnf);first | refine Gs.id ?_ | refine Brn.F (by (try simp only [smT]);first | rfl | omega | fail) ?_ | fail)
  all_goals (conv => whnf)
  all_goals exact Ret.is rfl
end Go.Proofs.YtabmcfnefjipbaaGreatDoor
namespace Go.Proofs.YtabmcfnefjipbaaGreatDoor
open Go.RowKit
theorem stkI_fu {l : List Ev} (hv : Vd l) : ∀ n,n ≤ l.length → fuI l (stkI l n) = actAt l n
 | 0,_ => rfl
 | i + 1,hi => by
  have he : l[i]? = some l[i] := List.getElem?_eq_getElem (by omega)
  have ok := hv.ok he
  have ih := stkI_fu hv i (by omega)
  have hact : actI l[i] i (stkI l i) = stkI l (i + 1) := by
   rw [stkI_succ he,actI,pushI,stepI]
   have := ok.k1
   by_cases h2 : l[i].kind = 2
   ·rw [if_pos h2,if_pos h2,if_neg (by omega)]
   ·rw [if_neg h2,if_neg h2]
    by_cases h1 : l[i].kind = 1
    ·rw [if_neg (by omega),if_neg (by simpa using h1)]
    ·rw [if_pos (by omega),if_pos h1]
  rw [← hact,fuI_act he,ih,actAt_succ he]
end Go.Proofs.YtabmcfnefjipbaaGreatDoor
namespace Go.Proofs.YtabmcfnefjipbaaGreatDoor
open Go.RowKit
def acOf (l : List Ev) (n j : Nat) : Ac := match l[j]? with
 | some e => ⟨e.md,e.fn,lineM l e j n⟩
 | none => ⟨ByteArray.mk #[],ByteArray.mk #[],0⟩
def DepI (l : List Ev) (ix : List Nat) : Prop := ∀ (k j : Nat),ix[k]? = some j → ∃ e,l[j]? = some e ∧ e.depth = (k : Int) + 1
theorem stk_line {l : List Ev} (hv : Vd l) : ∀ n,n ≤ l.length → stackAt l n = (stkI l n).map (acOf l n) ∧ DepI l (stkI l n)
 | 0,_ => ⟨rfl,fun k j h => by simp [stkI] at h⟩
 | n + 1,hn => by
  have he : l[n]? = some l[n] := List.getElem?_eq_getElem (by omega)
  obtain ⟨ih1,ih2⟩ := stk_line hv n (by omega)
  have ok := hv.ok he
  have hlt := stkI_lt (l := l) n
  have hlen := congrArg List.length (stkI_fu hv n (by omega))
  simp only [fuI,List.length_map] at hlen
  have hdep := ok.depth
  have k1 := ok.k1
  rw [stackAt_succ he,stkI_succ he,ih1]
  generalize hx : l[n] = x at *
  have hacs : ∀ j ∈ stkI l n,¬ (x.kind = 1 ∧ ∃ e,l[j]? = some e ∧ x.depth = e.depth) → acOf l (n + 1) j = acOf l n j := fun j hj hno => by
   obtain ⟨j1,j2⟩ := hlt j hj
   have hje : l[j]? = some l[j] := List.getElem?_eq_getElem j2
   unfold acOf
   rw [hje]
   dsimp only
   rw [lineM_succ j1 he,if_neg (fun h => hno ⟨h.1,l[j],hje,h.2⟩)]
  unfold stepL stepI
  unfold pushM at hdep
  generalize stkI l n = ix at *
  by_cases h2 : x.kind = 2
  ·rw [if_pos h2,if_pos h2]
   rw [if_pos h2] at hdep
   refine ⟨?_,fun k j hk => ?_⟩
   ·rw [List.map_append,List.map_congr_left fun j hj => hacs j hj (by rintro ⟨h,_⟩;omega)]
    congr 1
    simp only [List.map_cons,List.map_nil,acOf,he]
    rw [lineM_le (Nat.le_refl _)]
   ·rcases Nat.lt_or_ge k ix.length with hkl | hkl
    ·rw [List.getElem?_append_left hkl] at hk
     exact ih2 k j hk
    ·rw [List.getElem?_append_right hkl] at hk
     rcases h0 : k - ix.length with _ | m
     ·rw [h0] at hk
      simp at hk
      subst hk
      refine ⟨x,he,?_⟩
      rw [hdep,List.length_append,← hlen]
      simp;omega
     ·rw [h0] at hk;simp at hk
  ·rw [if_neg h2,if_neg h2]
   rw [if_neg h2] at hdep
   by_cases h1 : x.kind = 1
   ·rw [if_pos h1,if_neg (by simpa using h1)]
    refine ⟨?_,ih2⟩
    rcases List.eq_nil_or_concat ix with rfl | ⟨L,j,rfl⟩
    ·rfl
    ·rw [List.concat_eq_append] at *
     have hL : ∀ i ∈ L,acOf l (n + 1) i = acOf l n i := fun i hi => hacs i (by simp [hi]) (by
      rintro ⟨_,e,hie,hde⟩
      obtain ⟨m,hm⟩ := List.mem_iff_getElem?.1 hi
      have hml := (List.getElem?_eq_some_iff.1 hm).1
      obtain ⟨e',he',hd'⟩ := ih2 m i (by rw [List.getElem?_append_left hml];exact hm)
      rw [hie] at he'
      injection he' with he'
      subst he'
      rw [hdep,← hlen,List.length_append] at hde
      simp at hde
      omega)
     obtain ⟨e,hje,hd⟩ := ih2 L.length j (by simp)
     obtain ⟨j1,_⟩ := hlt j (by simp)
     have hj : acOf l (n + 1) j = ⟨(acOf l n j).md,(acOf l n j).fn,x.line⟩ := by
      unfold acOf
      rw [hje]
      dsimp only
      rw [lineM_succ j1 he,if_pos ⟨h1,by rw [hdep,← hlen,hd];simp⟩]
     simp only [setLn,List.map_append,List.map_cons,List.map_nil,List.getLast?_append,List.getLast?_singleton,Option.some_or,List.dropLast_concat]
     rw [List.map_congr_left hL,hj]
   ·rw [if_neg h1,if_pos h1]
    refine ⟨?_,fun k j hk => ?_⟩
    ·rw [List.map_congr_left fun j hj => hacs j (List.dropLast_subset _ hj) (by rintro ⟨h,_⟩;exact h1 h),List.map_dropLast]
    ·rw [List.getElem?_dropLast] at hk
     split at hk
     ·exact ih2 k j hk
     ·cases hk
end Go.Proofs.YtabmcfnefjipbaaGreatDoor
namespace Go.Proofs.YtabmcfnefjipbaaGreatDoor
open Go.RowKit
def acP (a : Ac) : Pc := ⟨a.md,a.fn,a.line⟩
def plOf (l : List Ev) (n j : Nat) : Pc := acP (acOf l n j)
def posI (l : List Ev) (p : Nat) : List Nat := match l[p]? with
 | some e => if e.kind = 2 then stkI l p ++ [p] else stkI l p
 | none => []
def avA (a : Av) : Ac := ⟨a.md,a.fn,a.line⟩
theorem setAv_ac (s : List Av) (n i : Int) : (setAv s n i).map avA = setLn (s.map avA) n := by
 unfold setAv setLn
 rcases List.eq_nil_or_concat s with rfl | ⟨L,a,rfl⟩
 ·rfl
 ·simp [avA]
theorem avAt_ac {l : List Ev} {p : Nat} : ∀ i,i ≤ p → i ≤ l.length → (avAt l p i).map avA = stackAt l i
 | 0,_,_ => rfl
 | i + 1,hip,hi => by
  have he : l[i]? = some l[i] := List.getElem?_eq_getElem (by omega)
  have ih := avAt_ac (l := l) (p := p) i (by omega) (by omega)
  rw [avAt_succ he,stackAt_succ he,stepV,stepL]
  by_cases h2 : l[i].kind = 2
  ·rw [if_pos h2,if_pos h2,List.map_append,ih];rfl
  ·rw [if_neg h2,if_neg h2]
   by_cases h1 : l[i].kind = 1
   ·rw [if_pos h1,if_pos h1,setAv_ac,ih]
   ·rw [if_neg h1,if_neg h1,if_pos (by omega),List.map_dropLast,ih]
theorem places_agree {l : List Ev} (hv : Vd l) {p : Nat} (hp : p < l.length) : (activeM l p).map Av.pc = (posI l p).map (plOf l (p + 1)) := by
 have he : l[p]? = some l[p] := List.getElem?_eq_getElem hp
 have hpc : ∀ s : List Av,s.map Av.pc = (s.map avA).map acP := fun s => by rw [List.map_map];rfl
 have hpl : ∀ (n : Nat) (s : List Nat),s.map (plOf l n) = (s.map (acOf l n)).map acP := fun n s => by rw [List.map_map];rfl
 have e : activeM l p = avAt l p (p + 1) := by rw [activeM,if_neg (by omega),Int.toNat_natCast]
 have ih := avAt_ac (l := l) (p := p) p (Nat.le_refl _) (by omega)
 obtain ⟨s1,s2⟩ := stk_line hv (p + 1) (by omega)
 obtain ⟨t1,t2⟩ := stk_line hv p (by omega)
 rw [e,hpc,hpl]
 congr 1
 rw [avAt_succ he,stepV]
 rw [stackAt_succ he,stkI_succ he,stepL,stepI] at s1
 unfold posI
 rw [he]
 dsimp only
 by_cases h2 : l[p].kind = 2
 ·rw [if_pos h2,if_pos h2] at s1
  rw [if_pos h2,if_pos h2,List.map_append,ih,← s1];rfl
 ·rw [if_neg h2,if_neg h2] at s1
  rw [if_neg h2,if_neg h2]
  by_cases h1 : l[p].kind = 1
  ·rw [if_pos h1,if_neg (by simpa using h1)] at s1
   rw [if_pos h1,setAv_ac,ih,s1]
  ·rw [if_neg h1,if_neg (Nat.lt_irrefl _),ih,t1]
   refine List.map_congr_left fun j hj => ?_
   have hlt := (stkI_lt (l := l) p j hj).1
   unfold acOf
   cases l[j]? with
   | none => rfl
   | some x =>
    dsimp only
    rw [lineM_succ hlt he,if_neg (fun h => h1 h.1)]
def shownM (l : List Ev) (d : Int) (n : ByteArray) : Nat → Option ByteArray
 | 0 => none
 | i + 1 => match l[i]? with
  | some e => if e.depth = d ∧ e.kind = 1 then varM n e.locs else if e.depth = d ∧ e.kind = 2 then none else shownM l d n i
  | none => shownM l d n i
theorem shownM_succ {l : List Ev} {d : Int} {n : ByteArray} {i : Nat} {e : Ev} (h : l[i]? = some e) : shownM l d n (i + 1) = if e.depth = d ∧ e.kind = 1 then varM n e.locs else if e.depth = d ∧ e.kind = 2 then none else shownM l d n i := by rw [shownM,h]
def stopT (l : List Ev) (n : ByteArray) (a : Av) : Option ByteArray := if a.stop < 0 then none else match l[a.stop.toNat]? with
 | some e => varM n e.locs
 | none => none
theorem avAt_shown {l : List Ev} (hv : Vd l) (n : ByteArray) {p : Nat} : ∀ i,i ≤ p + 1 → i ≤ l.length → ∀ (k : Nat) (a : Av),(avAt l p i)[k]? = some a → stopT l n a = shownM l ((k : Int) + 1) n i
 | 0,_,_,k,a,h => by simp [avAt] at h
 | i + 1,hip,hi,k,a,h => by
  have he : l[i]? = some l[i] := List.getElem?_eq_getElem (by omega)
  have ih := avAt_shown hv n (p := p) i (by omega) (by omega)
  have ok := hv.ok he
  have hlen := congrArg List.length (avAt_fu hv (p := p) i (by omega) (by omega))
  rw [List.length_map] at hlen
  have hdep := ok.depth
  have hlast := ok.last
  rw [avAt_succ he,stepV] at h
  rw [shownM_succ he]
  unfold pushM at hdep hlast
  generalize hx : l[i] = x at *
  have hkl := (List.getElem?_eq_some_iff.1 h).1
  by_cases h2 : x.kind = 2
  ·rw [if_pos h2] at h hdep
   rw [if_neg (by omega)]
   rw [List.length_append,← hlen] at hdep
   simp only [List.length_cons,List.length_nil] at hdep
   rcases Nat.lt_or_ge k (avAt l p i).length with hk | hk
   ·rw [List.getElem?_append_left hk] at h
    rw [if_neg (by omega)]
    exact ih k a h
   ·rw [List.getElem?_append_right hk] at h
    rcases h0 : k - (avAt l p i).length with _ | m
    ·rw [h0] at h
     simp at h
     subst h
     rw [if_pos (by omega)]
     rfl
    ·rw [h0] at h;simp at h
  ·rw [if_neg h2] at h hdep hlast
   rw [← hlen] at hdep
   rw [if_neg (c := x.depth = _ ∧ x.kind = 2) (fun h => h2 h.2)]
   by_cases h1 : x.kind = 1
   ·rw [if_pos h1] at h
    rcases List.eq_nil_or_concat (avAt l p i) with h0 | ⟨L,b,h0⟩
    ·rw [h0] at h;simp [setAv] at h
    ·rw [List.concat_eq_append] at h0
     rw [h0] at h hdep
     rw [h0] at ih
     simp only [setAv,List.getLast?_append,List.getLast?_singleton,Option.some_or,List.dropLast_concat] at h
     rw [List.length_append] at hdep
     simp only [List.length_cons,List.length_nil] at hdep
     rcases Nat.lt_or_ge k L.length with hk | hk
     ·rw [List.getElem?_append_left hk] at h
      rw [if_neg (by omega)]
      exact ih k a (by rw [List.getElem?_append_left hk];exact h)
     ·rw [List.getElem?_append_right hk] at h
      rcases h00 : k - L.length with _ | m
      ·rw [h00] at h
       simp at h
       subst h
       rw [if_pos ⟨by omega,h1⟩]
       unfold stopT
       dsimp only
       rw [if_neg (by omega),Int.toNat_natCast,he]
      ·rw [h00] at h;simp at h
   ·rw [if_neg h1] at h
    rw [if_neg (fun h => h1 h.2)]
    split at h
    ·rw [List.getElem?_dropLast] at h
     split at h
     ·exact ih k a h
     ·cases h
    ·exact ih k a h
theorem showM_eq (l : List Ev) (p : Int) (n : ByteArray) : showM l p n = match (activeM l p).getLast? with
  | none => none
  | some a => stopT l n a := rfl
theorem shown_agree {l : List Ev} (hv : Vd l) (n : ByteArray) {p : Nat} {e : Ev} (he : l[p]? = some e) : showM l p n = shownM l e.depth n (p + 1) := by
 have hp := (List.getElem?_eq_some_iff.1 he).1
 have ea : activeM l p = avAt l p (p + 1) := by rw [activeM,if_neg (by omega),Int.toNat_natCast]
 have hs := avAt_shown hv n (p := p) (p + 1) (Nat.le_refl _) (by omega)
 have ok := hv.ok he
 have hlen := congrArg List.length (avAt_fu hv (p := p) p (Nat.le_refl _) (by omega))
 rw [List.length_map] at hlen
 have hdep := ok.depth
 have hlast := ok.last
 have hle : ((avAt l p (p + 1)).length : Int) = e.depth ∧ avAt l p (p + 1) ≠ [] := by
  rw [avAt_succ he,stepV]
  unfold pushM at hdep hlast
  by_cases h2 : e.kind = 2
  ·rw [if_pos h2] at hdep ⊢
   rw [List.length_append,← hlen] at hdep
   refine ⟨?_,by simp⟩
   rw [hdep];simp
  ·rw [if_neg h2] at hdep hlast ⊢
   have hne : avAt l p p ≠ [] := fun h0 => by
    rw [h0] at hlen
    rw [List.eq_nil_of_length_eq_zero hlen.symm] at hlast
    cases hlast
   by_cases h1 : e.kind = 1
   ·rw [if_pos h1]
    have h3 := congrArg List.length (setAv_fu (avAt l p p) e.line p)
    simp only [List.length_map] at h3
    refine ⟨by rw [h3,hdep,hlen],fun h0 => ?_⟩
    rw [h0] at h3
    exact hne (List.eq_nil_of_length_eq_zero h3.symm)
   ·rw [if_neg h1,if_neg (Nat.lt_irrefl _)]
    exact ⟨by rw [hdep,hlen],hne⟩
 rw [showM_eq,ea]
 obtain ⟨h3,h4⟩ := hle
 rcases List.eq_nil_or_concat (avAt l p (p + 1)) with h0 | ⟨L,a,h0⟩
 ·exact absurd h0 h4
 ·rw [List.concat_eq_append] at h0
  have h5 := hs L.length a (by rw [h0];simp)
  rw [h0,List.length_append] at h3
  simp only [List.length_cons,List.length_nil] at h3
  rw [h0,List.getLast?_append,List.getLast?_singleton,Option.some_or]
  dsimp only
  rw [h5,show ((L.length : Int) + 1) = e.depth by omega]
theorem active_out {l : List Ev} {p : Int} (h : ¬ (0 ≤ p ∧ p ≤ (l.length : Int) - 1)) (hp : -1 ≤ p ∧ p ≤ (l.length : Int)) : activeM l p = [] := by
 rw [activeM,if_pos (by omega)]
end Go.Proofs.YtabmcfnefjipbaaGreatDoor
namespace Go.Proofs.YtabmcfnefjipbaaGreatDoor
open Go.RowKit
def isCh (l : List Ev) (md fn n : ByteArray) (i : Nat) (e : Ev) : Prop := e.kind = 1 ∧ e.md = md ∧ e.fn = fn ∧ varM n e.locs ≠ shownM l e.depth n i
instance (l : List Ev) (md fn n : ByteArray) (i : Nat) (e : Ev) : Decidable (isCh l md fn n i e) := by unfold isCh;infer_instance
end Go.Proofs.YtabmcfnefjipbaaGreatDoor
namespace Go.Proofs.YtabmcfnefjipbaaGreatDoor
open Go.RowKit
set_option maxHeartbeats 1000000 in
theorem variable_R (e : Ev) (n : ByteArray) (hl : e.locs.length ≤ 9000000000) : CallsA Tryz.prog 64 [.a e.ds,dsr n] [] (Is (varS (varM n e.locs))) := by
 refine callsA_of_vc (T := tt) Tryz.func64 rfl rfl rfl rfl rfl ?_
 repeat' ((conv => whnf);first | refine Gs.id ?_ | fail)
 all_goals (conv => whnf)
 refine ⟨⟨Nat,fun i => i ≤ e.locs.length ∧ varM n e.locs = varM n (e.locs.drop i),fun i => e.locs.length - i,fun i => ⟨[(1,dsr n),(2,.d (.p 2 0)),(6,di i)],[(2,.bx 58 e.ds)]⟩,0,⟨Nat.zero_le _,rfl⟩,⟨[(2,.k 2)],⟨by (try dsimp only);(repeat (refine LeT.cons rfl (by first | exact LeS.d (by first | exact LeD.u rfl | exact LeD.p rfl | fail) | fail) ?_));exact LeT.nil,by (try dsimp only);repeat (first | exact LeO.nil | refine LeO.bx rfl rfl (by repeat (first | exact LeL.nil | refine LeL.cons (by first | exact LeD.u rfl | fail) ?_)) ?_ | fail)⟩⟩,fun i hi => ?_⟩⟩
 obtain ⟨hi,he⟩ := hi
 dsimp only
 rw [he]
 by_cases h9 : i < e.locs.length
 ·rw [List.drop_eq_getElem_cons h9,varM]
  have hrow : ∀ {K : List V → Prop},K (locR e.locs[i]) → Ix (e.locs.map locR) (i : Int) K := fun k => Ix.map rfl h9 k
  generalize e.locs[i] = p at *
  have hq := toList_beq p.1 n
  by_cases hp : p.1 = n
  ·rw [decide_eq_true hp] at hq
   rw [if_pos hp]
   repeat' ((conv => whnf);first | refine hrow ?_ | rw [hq] | refine Gs.id ?_ | with_reducible refine Brn.T rfl ?_ | refine Brn.T (by (try simp only [smT]);first | rfl | omega | fail) ?_ | (refine Bnd.mk (fun hm => ?_);(try simp only [smT] at hm)) | fail)
   all_goals (conv => whnf)
   all_goals exact Ret.is rfl
  ·rw [decide_eq_false hp] at hq
   rw [if_neg hp]
   repeat' ((conv => whnf);first | refine hrow ?_ | rw [hq] | refine Gs.id ?_ | with_reducible refine Brn.F rfl ?_ | refine Brn.T (by (try simp only [smT]);first | rfl | omega | fail) ?_ | (refine Bnd.mk (fun hm => ?_);(try simp only [smT] at hm)) | refine Rng.mk (by (try simp only [smT]);omega) ?_ | fail)
   all_goals (conv => whnf)
   all_goals exact ⟨i + 1,⟨by omega,rfl⟩,by omega,[(2,.k 2)],⟨by (try dsimp only);(repeat (refine LeT.cons rfl (by first | exact LeS.d (by first | exact LeD.u rfl | exact LeD.p rfl | fail) | fail) ?_));exact LeT.nil,by (try dsimp only);repeat (first | exact LeO.nil | refine LeO.bx rfl rfl (by repeat (first | exact LeL.nil | refine LeL.cons (by first | exact LeD.u rfl | fail) ?_)) ?_ | fail)⟩⟩
 ·obtain rfl : i = e.locs.length := by omega
  rw [List.drop_length,varM]
  repeat' ((conv => whnf);first | refine Gs.id ?_ | refine Brn.F (by (try simp only [smT]);first | rfl | omega | fail) ?_ | (refine Bnd.mk (fun hm => ?_);(try simp only [smT] at hm)) | fail)
  all_goals (conv => whnf)
  all_goals exact Ret.is rfl
set_option maxHeartbeats 2000000 in
theorem hit_R (e : Ev) (l : List Bp) (he : e.locs.length ≤ 9000000000) (hl : l.length ≤ 9000000000) : CallsA Tryz.prog 34 [.a e.ds,.d (.u (bks l))] [] (Is (db (l.any (hitB e)))) := by
 refine callsA_of_vc (T := tt) Tryz.func34 rfl rfl rfl rfl rfl ?_
 repeat' ((conv => whnf);first | refine Gs.id ?_ | fail)
 all_goals (conv => whnf)
 refine ⟨⟨Nat,fun i => i ≤ l.length ∧ l.any (hitB e) = (l.drop i).any (hitB e),fun i => l.length - i,fun i => ⟨[(1,.d (.u (bks l))),(2,.d (.p 2 0)),(5,di i)],[(2,.bx 58 e.ds)]⟩,0,⟨Nat.zero_le _,rfl⟩,⟨[(2,.k 2)],⟨by (try dsimp only);(repeat (refine LeT.cons rfl (by first | exact LeS.d (by first | exact LeD.u rfl | exact LeD.p rfl | fail) | fail) ?_));exact LeT.nil,by (try dsimp only);repeat (first | exact LeO.nil | refine LeO.bx rfl rfl (by repeat (first | exact LeL.nil | refine LeL.cons (by first | exact LeD.u rfl | fail) ?_)) ?_ | fail)⟩⟩,fun i hi => ?_⟩⟩
 obtain ⟨hi,hq⟩ := hi
 dsimp only
 rw [hq]
 by_cases h9 : i < l.length
 ·rw [List.drop_eq_getElem_cons h9,List.any_cons]
  have hrow : ∀ {K : List V → Prop},K (Bp.row l[i]) → Ix (l.map Bp.row) (i : Int) K := fun k => Ix.map rfl h9 k
  generalize l[i] = b at *
  have hv := variable_R e b.nm he
  have h1 := toList_beq b.md e.md
  have h2 := toList_beq b.nm emB
  have h3 := toList_beq ((varM b.nm e.locs).getD emB) b.tx
  have hx : hitB e b = (decide (b.md = e.md) && (decide (b.line = e.line) && (decide (b.nm = emB) || ((varM b.nm e.locs).isSome && decide ((varM b.nm e.locs).getD emB = b.tx))))) := rfl
  generalize decide (b.md = e.md) = x1 at *
  generalize decide (b.nm = emB) = x2 at *
  generalize decide ((varM b.nm e.locs).getD emB = b.tx) = x3 at *
  generalize varM b.nm e.locs = o at *
  generalize hitB e b = r at *
  clear hq
  generalize hx4 : decide (b.line = e.line) = x4 at *
  generalize hx5 : o.isSome = x5 at *
  have key : x1 = false ∨ (x1 = true ∧ x4 = false) ∨ (x1 = true ∧ x4 = true ∧ x2 = true) ∨ (x1 = true ∧ x4 = true ∧ x2 = false ∧ x5 = false) ∨ (x1 = true ∧ x4 = true ∧ x2 = false ∧ x5 = true ∧ x3 = false) ∨ (x1 = true ∧ x4 = true ∧ x2 = false ∧ x5 = true ∧ x3 = true) := by
   clear hx hv h1 h2 h3 hrow
   cases x1 <;> cases x4 <;> cases x2 <;> cases x5 <;> cases x3 <;> simp
  rcases key with rfl | ⟨rfl,rfl⟩ | ⟨rfl,rfl,rfl⟩ | ⟨rfl,rfl,rfl,rfl⟩ | ⟨rfl,rfl,rfl,rfl,rfl⟩ | ⟨rfl,rfl,rfl,rfl,rfl⟩
  all_goals
   subst hx
   repeat' ((conv => whnf);first | refine hrow ?_ | rw [h1] | rw [h2] | rw [h3] | refine Gs.id ?_ | with_reducible refine Brn.T rfl ?_ | with_reducible refine Brn.F rfl ?_ | refine Brn.T (by (try simp only [smT]);first | rfl | assumption | omega | fail) ?_ | refine Brn.F (by (try simp only [smT]);first | rfl | assumption | fail) ?_ | (refine Brn.mk (fun hb => ?_) (fun hb => ?_) <;> (try simp only [smT] at hb) <;> (try (exact absurd trivial hb)) <;> (try (exfalso;omega))) | (refine Bnd.mk (fun hm => ?_);(try simp only [smT] at hm)) | refine Rng.mk (by (try simp only [smT]);omega) ?_ | (refine CL.mk (Or.inl ?_);(conv => whnf);refine Cl.is (hv) rfl (by first | exact fun _ => rfl | fail) ?_) | fail)
   all_goals (conv => whnf)
   all_goals first | exact Ret.is rfl | (exfalso;clear hv h1 h2 h3 hrow hi hl he;simp_all;done) | exact ⟨i + 1,⟨by omega,rfl⟩,by omega,[(2,.k 2)],⟨by (try dsimp only);(repeat (refine LeT.cons rfl (by first | exact LeS.d (by first | exact LeD.u rfl | exact LeD.p rfl | fail) | fail) ?_));exact LeT.nil,by (try dsimp only);repeat (first | exact LeO.nil | refine LeO.bx rfl rfl (by repeat (first | exact LeL.nil | refine LeL.cons (by first | exact LeD.u rfl | fail) ?_)) ?_ | fail)⟩⟩
 ·obtain rfl : i = l.length := by omega
  rw [List.drop_length,List.any_nil]
  repeat' ((conv => whnf);first | refine Gs.id ?_ | refine Brn.F (by (try simp only [smT]);first | rfl | omega | fail) ?_ | (refine Bnd.mk (fun hm => ?_);(try simp only [smT] at hm)) | fail)
  all_goals (conv => whnf)
  all_goals exact Ret.is rfl
end Go.Proofs.YtabmcfnefjipbaaGreatDoor
namespace Go.Proofs.YtabmcfnefjipbaaGreatDoor
open Go.RowKit
theorem codeB_08 {b : Bp} {bf : List Bp} (h : codeB b bf = 0 ∨ codeB b bf = 8) : dottedM b.md = true ∧ (b.nm = emB ∨ nameB b.nm = true) ∧ 1 ≤ b.line ∧ (b.nm ≠ emB ∨ b.tx = emB) ∧ (b.tx.size : Int) ≤ 4000 ∧ codeB b bf = (if bf.any (eqBk b) then 8 else 0) := by
 unfold codeB at h ⊢
 split at h
 ·rcases h with h | h <;> cases h
 rename_i g1
 split at h
 ·rcases h with h | h <;> cases h
 rename_i g2
 split at h
 ·rcases h with h | h <;> cases h
 rename_i g3
 split at h
 ·rcases h with h | h <;> cases h
 rename_i g4
 rw [if_neg g1,if_neg g2,if_neg g3,if_neg g4]
 refine ⟨?_,?_,by omega,?_,by omega,rfl⟩
 ·cases hd : dottedM b.md
  ·exact absurd (.inl hd) g1
  ·rfl
 ·by_cases hn : b.nm = emB
  ·exact .inl hn
  ·refine .inr ?_
   cases hd : nameB b.nm
   ·exact absurd (.inr ⟨hn,hd⟩) g1
   ·rfl
 ·by_cases hn : b.nm = emB
  ·by_cases ht : b.tx = emB
   ·exact .inr ht
   ·exact absurd ⟨hn,ht⟩ g3
  ·exact .inl hn
set_option maxHeartbeats 4000000 in
theorem breaks_R (l : List Bp) (hsz : ∀ b ∈ l,b.md.size ≤ 1000000000000) : CallsA Tryz.prog 19 [.d (.u (bks l))] [] (Is (dfa (validB l).1 (validB l).2)) := by
 by_cases hl : 50 < l.length
 ·have e : validB l = (2,-1) := by rw [validB,if_pos hl]
  rw [e]
  refine callsA_of_vc (T := tt) Tryz.func19 rfl rfl rfl rfl rfl ?_
  repeat' ((conv => whnf);first | refine Gs.id ?_ | refine Brn.T (by (try simp only [smT]);first | rfl | omega | fail) ?_ | (refine Bnd.mk (fun hm => ?_);(try simp only [smT] at hm)) | (refine CL.mk (Or.inl ?_);(conv => whnf);refine Cl.nl (by repeat (first | exact NlSs.nil | exact NlS.refl | refine NlSs.cons ?_ ?_ | fail)) (at_R 2 (-1)) rfl (by first | exact fun _ => rfl | fail) ?_) | fail)
  all_goals (conv => whnf)
  all_goals first | exact Ret.is rfl | (exfalso;simp_all;done)
 ·have e : validB l = bFrom 0 [] l := by rw [validB,if_neg hl]
  rw [e]
  refine callsA_of_vc (T := tt) Tryz.func19 rfl rfl rfl rfl rfl ?_
  repeat' ((conv => whnf);first | refine Gs.id ?_ | refine Brn.F (by (try simp only [smT]);first | rfl | omega | fail) ?_ | (refine Bnd.mk (fun hm => ?_);(try simp only [smT] at hm)) | fail)
  all_goals (conv => whnf)
  refine ⟨⟨Nat,fun i => i ≤ l.length ∧ bFrom 0 [] l = bFrom i (l.take i) (l.drop i),fun i => l.length - i,fun i => ⟨[(0,.d (.u (bks l))),(2,.d (.p 2 0)),(3,di i)],[(2,.bx 25 [.u (.int .i64 0),.u (.int .i64 0)])]⟩,0,⟨Nat.zero_le _,rfl⟩,⟨[(2,.k 2)],⟨by (try dsimp only);(repeat (refine LeT.cons rfl (by first | exact LeS.d (by first | exact LeD.u rfl | exact LeD.p rfl | fail) | fail) ?_));exact LeT.nil,by (try dsimp only);repeat (first | exact LeO.nil | refine LeO.bx rfl rfl (by repeat (first | exact LeL.nil | refine LeL.cons (by first | exact LeD.u rfl | fail) ?_)) ?_ | fail)⟩⟩,fun i hi => ?_⟩⟩
  obtain ⟨hi,hq⟩ := hi
  dsimp only
  rw [hq]
  by_cases h9 : i < l.length
  ·have hdr := List.drop_eq_getElem_cons h9
   have hrow : ∀ {K : List V → Prop},K (Bp.row l[i]) → Ix (l.map Bp.row) (i : Int) K := fun k => Ix.map rfl h9 k
   have hrow2 : ∀ (k : Nat),k < i → ∃ x,(l.take i)[k]? = some x ∧ ∀ {K : List V → Prop},K (Bp.row x) → Ix (l.map Bp.row) (k : Int) K := fun k hk => ⟨l[k]'(by omega),by rw [List.getElem?_take_of_lt hk,List.getElem?_eq_getElem (by omega)],fun h => Ix.map rfl (by omega) h⟩
   have htk : l.take (i + 1) = l.take i ++ [l[i]] := by rw [List.take_add_one,List.getElem?_eq_getElem h9];rfl
   have hbl : (l.take i).length = i := by rw [List.length_take];omega
   have hds := hsz _ (List.getElem_mem h9)
   have h08 := codeB_08 (b := l[i]) (bf := l.take i)
   rw [hdr,bFrom,← htk]
   generalize hcd : codeB l[i] (l.take i) = cd at *
   unfold codeB at hcd
   generalize l[i] = b at *
   generalize l.take i = bf at *
   have hd := dotted_R b.md hds
   rw [← dottedM_eq] at hd
   have hn := name_R b.nm
   have h1 := toList_beq b.nm emB
   have h2 := toList_beq b.tx emB
   generalize dottedM b.md = bd at *
   generalize nameB b.nm = bn at *
   have ha := fun a c => at_R a c
   clear hq hdr htk e hl
   by_cases hc8 : cd = 0 ∨ cd = 8
   ·obtain ⟨rfl,k2,k3,k4,k5,k6⟩ := h08 hc8
    clear hcd h08 hc8
    generalize hx1 : decide (b.nm = emB) = x1 at *
    generalize hx2 : decide (b.tx = emB) = x2 at *
    have k2' : x1 = true ∨ (x1 = false ∧ bn = true) := by
     rw [← hx1]
     by_cases hne : b.nm = emB
     ·simp [hne]
     ·exact .inr ⟨by simp [hne],k2.resolve_left hne⟩
    have k4' : x1 = false ∨ (x1 = true ∧ x2 = true) := by
     rw [← hx1,← hx2]
     by_cases hne : b.nm = emB
     ·exact .inr ⟨by simp [hne],by simpa using k4.resolve_left (fun h => h hne)⟩
     ·simp [hne]
    clear k2 k4 hx1 hx2
    have key : (x1 = true ∧ x2 = true) ∨ (x1 = false ∧ bn = true) := by
     rcases k2' with h | h
     ·rcases k4' with h' | h'
      ·rw [h] at h';cases h'
      ·exact .inl h'
     ·exact .inr h
    clear k2' k4'
    rcases key with ⟨rfl,rfl⟩ | ⟨rfl,rfl⟩
    all_goals
     repeat' ((conv => whnf);first | rw [h1] | rw [h2] | refine hrow ?_ | refine Gs.id ?_ | with_reducible refine Brn.T rfl ?_ | with_reducible refine Brn.F rfl ?_ | refine Brn.T (by (try simp only [smT]);first | rfl | omega | fail) ?_ | refine Brn.F (by (try simp only [smT]);first | rfl | assumption | fail) ?_ | (refine Bnd.mk (fun hm => ?_);(try simp only [smT] at hm)) | (refine CL.mk (Or.inl ?_);(conv => whnf);first | refine Cl.is (hd) rfl (by first | exact fun _ => rfl | fail) ?_ | refine Cl.is (hn) rfl (by first | exact fun _ => rfl | fail) ?_ | fail) | fail)
     all_goals (conv => whnf)
     all_goals first | (exfalso;clear hd hn h1 h2 hrow hrow2 ha;simp at *;omega) | skip
     refine ⟨⟨Nat,fun k => k ≤ i ∧ bf.any (eqBk b) = (bf.drop k).any (eqBk b),fun k => i - k,fun k => ⟨[(0,.d (.u (bks l))),(2,.d (.p 2 0)),(3,di i),(4,.d (.p 4 0)),(5,di k)],[(2,.bx 25 [.u (.int .i64 0),.u (.int .i64 0)]),(4,.bx 62 b.ds)]⟩,0,⟨Nat.zero_le _,rfl⟩,⟨[(2,.k 2),(4,.k 4)],⟨by (try dsimp only);(repeat (refine LeT.cons rfl (by first | exact LeS.d (by first | exact LeD.u rfl | exact LeD.p rfl | fail) | fail) ?_));exact LeT.nil,by (try dsimp only);repeat (first | exact LeO.nil | refine LeO.bx rfl rfl (by repeat (first | exact LeL.nil | refine LeL.cons (by first | exact LeD.u rfl | fail) ?_)) ?_ | fail)⟩⟩,fun k hk => ?_⟩⟩
     obtain ⟨hk,hqk⟩ := hk
     dsimp only
     by_cases hki : k < i
     ·obtain ⟨x,hx,hrw⟩ := hrow2 k hki
      have hdk : bf.drop k = x :: bf.drop (k + 1) := by
       have := (List.getElem?_eq_some_iff.1 hx)
       obtain ⟨y1,y2⟩ := this
       rw [List.drop_eq_getElem_cons y1,y2]
      rw [hdk,List.any_cons] at hqk
      have e1 := toList_beq x.md b.md
      have e3 := toList_beq x.nm b.nm
      have e4 := toList_beq x.tx b.tx
      have e0 : eqBk b x = (decide (x.md = b.md) && (decide (b.line = x.line) && (decide (x.nm = b.nm) && decide (x.tx = b.tx)))) := by
       unfold eqBk
       rw [show decide (b.md = x.md) = decide (x.md = b.md) from decide_eq_decide.2 eq_comm,show decide (b.nm = x.nm) = decide (x.nm = b.nm) from decide_eq_decide.2 eq_comm,show decide (b.tx = x.tx) = decide (x.tx = b.tx) from decide_eq_decide.2 eq_comm]
      generalize decide (x.md = b.md) = x1 at *
      generalize decide (x.nm = b.nm) = x3 at *
      generalize decide (x.tx = b.tx) = x4 at *
      clear hrow2 hrow hd hn h1 h2 hx hdk
      cases hex : eqBk b x
      ·rw [hex,Bool.false_or] at hqk
       rw [hex] at e0
       replace e0 := e0.symm
       repeat' ((conv => whnf);first | refine hrw ?_ | rw [e1] | rw [e3] | rw [e4] | refine Gs.id ?_ | refine Brn.T (by (try simp only [smT]);first | rfl | omega | fail) ?_ | (refine Brn.mk (fun hb => ?_) (fun hb => ?_) <;> (try simp only [smT] at hb) <;> (try (exact absurd trivial hb)) <;> (try (exfalso;omega))) | refine Rng.mk (by (try simp only [smT]);omega) ?_ | refine Eqv.mk (by kernel_rfl) ?_ | refine Drw.of (T := tt) (i := 18) [] [] [(0,true),(1,true),(2,true),(3,true),(4,true),(5,true)] (by kernel_rfl) ?_ | (refine CL.mk (Or.inl ?_);(conv => whnf);refine Cl.is (ha _ _) rfl (by first | exact fun _ => rfl | fail) ?_) | fail)
       all_goals (conv => whnf)
       all_goals clear e1 e3 e4 hrw ha
       all_goals first | (exfalso;obtain ⟨q1,q2,q3,q4,_⟩ := hb;rw [q1,q2,q3,q4] at e0;simp at e0;done) | exact ⟨k + 1,⟨by omega,hqk⟩,by omega,[(2,.k 2),(4,.k 4)],⟨by (try dsimp only);(repeat (refine LeT.cons rfl (by first | exact LeS.d (by first | exact LeD.u rfl | exact LeD.p rfl | fail) | fail) ?_));exact LeT.nil,by (try dsimp only);repeat (first | exact LeO.nil | refine LeO.bx rfl rfl (by repeat (first | exact LeL.nil | refine LeL.cons (by first | exact LeD.u rfl | fail) ?_)) ?_ | fail)⟩⟩
      ·rw [hex,Bool.true_or] at hqk
       rw [hex] at e0
       replace e0 := e0.symm
       have hcd8 : cd = 8 := by rw [k6,hqk];rfl
       rw [if_pos (by omega),hcd8]
       repeat' ((conv => whnf);first | refine hrw ?_ | rw [e1] | rw [e3] | rw [e4] | refine Gs.id ?_ | refine Brn.T (by (try simp only [smT]);first | rfl | omega | fail) ?_ | (refine Brn.mk (fun hb => ?_) (fun hb => ?_) <;> (try simp only [smT] at hb) <;> (try (exact absurd trivial hb)) <;> (try (exfalso;omega))) | refine Rng.mk (by (try simp only [smT]);omega) ?_ | refine Eqv.mk (by kernel_rfl) ?_ | refine Drw.of (T := tt) (i := 18) [] [] [(0,true),(1,true),(2,true),(3,true),(4,true),(5,true)] (by kernel_rfl) ?_ | (refine CL.mk (Or.inl ?_);(conv => whnf);refine Cl.is (ha _ _) rfl (by first | exact fun _ => rfl | fail) ?_) | fail)
       all_goals (conv => whnf)
       all_goals first | exact Ret.is rfl | (exfalso;clear e1 e3 e4 hrw ha;simp only [Bool.and_eq_true,decide_eq_true_eq] at e0;obtain ⟨q1,q2,q3,q4⟩ := e0;rw [q1,q2,q3,q4] at hb;simp at hb;done)
     ·obtain rfl : k = i := by omega
      have hbf : bf.drop k = [] := List.drop_eq_nil_of_le (by omega)
      rw [hbf] at hqk
      have hcd0 : cd = 0 := by rw [k6,hqk];rfl
      rw [if_neg (by omega)]
      clear hrow2 hrow hd hn h1 h2
      repeat' ((conv => whnf);first | refine Gs.id ?_ | refine Brn.F (by (try simp only [smT]);first | rfl | omega | fail) ?_ | refine Rng.mk (by (try simp only [smT]);omega) ?_ | fail)
      all_goals (conv => whnf)
      all_goals exact ⟨k + 1,⟨by omega,rfl⟩,by omega,[(2,.k 2)],⟨by (try dsimp only);(repeat (refine LeT.cons rfl (by first | exact LeS.d (by first | exact LeD.u rfl | exact LeD.p rfl | fail) | fail) ?_));exact LeT.nil,by (try dsimp only);repeat (first | exact LeO.nil | refine LeO.bx rfl rfl (by repeat (first | exact LeL.nil | refine LeL.cons (by first | exact LeD.u rfl | fail) ?_)) ?_ | fail)⟩⟩
   ·have hcn : cd ≠ 0 := fun h => hc8 (.inl h)
    rw [if_pos hcn]
    clear h08 hrow2
    repeat' ((conv => whnf);first | rw [h1] | rw [h2] | refine hrow ?_ | refine Gs.id ?_ | with_reducible refine Brn.T rfl ?_ | with_reducible refine Brn.F rfl ?_ | refine Brn.T (by (try simp only [smT]);first | rfl | assumption | omega | fail) ?_ | refine Brn.F (by (try simp only [smT]);first | rfl | assumption | fail) ?_ | (refine Brn.mk (fun hb => ?_) (fun hb => ?_) <;> (try simp only [smT] at hb) <;> (try (exact absurd trivial hb)) <;> (try (exfalso;omega))) | (refine Bnd.mk (fun hm => ?_);(try simp only [smT] at hm)) | (refine CL.mk (Or.inl ?_);(conv => whnf);first | refine Cl.is (hd) rfl (by first | exact fun _ => rfl | fail) ?_ | refine Cl.is (hn) rfl (by first | exact fun _ => rfl | fail) ?_ | refine Cl.is (ha _ _) rfl (by first | exact fun _ => rfl | fail) ?_) | fail)
    all_goals (conv => whnf)
    all_goals clear hd hn h1 h2 hrow ha
    all_goals first | (rw [show cd = 7 from by grind];exact Ret.is rfl) | (rw [show cd = 4 from by grind];exact Ret.is rfl) | (rw [show cd = 6 from by grind];exact Ret.is rfl) | (rw [show cd = 3 from by grind];exact Ret.is rfl) | (exfalso;grind)
  ·obtain rfl : i = l.length := by omega
   rw [List.drop_length,bFrom]
   repeat' ((conv => whnf);first | refine Gs.id ?_ | refine Brn.F (by (try simp only [smT]);first | rfl | omega | fail) ?_ | (refine Bnd.mk (fun hm => ?_);(try simp only [smT] at hm)) | (refine CL.mk (Or.inl ?_);(conv => whnf);refine Cl.nl (by repeat (first | exact NlSs.nil | exact NlS.refl | refine NlSs.cons ?_ ?_ | fail)) (at_R 0 0) rfl (by first | exact fun _ => rfl | fail) ?_) | fail)
   all_goals (conv => whnf)
   all_goals exact Ret.is rfl
end Go.Proofs.YtabmcfnefjipbaaGreatDoor
namespace Go.Proofs.YtabmcfnefjipbaaGreatDoor
open Go.RowKit
def gB (b2 b3 b4 b6 b7 : Bool) (D : Int) (bs : List Bp) (e : Ev) : Bool := cond (b2 || b6) (decide (e.depth ≤ D)) (cond b3 (decide (e.depth < D)) (cond (b4 || b7) (bs.any (hitB e)) true))
def bestM (fw : Bool) (p : Int) (g : Ev → Bool) : List Ev → Nat → Int → Int
 | [],_,b => b
 | e :: r,i,b => bestM fw p g r (i + 1) (if e.kind = 1 ∧ g e = true ∧ cond fw (decide (p < (i : Int)) && decide ((i : Int) < b)) (decide ((i : Int) < p)) = true then (i : Int) else b)
def depR (l : List Ev) (p : Int) : Int := if 0 ≤ p ∧ p ≤ (l.length : Int) - 1 then (match l[p.toNat]? with | some e => e.depth | none => 0) else 100000
set_option maxHeartbeats 8000000 in
theorem movedF (l : List Ev) (bs : List Bp) (p : Int) (c : ByteArray) (he : ∀ e ∈ l,e.locs.length ≤ 9000000000) (hL : l.length ≤ 9000000000) (hB : bs.length ≤ 9000000000) (b1 b2 b3 b4 b5 b6 b7 : Bool)
  (e1 : (c.toList == stepK.toList) = b1) (e2 : (c.toList == overK.toList) = b2) (e3 : (c.toList == outK'.toList) = b3) (e4 : (c.toList == goK.toList) = b4) (e5 : (c.toList == backK.toList) = b5) (e6 : (c.toList == underK.toList) = b6) (e7 : (c.toList == rewindK.toList) = b7)
  (hx : (b1 = true ∧ b2 = false ∧ b3 = false ∧ b4 = false ∧ b5 = false ∧ b6 = false ∧ b7 = false) ∨ (b1 = false ∧ b2 = true ∧ b3 = false ∧ b4 = false ∧ b5 = false ∧ b6 = false ∧ b7 = false) ∨ (b1 = false ∧ b2 = false ∧ b3 = true ∧ b4 = false ∧ b5 = false ∧ b6 = false ∧ b7 = false) ∨ (b1 = false ∧ b2 = false ∧ b3 = false ∧ b4 = true ∧ b5 = false ∧ b6 = false ∧ b7 = false)) :
  CallsA Tryz.prog 22 [.d (.u (evs l)),.d (.u (bks bs)),di p,dsr c] [] (Is (.t [.d (.u (.int .i64 (bestM true p (gB b2 b3 b4 b6 b7 (depR l p) bs) l 0 (l.length : Int)))),.d (.u (.bool true))])) := by
 have hin := in_R p 0 (((l.map Ev.row).length : Int) - 1)
 have hlm : (l.map Ev.row).length = l.length := by simp
 have hlz : ((l.map Ev.row).length : Int) = (l.length : Int) := by simp
 refine callsA_of_vc (T := tt) Tryz.func22 rfl rfl rfl rfl rfl ?_
 refine' cutR (fun _ : Unit => True) (fun _ => ⟨[(0,.d (.u (evs l))),(1,.d (.u (bks bs))),(2,di p),(3,dsr c),(10,di (depR l p))],[]⟩) _ (fun hR => ?_) ?_
 rotate_left
 ·by_cases hp : 0 ≤ p ∧ p ≤ (l.length : Int) - 1
  ·have hd : depR l p = (match l[p.toNat]? with | some e => e.depth | none => 0) := by rw [depR,if_pos hp]
   rw [decide_eq_true (by rw [hlm];exact hp)] at hin
   obtain ⟨m,hm'⟩ : ∃ m : Nat,p = m := ⟨p.toNat,by omega⟩
   have hml : m < l.length := by omega
   have hpm : p.toNat = m := by omega
   rw [hpm,List.getElem?_eq_getElem hml] at hd
   have hrow : ∀ {K : List V → Prop},K (l[m]).row → Ix (l.map Ev.row) p K := fun k => by rw [hm'];exact Ix.map rfl hml k
   generalize l[m] = x at *
   dsimp only at hd
   repeat' ((conv => whnf);first | refine hrow ?_ | (exact Gs.cut (i := 4) (by assumption) () [] rfl ⟨by (try dsimp only);(repeat (refine LeT.cons rfl (by first | exact LeS.d (by first | exact LeD.u rfl | exact LeD.u (by simp [hd];done) | fail) | fail) ?_));(first | exact LeT.nil | fail),by (try dsimp only);(repeat (first | exact LeO.nil | fail));done⟩ (by trivial)) | refine Gs.id ?_ | with_reducible refine Brn.T rfl ?_ | (refine Bnd.mk (fun hm => ?_);(try simp only [smT] at hm)) | refine Rng.mk (by (try simp only [smT]);omega) ?_ | (refine CL.mk (Or.inl ?_);(conv => whnf);refine Cl.is (hin) rfl (by first | exact fun _ => rfl | fail) ?_) | fail)
  ·have hd : depR l p = 100000 := by rw [depR,if_neg hp]
   rw [decide_eq_false (by rw [hlm];exact hp)] at hin
   repeat' ((conv => whnf);first | (exact Gs.cut (i := 4) (by assumption) () [] rfl ⟨by (try dsimp only);(repeat (refine LeT.cons rfl (by first | exact LeS.d (by first | exact LeD.u rfl | exact LeD.u (by simp [hd];done) | fail) | fail) ?_));(first | exact LeT.nil | fail),by (try dsimp only);(repeat (first | exact LeO.nil | fail));done⟩ (by trivial)) | refine Gs.id ?_ | with_reducible refine Brn.F rfl ?_ | (refine Bnd.mk (fun hm => ?_);(try simp only [smT] at hm)) | refine Rng.mk (by (try simp only [smT]);omega) ?_ | (refine CL.mk (Or.inl ?_);(conv => whnf);refine Cl.is (hin) rfl (by first | exact fun _ => rfl | fail) ?_) | fail)
 ·intro _ _
  dsimp only
  generalize depR l p = D at *
  clear hin
  obtain ⟨g,hg⟩ : ∃ g,gB b2 b3 b4 b6 b7 D bs = g := ⟨_,rfl⟩
  rw [hg]
  rcases hx with ⟨rfl,rfl,rfl,rfl,rfl,rfl,rfl⟩ | ⟨rfl,rfl,rfl,rfl,rfl,rfl,rfl⟩ | ⟨rfl,rfl,rfl,rfl,rfl,rfl,rfl⟩ | ⟨rfl,rfl,rfl,rfl,rfl,rfl,rfl⟩
  all_goals
   repeat' ((conv => whnf);first | rw [e1] | rw [e2] | rw [e3] | rw [e4] | refine Gs.id ?_ | with_reducible refine Brn.T rfl ?_ | with_reducible refine Brn.F rfl ?_ | (refine Bnd.mk (fun hm => ?_);(try simp only [smT] at hm)) | fail)
   all_goals (conv => whnf)
   refine ⟨⟨Nat × Int,fun x => x.1 ≤ l.length ∧ bestM true p g l 0 (l.length : Int) = bestM true p g (l.drop x.1) x.1 x.2,fun x => l.length - x.1,fun x => ⟨[(0,.d (.u (evs l))),(1,.d (.u (bks bs))),(2,di p),(3,dsr c),(10,di D),(11,db true),(12,di x.2),(13,di x.1)],[]⟩,(0,(l.length : Int)),⟨Nat.zero_le _,rfl⟩,⟨[],⟨by (try dsimp only);(repeat (refine LeT.cons rfl (by first | exact LeS.d (by first | exact LeD.u rfl | exact LeD.u (by simp [hlz];done) | fail) | fail) ?_));exact LeT.nil,by (try dsimp only);repeat (first | exact LeO.nil | fail)⟩⟩,fun x hx => ?_⟩⟩
   obtain ⟨i,b⟩ := x
   obtain ⟨hi,hq⟩ := hx
   dsimp only at hi hq ⊢
   rw [hq]
   by_cases h9 : i < l.length
   ·have hhit := hit_R l[i] bs (he _ (List.getElem_mem h9)) hB
    rw [List.drop_eq_getElem_cons h9,bestM]
    have hrow : ∀ {K : List V → Prop} {j : Int},j = (i : Int) → K (l[i]).row → Ix (l.map Ev.row) j K := fun h k => by subst h;exact Ix.map rfl h9 k
    generalize l[i] = e at *
    have hge := congrFun hg e
    by_cases hCC : (e.kind = 1 ∧ g e = true ∧ cond true (decide (p < (i : Int)) && decide ((i : Int) < b)) (decide ((i : Int) < p)) = true)
    ·rw [if_pos hCC]
     rw [← hge] at hCC
     clear hge hq
     simp only [gB,Bool.or_false,Bool.false_or,Bool.or_true,Bool.true_or,cond_true,cond_false,Bool.and_eq_true,decide_eq_true_eq,true_and] at hCC
     generalize bs.any (hitB e) = ht at *
     repeat' ((conv => whnf);first | refine hrow rfl ?_ | rw [e2] | rw [e3] | rw [e4] | rw [e6] | rw [e7] | refine Gs.id ?_ | with_reducible refine Brn.T rfl ?_ | with_reducible refine Brn.F rfl ?_ | refine Brn.T (by (try simp only [smT]);first | rfl | omega | (simp only [*];done) | fail) ?_ | (refine Bnd.mk (fun hm => ?_);(try simp only [smT] at hm)) | refine Rng.mk (by (try simp only [smT]);omega) ?_ | (refine CL.mk (Or.inl ?_);(conv => whnf);refine Cl.is (hhit) rfl (by first | exact fun _ => rfl | fail) ?_) | fail)
     all_goals (conv => whnf)
     all_goals first | (exfalso;clear hhit hrow e1 e2 e3 e4 e5 e6 e7 he;simp_all;done) | (exfalso;clear hhit hrow e1 e2 e3 e4 e5 e6 e7 he;simp_all;omega) | exact ⟨(i + 1,(i : Int)),⟨by omega,rfl⟩,by dsimp only;omega,[],⟨by (try dsimp only);(repeat (refine LeT.cons rfl (by first | exact LeS.d (by first | exact LeD.u rfl | fail) | fail) ?_));exact LeT.nil,by (try dsimp only);repeat (first | exact LeO.nil | fail)⟩⟩
    ·rw [if_neg hCC]
     rw [← hge] at hCC
     clear hge hq
     simp only [gB,Bool.or_false,Bool.false_or,Bool.or_true,Bool.true_or,cond_true,cond_false,Bool.and_eq_true,decide_eq_true_eq,true_and] at hCC
     generalize bs.any (hitB e) = ht at *
     repeat' ((conv => whnf);first | refine hrow rfl ?_ | rw [e2] | rw [e3] | rw [e4] | rw [e6] | rw [e7] | refine Gs.id ?_ | with_reducible refine Brn.T rfl ?_ | with_reducible refine Brn.F rfl ?_ | refine Brn.T (by (try simp only [smT]);first | rfl | assumption | omega | fail) ?_ | refine Brn.F (by (try simp only [smT]);first | rfl | assumption | omega | fail) ?_ | (refine Brn.mk (fun hb => ?_) (fun hb => ?_) <;> (try simp only [smT] at hb) <;> (try (exact absurd trivial hb)) <;> (try (exfalso;omega))) | (refine Bnd.mk (fun hm => ?_);(try simp only [smT] at hm)) | refine Rng.mk (by (try simp only [smT]);omega) ?_ | (refine CL.mk (Or.inl ?_);(conv => whnf);refine Cl.is (hhit) rfl (by first | exact fun _ => rfl | fail) ?_) | fail)
     all_goals (conv => whnf)
     all_goals first | (exfalso;clear hhit hrow e1 e2 e3 e4 e5 e6 e7 he;simp_all;done) | (exfalso;clear hhit hrow e1 e2 e3 e4 e5 e6 e7 he;simp_all;omega) | exact ⟨(i + 1,b),⟨by omega,rfl⟩,by dsimp only;omega,[],⟨by (try dsimp only);(repeat (refine LeT.cons rfl (by first | exact LeS.d (by first | exact LeD.u rfl | fail) | fail) ?_));exact LeT.nil,by (try dsimp only);repeat (first | exact LeO.nil | fail)⟩⟩
   ·obtain rfl : i = l.length := by omega
    rw [List.drop_length,bestM]
    repeat' ((conv => whnf);first | refine Gs.id ?_ | refine Brn.F (by (try simp only [smT]);first | rfl | omega | fail) ?_ | (refine Bnd.mk (fun hm => ?_);(try simp only [smT] at hm)) | fail)
    all_goals (conv => whnf)
    all_goals exact Ret.is rfl
set_option maxHeartbeats 8000000 in
theorem movedB (l : List Ev) (bs : List Bp) (p : Int) (c : ByteArray) (he : ∀ e ∈ l,e.locs.length ≤ 9000000000) (hL : l.length ≤ 9000000000) (hB : bs.length ≤ 9000000000) (b1 b2 b3 b4 b5 b6 b7 : Bool)
  (e1 : (c.toList == stepK.toList) = b1) (e2 : (c.toList == overK.toList) = b2) (e3 : (c.toList == outK'.toList) = b3) (e4 : (c.toList == goK.toList) = b4) (e5 : (c.toList == backK.toList) = b5) (e6 : (c.toList == underK.toList) = b6) (e7 : (c.toList == rewindK.toList) = b7)
  (hx : (b1 = false ∧ b2 = false ∧ b3 = false ∧ b4 = false ∧ b5 = true ∧ b6 = false ∧ b7 = false) ∨ (b1 = false ∧ b2 = false ∧ b3 = false ∧ b4 = false ∧ b5 = false ∧ b6 = true ∧ b7 = false) ∨ (b1 = false ∧ b2 = false ∧ b3 = false ∧ b4 = false ∧ b5 = false ∧ b6 = false ∧ b7 = true)) :
  CallsA Tryz.prog 22 [.d (.u (evs l)),.d (.u (bks bs)),di p,dsr c] [] (Is (.t [.d (.u (.int .i64 (bestM false p (gB b2 b3 b4 b6 b7 (depR l p) bs) l 0 (-1)))),.d (.u (.bool true))])) := by
 have hin := in_R p 0 (((l.map Ev.row).length : Int) - 1)
 have hlm : (l.map Ev.row).length = l.length := by simp
 have hlz : ((l.map Ev.row).length : Int) = (l.length : Int) := by simp
 refine callsA_of_vc (T := tt) Tryz.func22 rfl rfl rfl rfl rfl ?_
 refine' cutR (fun _ : Unit => True) (fun _ => ⟨[(0,.d (.u (evs l))),(1,.d (.u (bks bs))),(2,di p),(3,dsr c),(10,di (depR l p))],[]⟩) _ (fun hR => ?_) ?_
 rotate_left
 ·by_cases hp : 0 ≤ p ∧ p ≤ (l.length : Int) - 1
  ·have hd : depR l p = (match l[p.toNat]? with | some e => e.depth | none => 0) := by rw [depR,if_pos hp]
   rw [decide_eq_true (by rw [hlm];exact hp)] at hin
   obtain ⟨m,hm'⟩ : ∃ m : Nat,p = m := ⟨p.toNat,by omega⟩
   have hml : m < l.length := by omega
   have hpm : p.toNat = m := by omega
   rw [hpm,List.getElem?_eq_getElem hml] at hd
   have hrow : ∀ {K : List V → Prop},K (l[m]).row → Ix (l.map Ev.row) p K := fun k => by rw [hm'];exact Ix.map rfl hml k
   generalize l[m] = x at *
   dsimp only at hd
   repeat' ((conv => whnf);first | refine hrow ?_ | (exact Gs.cut (i := 4) (by assumption) () [] rfl ⟨by (try dsimp only);(repeat (refine LeT.cons rfl (by first | exact LeS.d (by first | exact LeD.u rfl | exact LeD.u (by simp [hd];done) | fail) | fail) ?_));(first | exact LeT.nil | fail),by (try dsimp only);(repeat (first | exact LeO.nil | fail));done⟩ (by trivial)) | refine Gs.id ?_ | with_reducible refine Brn.T rfl ?_ | (refine Bnd.mk (fun hm => ?_);(try simp only [smT] at hm)) | refine Rng.mk (by (try simp only [smT]);omega) ?_ | (refine CL.mk (Or.inl ?_);(conv => whnf);refine Cl.is (hin) rfl (by first | exact fun _ => rfl | fail) ?_) | fail)
  ·have hd : depR l p = 100000 := by rw [depR,if_neg hp]
   rw [decide_eq_false (by rw [hlm];exact hp)] at hin
   repeat' ((conv => whnf);first | (exact Gs.cut (i := 4) (by assumption) () [] rfl ⟨by (try dsimp only);(repeat (refine LeT.cons rfl (by first | exact LeS.d (by first | exact LeD.u rfl | exact LeD.u (by simp [hd];done) | fail) | fail) ?_));(first | exact LeT.nil | fail),by (try dsimp only);(repeat (first | exact LeO.nil | fail));done⟩ (by trivial)) | refine Gs.id ?_ | with_reducible refine Brn.F rfl ?_ | (refine Bnd.mk (fun hm => ?_);(try simp only [smT] at hm)) | refine Rng.mk (by (try simp only [smT]);omega) ?_ | (refine CL.mk (Or.inl ?_);(conv => whnf);refine Cl.is (hin) rfl (by first | exact fun _ => rfl | fail) ?_) | fail)
 ·intro _ _
  dsimp only
  generalize depR l p = D at *
  clear hin
  obtain ⟨g,hg⟩ : ∃ g,gB b2 b3 b4 b6 b7 D bs = g := ⟨_,rfl⟩
  rw [hg]
  rcases hx with ⟨rfl,rfl,rfl,rfl,rfl,rfl,rfl⟩ | ⟨rfl,rfl,rfl,rfl,rfl,rfl,rfl⟩ | ⟨rfl,rfl,rfl,rfl,rfl,rfl,rfl⟩
  all_goals
   repeat' ((conv => whnf);first | rw [e1] | rw [e2] | rw [e3] | rw [e4] | rw [e5] | rw [e6] | rw [e7] | refine Gs.id ?_ | with_reducible refine Brn.T rfl ?_ | with_reducible refine Brn.F rfl ?_ | fail)
   all_goals (conv => whnf)
   refine ⟨⟨Nat × Int,fun x => x.1 ≤ l.length ∧ bestM false p g l 0 (-1) = bestM false p g (l.drop x.1) x.1 x.2,fun x => l.length - x.1,fun x => ⟨[(0,.d (.u (evs l))),(1,.d (.u (bks bs))),(2,di p),(3,dsr c),(10,di D),(11,db false),(12,di x.2),(13,di x.1)],[]⟩,(0,(-1)),⟨Nat.zero_le _,rfl⟩,⟨[],⟨by (try dsimp only);(repeat (refine LeT.cons rfl (by first | exact LeS.d (by first | exact LeD.u rfl | fail) | fail) ?_));exact LeT.nil,by (try dsimp only);repeat (first | exact LeO.nil | fail)⟩⟩,fun x hx => ?_⟩⟩
   obtain ⟨i,b⟩ := x
   obtain ⟨hi,hq⟩ := hx
   dsimp only at hi hq ⊢
   rw [hq]
   by_cases h9 : i < l.length
   ·have hhit := hit_R l[i] bs (he _ (List.getElem_mem h9)) hB
    rw [List.drop_eq_getElem_cons h9,bestM]
    have hrow : ∀ {K : List V → Prop} {j : Int},j = (i : Int) → K (l[i]).row → Ix (l.map Ev.row) j K := fun h k => by subst h;exact Ix.map rfl h9 k
    generalize l[i] = e at *
    have hge := congrFun hg e
    by_cases hCC : (e.kind = 1 ∧ g e = true ∧ cond false (decide (p < (i : Int)) && decide ((i : Int) < b)) (decide ((i : Int) < p)) = true)
    ·rw [if_pos hCC]
     rw [← hge] at hCC
     clear hge hq
     simp only [gB,Bool.or_false,Bool.false_or,Bool.or_true,Bool.true_or,cond_true,cond_false,Bool.and_eq_true,decide_eq_true_eq,true_and] at hCC
     generalize bs.any (hitB e) = ht at *
     repeat' ((conv => whnf);first | refine hrow rfl ?_ | rw [e2] | rw [e3] | rw [e4] | rw [e6] | rw [e7] | refine Gs.id ?_ | with_reducible refine Brn.T rfl ?_ | with_reducible refine Brn.F rfl ?_ | refine Brn.T (by (try simp only [smT]);first | rfl | omega | (simp only [*];done) | fail) ?_ | (refine Bnd.mk (fun hm => ?_);(try simp only [smT] at hm)) | refine Rng.mk (by (try simp only [smT]);omega) ?_ | (refine CL.mk (Or.inl ?_);(conv => whnf);refine Cl.is (hhit) rfl (by first | exact fun _ => rfl | fail) ?_) | fail)
     all_goals (conv => whnf)
     all_goals first | (exfalso;clear hhit hrow e1 e2 e3 e4 e5 e6 e7 he;simp_all;done) | (exfalso;clear hhit hrow e1 e2 e3 e4 e5 e6 e7 he;simp_all;omega) | exact ⟨(i + 1,(i : Int)),⟨by omega,rfl⟩,by dsimp only;omega,[],⟨by (try dsimp only);(repeat (refine LeT.cons rfl (by first | exact LeS.d (by first | exact LeD.u rfl | fail) | fail) ?_));exact LeT.nil,by (try dsimp only);repeat (first | exact LeO.nil | fail)⟩⟩
    ·rw [if_neg hCC]
     rw [← hge] at hCC
     clear hge hq
     simp only [gB,Bool.or_false,Bool.false_or,Bool.or_true,Bool.true_or,cond_true,cond_false,Bool.and_eq_true,decide_eq_true_eq,true_and] at hCC
     generalize bs.any (hitB e) = ht at *
     repeat' ((conv => whnf);first | refine hrow rfl ?_ | rw [e2] | rw [e3] | rw [e4] | rw [e6] | rw [e7] | refine Gs.id ?_ | with_reducible refine Brn.T rfl ?_ | with_reducible refine Brn.F rfl ?_ | refine Brn.T (by (try simp only [smT]);first | rfl | assumption | omega | fail) ?_ | refine Brn.F (by (try simp only [smT]);first | rfl | assumption | omega | fail) ?_ | (refine Brn.mk (fun hb => ?_) (fun hb => ?_) <;> (try simp only [smT] at hb) <;> (try (exact absurd trivial hb)) <;> (try (exfalso;omega))) | (refine Bnd.mk (fun hm => ?_);(try simp only [smT] at hm)) | refine Rng.mk (by (try simp only [smT]);omega) ?_ | (refine CL.mk (Or.inl ?_);(conv => whnf);refine Cl.is (hhit) rfl (by first | exact fun _ => rfl | fail) ?_) | fail)
     all_goals (conv => whnf)
     all_goals first | (exfalso;clear hhit hrow e1 e2 e3 e4 e5 e6 e7 he;simp_all;done) | (exfalso;clear hhit hrow e1 e2 e3 e4 e5 e6 e7 he;simp_all;omega) | exact ⟨(i + 1,b),⟨by omega,rfl⟩,by dsimp only;omega,[],⟨by (try dsimp only);(repeat (refine LeT.cons rfl (by first | exact LeS.d (by first | exact LeD.u rfl | fail) | fail) ?_));exact LeT.nil,by (try dsimp only);repeat (first | exact LeO.nil | fail)⟩⟩
   ·obtain rfl : i = l.length := by omega
    rw [List.drop_length,bestM]
    repeat' ((conv => whnf);first | refine Gs.id ?_ | refine Brn.F (by (try simp only [smT]);first | rfl | omega | fail) ?_ | (refine Bnd.mk (fun hm => ?_);(try simp only [smT] at hm)) | fail)
    all_goals (conv => whnf)
    all_goals exact Ret.is rfl
end Go.Proofs.YtabmcfnefjipbaaGreatDoor
namespace Go.Proofs.YtabmcfnefjipbaaGreatDoor
open Go.RowKit
theorem best_past {p : Int} {g : Ev → Bool} : ∀ (r : List Ev) (i : Nat) (b : Int),b ≤ i → bestM true p g r i b = b
 | [],_,_,_ => rfl
 | e :: r,i,b,h => by
  rw [bestM,if_neg (by rintro ⟨_,_,h3⟩;simp at h3;omega)]
  exact best_past r (i + 1) b (by omega)
theorem best_first {p : Int} {g : Ev → Bool} : ∀ (r : List Ev) (i : Nat) (b : Int),p < i → b = (i : Int) + r.length → bestM true p g r i b = fwL g r i
 | [],i,b,_,hb => by rw [bestM,fwL,hb];simp
 | e :: r,i,b,hp,hb => by
  rw [List.length_cons] at hb
  rw [bestM,fwL]
  by_cases hc : e.kind = 1 ∧ g e = true
  ·rw [if_pos ⟨hc.1,hc.2,by simp;omega⟩,if_pos hc]
   exact best_past r (i + 1) i (by omega)
  ·rw [if_neg (fun h => hc ⟨h.1,h.2.1⟩),if_neg hc]
   exact best_first r (i + 1) b (by omega) (by omega)
theorem best_skip {p : Int} {g : Ev → Bool} {l : List Ev} {b : Int} : ∀ (n i : Nat),l.length - i = n → (i : Int) ≤ p + 1 → bestM true p g (l.drop i) i b = bestM true p g (l.drop (p + 1).toNat) (p + 1).toNat b
 | n,i,hn,hi => by
  by_cases h1 : (i : Int) = p + 1
  ·rw [show (p + 1).toNat = i by omega]
  ·by_cases h9 : i < l.length
   ·rw [List.drop_eq_getElem_cons h9,bestM,if_neg (by rintro ⟨_,_,h3⟩;simp at h3;omega)]
    cases n with
    | zero => omega
    | succ n => exact best_skip n (i + 1) (by omega) (by omega)
   ·rw [List.drop_eq_nil_of_le (by omega),List.drop_eq_nil_of_le (by omega),bestM,bestM]
theorem best_fw {p : Int} {g : Ev → Bool} {l : List Ev} (hp : -1 ≤ p ∧ p ≤ (l.length : Int)) : bestM true p g l 0 (l.length : Int) = mvM g l 1 (p + 1) := by
 have h := best_skip (p := p) (g := g) (l := l) (b := (l.length : Int)) l.length 0 (by omega) (by omega)
 rw [List.drop_zero] at h
 rw [h]
 unfold mvM
 by_cases h1 : 0 ≤ p + 1 ∧ p + 1 < (l.length : Int)
 ·rw [if_pos h1,if_pos rfl]
  exact best_first _ _ _ (by omega) (by rw [List.length_drop];omega)
 ·rw [if_neg h1,List.drop_eq_nil_of_le (by omega),bestM,clampM]
  omega
theorem best_bw0 {p : Int} {g : Ev → Bool} {l : List Ev} : ∀ (n i : Nat),l.length - i = n → i ≤ l.length → bestM false p g (l.drop i) i (bwL g l (min i p.toNat)) = bwL g l (min l.length p.toNat)
 | n,i,hn,hi => by
  by_cases h9 : i < l.length
  ·have he : l[i]? = some l[i] := List.getElem?_eq_getElem h9
   rw [List.drop_eq_getElem_cons h9,bestM]
   have hb : (if l[i].kind = 1 ∧ g l[i] = true ∧ cond false (decide (p < (i : Int)) && decide ((i : Int) < bwL g l (min i p.toNat))) (decide ((i : Int) < p)) = true then (i : Int) else bwL g l (min i p.toNat)) = bwL g l (min (i + 1) p.toNat) := by
    by_cases hp : (i : Int) < p
    ·rw [show min (i + 1) p.toNat = i + 1 by omega,show min i p.toNat = i by omega,bwL,he]
     dsimp only [cond_false]
     by_cases hc : l[i].kind = 1 ∧ g l[i] = true
     ·rw [if_pos ⟨hc.1,hc.2,by simpa using hp⟩,if_pos hc]
     ·rw [if_neg (fun h => hc ⟨h.1,h.2.1⟩),if_neg hc]
    ·rw [if_neg (by rintro ⟨_,_,h3⟩;simp at h3;omega),show min (i + 1) p.toNat = min i p.toNat by omega]
   rw [hb]
   cases n with
   | zero => omega
   | succ n => exact best_bw0 n (i + 1) (by omega) (by omega)
  ·rw [List.drop_eq_nil_of_le (by omega),bestM,show i = l.length by omega]
theorem best_bw {p : Int} {g : Ev → Bool} {l : List Ev} (hp : -1 ≤ p ∧ p ≤ (l.length : Int)) : bestM false p g l 0 (-1) = mvM g l (-1) (p + -1) := by
 have h := best_bw0 (p := p) (g := g) (l := l) l.length 0 (by omega) (by omega)
 rw [List.drop_zero,show min 0 p.toNat = 0 by omega,bwL] at h
 rw [h]
 unfold mvM
 by_cases h1 : 0 ≤ p + -1 ∧ p + -1 < (l.length : Int)
 ·rw [if_pos h1,if_neg (by omega),show min l.length p.toNat = (p + -1).toNat + 1 by omega]
 ·rw [if_neg h1,show min l.length p.toNat = 0 by omega,bwL,clampM]
  omega
theorem best_congr {fw : Bool} {p : Int} {g g' : Ev → Bool} : ∀ (r : List Ev) (i : Nat) (b : Int),(∀ e ∈ r,g e = g' e) → bestM fw p g r i b = bestM fw p g' r i b
 | [],_,_,_ => rfl
 | e :: r,i,b,h => by
  rw [bestM,bestM,h e (by simp)]
  exact best_congr r (i + 1) _ fun e he => h e (by simp [he])
def movedM (l : List Ev) (bs : List Bp) (p : Int) (c : ByteArray) : Int × Bool :=
 if c = stepK then (bestM true p (gB false false false false false (depR l p) bs) l 0 (l.length : Int),true)
 else if c = overK then (bestM true p (gB true false false false false (depR l p) bs) l 0 (l.length : Int),true)
 else if c = outK' then (bestM true p (gB false true false false false (depR l p) bs) l 0 (l.length : Int),true)
 else if c = goK then (bestM true p (gB false false true false false (depR l p) bs) l 0 (l.length : Int),true)
 else if c = backK then (bestM false p (gB false false false false false (depR l p) bs) l 0 (-1),true)
 else if c = underK then (bestM false p (gB false false false true false (depR l p) bs) l 0 (-1),true)
 else if c = rewindK then (bestM false p (gB false false false false true (depR l p) bs) l 0 (-1),true) else (0,false)
theorem moved_R (l : List Ev) (bs : List Bp) (p : Int) (c : ByteArray) (he : ∀ e ∈ l,e.locs.length ≤ 9000000000) (hL : l.length ≤ 9000000000) (hB : bs.length ≤ 9000000000) :
  CallsA Tryz.prog 22 [.d (.u (evs l)),.d (.u (bks bs)),di p,dsr c] [] (Is (.t [.d (.u (.int .i64 (movedM l bs p c).1)),.d (.u (.bool (movedM l bs p c).2))])) := by
 have q : ∀ k : ByteArray,(c.toList == k.toList) = decide (c = k) := fun k => toList_beq c k
 unfold movedM
 by_cases h1 : c = stepK
 ·rw [if_pos h1]
  exact movedF l bs p c he hL hB true false false false false false false (by rw [q,h1];decide) (by rw [q,h1];decide) (by rw [q,h1];decide) (by rw [q,h1];decide) (by rw [q,h1];decide) (by rw [q,h1];decide) (by rw [q,h1];decide) (by simp)
 rw [if_neg h1]
 by_cases h2 : c = overK
 ·rw [if_pos h2]
  exact movedF l bs p c he hL hB false true false false false false false (by rw [q,h2];decide) (by rw [q,h2];decide) (by rw [q,h2];decide) (by rw [q,h2];decide) (by rw [q,h2];decide) (by rw [q,h2];decide) (by rw [q,h2];decide) (by simp)
 rw [if_neg h2]
 by_cases h3 : c = outK'
 ·rw [if_pos h3]
  exact movedF l bs p c he hL hB false false true false false false false (by rw [q,h3];decide) (by rw [q,h3];decide) (by rw [q,h3];decide) (by rw [q,h3];decide) (by rw [q,h3];decide) (by rw [q,h3];decide) (by rw [q,h3];decide) (by simp)
 rw [if_neg h3]
 by_cases h4 : c = goK
 ·rw [if_pos h4]
  exact movedF l bs p c he hL hB false false false true false false false (by rw [q,h4];decide) (by rw [q,h4];decide) (by rw [q,h4];decide) (by rw [q,h4];decide) (by rw [q,h4];decide) (by rw [q,h4];decide) (by rw [q,h4];decide) (by simp)
 rw [if_neg h4]
 by_cases h5 : c = backK
 ·rw [if_pos h5]
  exact movedB l bs p c he hL hB false false false false true false false (by rw [q,h5];decide) (by rw [q,h5];decide) (by rw [q,h5];decide) (by rw [q,h5];decide) (by rw [q,h5];decide) (by rw [q,h5];decide) (by rw [q,h5];decide) (by simp)
 rw [if_neg h5]
 by_cases h6 : c = underK
 ·rw [if_pos h6]
  exact movedB l bs p c he hL hB false false false false false true false (by rw [q,h6];decide) (by rw [q,h6];decide) (by rw [q,h6];decide) (by rw [q,h6];decide) (by rw [q,h6];decide) (by rw [q,h6];decide) (by rw [q,h6];decide) (by simp)
 rw [if_neg h6]
 by_cases h7 : c = rewindK
 ·rw [if_pos h7]
  exact movedB l bs p c he hL hB false false false false false false true (by rw [q,h7];decide) (by rw [q,h7];decide) (by rw [q,h7];decide) (by rw [q,h7];decide) (by rw [q,h7];decide) (by rw [q,h7];decide) (by rw [q,h7];decide) (by simp)
 rw [if_neg h7]
 have e1 := (q stepK).trans (decide_eq_false h1)
 have e2 := (q overK).trans (decide_eq_false h2)
 have e3 := (q outK').trans (decide_eq_false h3)
 have e4 := (q goK).trans (decide_eq_false h4)
 have e5 := (q backK).trans (decide_eq_false h5)
 have e6 := (q underK).trans (decide_eq_false h6)
 have e7 := (q rewindK).trans (decide_eq_false h7)
 have hin := in_R p 0 (((l.map Ev.row).length : Int) - 1)
 have hlm : (l.map Ev.row).length = l.length := by simp
 clear he q
 by_cases hp : 0 ≤ p ∧ p ≤ (l.length : Int) - 1
 ·rw [decide_eq_true (by rw [hlm];exact hp)] at hin
  obtain ⟨m,hm'⟩ : ∃ m : Nat,p = m := ⟨p.toNat,by omega⟩
  have hml : m < l.length := by omega
  have hrow : ∀ {K : List V → Prop},K (l[m]).row → Ix (l.map Ev.row) p K := fun k => by rw [hm'];exact Ix.map rfl hml k
  generalize l[m] = x at *
  refine callsA_of_vc (T := tt) Tryz.func22 rfl rfl rfl rfl rfl ?_
  repeat' ((conv => whnf);first | refine hrow ?_ | rw [e1] | rw [e2] | rw [e3] | rw [e4] | rw [e5] | rw [e6] | rw [e7] | refine Gs.id ?_ | with_reducible refine Brn.T rfl ?_ | with_reducible refine Brn.F rfl ?_ | (refine Bnd.mk (fun hm => ?_);(try simp only [smT] at hm)) | refine Rng.mk (by (try simp only [smT]);omega) ?_ | (refine CL.mk (Or.inl ?_);(conv => whnf);refine Cl.is (hin) rfl (by first | exact fun _ => rfl | fail) ?_) | fail)
  all_goals (conv => whnf)
  all_goals exact Ret.is rfl
 ·rw [decide_eq_false (by rw [hlm];exact hp)] at hin
  refine callsA_of_vc (T := tt) Tryz.func22 rfl rfl rfl rfl rfl ?_
  repeat' ((conv => whnf);first | rw [e1] | rw [e2] | rw [e3] | rw [e4] | rw [e5] | rw [e6] | rw [e7] | refine Gs.id ?_ | with_reducible refine Brn.T rfl ?_ | with_reducible refine Brn.F rfl ?_ | (refine Bnd.mk (fun hm => ?_);(try simp only [smT] at hm)) | refine Rng.mk (by (try simp only [smT]);omega) ?_ | (refine CL.mk (Or.inl ?_);(conv => whnf);refine Cl.is (hin) rfl (by first | exact fun _ => rfl | fail) ?_) | fail)
  all_goals (conv => whnf)
  all_goals exact Ret.is rfl
theorem actAt_len {l : List Ev} : ∀ i,i ≤ l.length → (actAt l i).length ≤ i
 | 0,_ => by simp [actAt]
 | i + 1,h => by
  have he : l[i]? = some l[i] := List.getElem?_eq_getElem (by omega)
  have ih := actAt_len (l := l) i (by omega)
  rw [actAt_succ he]
  unfold actM pushM
  split <;> split <;> simp <;> omega
theorem depth_rng {l : List Ev} (hv : Vd l) {i : Nat} {e : Ev} (h : l[i]? = some e) : 1 ≤ e.depth ∧ e.depth ≤ (i : Int) + 1 := by
 have ok := hv.ok h
 have hi := (List.getElem?_eq_some_iff.1 h).1
 have hl := actAt_len (l := l) i (by omega)
 have hd := ok.depth
 have hn : pushM e (actAt l i) ≠ [] := fun h0 => by
  have := ok.last
  rw [h0] at this
  cases this
 have h1 := List.length_pos_iff.2 hn
 have h2 : (pushM e (actAt l i)).length ≤ (actAt l i).length + 1 := by
  unfold pushM
  split <;> simp
 omega
theorem dep_both {l : List Ev} (hv : Vd l) (hL : l.length ≤ 20000) {p : Int} (hp : -1 ≤ p ∧ p ≤ (l.length : Int)) : (depM l p = 0 ∧ depR l p = 100000) ∨ (depM l p ≠ 0 ∧ depR l p = depM l p) := by
 unfold depM depR
 by_cases h : 0 ≤ p ∧ p ≤ (l.length : Int) - 1
 ·right
  rw [if_pos h,if_neg (by omega)]
  have he : l[p.toNat]? = some (l[p.toNat]'(by omega)) := List.getElem?_eq_getElem (by omega)
  have := depth_rng hv he
  rw [he]
  dsimp only
  exact ⟨by omega,rfl⟩
 ·left
  rw [if_neg h,if_pos (by omega)]
  exact ⟨rfl,rfl⟩
theorem moved_agree {l : List Ev} (hv : Vd l) (hL : l.length ≤ 20000) {p : Int} (hp : -1 ≤ p ∧ p ≤ (l.length : Int)) (bs : List Bp) (c : ByteArray) :
  movedM l bs p c = match cmdM (depM l p) bs c with
   | some (s,g) => (mvM g l s (p + s),true)
   | none => (0,false) := by
 have hd := dep_both hv hL hp
 have hr : ∀ e ∈ l,1 ≤ e.depth ∧ e.depth ≤ 20001 := fun e he => by
  obtain ⟨i,hi⟩ := List.mem_iff_getElem?.1 he
  have h1 := depth_rng hv hi
  have := (List.getElem?_eq_some_iff.1 hi).1
  omega
 have lev : ∀ e ∈ l,(decide (e.depth ≤ depR l p)) = (decide (depM l p = 0) || decide (e.depth ≤ depM l p)) := fun e he => by
  have := hr e he
  rcases hd with ⟨h1,h2⟩ | ⟨h1,h2⟩
  ·rw [h1,h2];simp;omega
  ·rw [h2];simp [h1]
 have abv : ∀ e ∈ l,(decide (e.depth < depR l p)) = (decide (depM l p = 0) || decide (e.depth < depM l p)) := fun e he => by
  have := hr e he
  rcases hd with ⟨h1,h2⟩ | ⟨h1,h2⟩
  ·rw [h1,h2];simp;omega
  ·rw [h2];simp [h1]
 unfold movedM cmdM
 by_cases h1 : c = stepK
 ·rw [if_pos h1,if_pos h1]
  show (_,true) = (mvM (fun _ => true) l 1 (p + 1),true)
  rw [← best_fw hp]
  exact congrArg (fun x => (x,true)) (best_congr l 0 _ fun e _ => rfl)
 rw [if_neg h1,if_neg h1]
 by_cases h2 : c = overK
 ·rw [if_pos h2,if_pos h2]
  show (_,true) = (mvM (fun e => decide (depM l p = 0) || decide (e.depth ≤ depM l p)) l 1 (p + 1),true)
  rw [← best_fw hp]
  exact congrArg (fun x => (x,true)) (best_congr l 0 _ fun e he => lev e he)
 rw [if_neg h2,if_neg h2]
 by_cases h3 : c = outK'
 ·rw [if_pos h3,if_pos h3]
  show (_,true) = (mvM (fun e => decide (depM l p = 0) || decide (e.depth < depM l p)) l 1 (p + 1),true)
  rw [← best_fw hp]
  exact congrArg (fun x => (x,true)) (best_congr l 0 _ fun e he => abv e he)
 rw [if_neg h3,if_neg h3]
 by_cases h4 : c = goK
 ·rw [if_pos h4,if_pos h4]
  show (_,true) = (mvM (fun e => bs.any (hitB e)) l 1 (p + 1),true)
  rw [← best_fw hp]
  exact congrArg (fun x => (x,true)) (best_congr l 0 _ fun e _ => rfl)
 rw [if_neg h4,if_neg h4]
 by_cases h5 : c = backK
 ·rw [if_pos h5,if_pos h5]
  show (_,true) = (mvM (fun _ => true) l (-1) (p + -1),true)
  rw [← best_bw hp]
  exact congrArg (fun x => (x,true)) (best_congr l 0 _ fun e _ => rfl)
 rw [if_neg h5,if_neg h5]
 by_cases h6 : c = underK
 ·rw [if_pos h6,if_pos h6]
  show (_,true) = (mvM (fun e => decide (depM l p = 0) || decide (e.depth ≤ depM l p)) l (-1) (p + -1),true)
  rw [← best_bw hp]
  exact congrArg (fun x => (x,true)) (best_congr l 0 _ fun e he => lev e he)
 rw [if_neg h6,if_neg h6]
 by_cases h7 : c = rewindK
 ·rw [if_pos h7,if_pos h7]
  show (_,true) = (mvM (fun e => bs.any (hitB e)) l (-1) (p + -1),true)
  rw [← best_bw hp]
  exact congrArg (fun x => (x,true)) (best_congr l 0 _ fun e _ => rfl)
 rw [if_neg h7,if_neg h7]
end Go.Proofs.YtabmcfnefjipbaaGreatDoor
namespace Go.Proofs.YtabmcfnefjipbaaGreatDoor
open Go.RowKit
theorem valid_zero {l : List Ev} (h : (validM l).1 = 0) : validM l = (0,0) := by
 have q := posM_zero (l := l) (p := -1) (by unfold posM;rw [if_neg (by simpa using h),if_neg (by omega)])
 unfold posM at q
 rw [if_neg (by simpa using h)] at q
 have : ∀ (r : List Ev) (i f : Int) (a : List Fu),(vFrom i f a r).1 = 0 → (vFrom i f a r).2 = 0 := by
  intro r
  induction r with
  | nil => intro i f a _;rfl
  | cons x r ih =>
   intro i f a h
   rw [vFrom] at h ⊢
   split at h
   ·rename_i h2;exact absurd h h2
   ·rename_i h2;rw [if_neg h2];exact ih _ _ _ h
 have e1 : (validM l).2 = 0 := by
  unfold validM at h ⊢
  split at h
  ·cases h
  ·rename_i h2;rw [if_neg h2];exact this _ _ _ _ h
 exact Prod.ext h e1
end Go.Proofs.YtabmcfnefjipbaaGreatDoor
namespace Go.Proofs.YtabmcfnefjipbaaGreatDoor
open Go.RowKit
def lenF : List ByteArray → Nat → Int × Int
 | [],_ => (0,0)
 | c :: r,i => if 4000 < c.size then (3,1000000 + (i : Int)) else lenF r (i + 1)
def ssF (l : List Ev) (cs : List ByteArray) : Int × Int := if (validM l).1 ≠ 0 then validM l else if 200 < cs.length then (2,-2) else lenF cs 0
theorem lenF_zero : ∀ (cs : List ByteArray) (i : Nat),(lenF cs i).1 = 0 → ∀ c ∈ cs,c.size ≤ 4000
 | [],_,_,c,h => by cases h
 | x :: r,i,h,c,hc => by
  rw [lenF] at h
  split at h
  ·cases h
  ·rcases List.mem_cons.1 hc with hc | hc
   ·subst hc;omega
   ·exact lenF_zero r (i + 1) h c hc
theorem ssF_zero {l : List Ev} {cs : List ByteArray} (h : (ssF l cs).1 = 0) : (validM l).1 = 0 ∧ cs.length ≤ 200 ∧ ∀ c ∈ cs,c.size ≤ 4000 := by
 unfold ssF at h
 split at h
 ·rename_i h1;exact absurd h h1
 ·rename_i h1
  split at h
  ·cases h
  ·exact ⟨by simpa using h1,by omega,lenF_zero cs 0 h⟩
set_option maxHeartbeats 4000000 in
theorem session_X {l : List Ev} (he : ∀ e ∈ l,e.locs.length ≤ 9000000000) (hn : ∀ e ∈ l,e.line ≤ 9223372036854775807) (cs : List ByteArray) (hok : (ssF l cs).1 = 0) (zt : Fz) (hz : TabE zt) :
  CallsA Tryz.prog 31 [.d (.u (evs l)),.d (.u (strs' cs))] [(907,tbOb zt)] (Iso (.t [.d (.ow 931 (sesX l cs cs.length).1.length),.a [.u (.int .i64 0),.u (.int .i64 0)]]) [(931,.ar 9 1 (strs (sesX l cs cs.length).1)),(907,tbOb zt)]) := by
 have h1 := validate_T l
 obtain ⟨hv0,hcl,hcs⟩ := ssF_zero hok
 obtain ⟨hv,hL⟩ := valid_Vd hv0
 rw [valid_zero hv0] at h1
 clear hok hv0
 refine callsA_of_vcO (T := tt) Tryz.func31 rfl rfl rfl rfl rfl ?_
 repeat' ((conv => whnf);first | refine Gs.id ?_ | with_reducible refine Brn.F rfl ?_ | refine Brn.F (by (try simp only [smT]);first | rfl | omega | fail) ?_ | (refine Bnd.mk (fun hm => ?_);(try simp only [smT] at hm)) | (refine CL.mk (Or.inl ?_);(conv => whnf);refine Cl.is (h1) rfl (by first | exact fun _ => rfl | fail) ?_) | fail)
 all_goals (conv => whnf)
 all_goals try (exfalso;simp at *;omega)
 refine ⟨⟨Nat,fun i => i ≤ cs.length,fun i => cs.length - i,fun i => ⟨[(0,.d (.u (evs l))),(1,.d (.u (strs' cs))),(5,.d (.p 5 0)),(23,.d (.u (strs' cs))),(24,di cs.length),(25,di i)],[(5,.bx 25 [.u (.int .i64 0),.u (.int .i64 0)]),(907,tbOb zt)]⟩,0,Nat.zero_le _,⟨[(5,.k 5),(907,.k 907)],⟨by (try dsimp only);(repeat (refine LeT.cons rfl (by first | exact LeS.d (by first | exact LeD.u rfl | exact LeD.p rfl | exact LeD.u (by simp;done) | fail) | fail) ?_));exact LeT.nil,by (try dsimp only);repeat (first | exact LeO.nil | refine LeO.bx rfl rfl (by repeat (first | exact LeL.nil | refine LeL.cons (by first | exact LeD.u rfl | fail) ?_)) ?_ | refine LeO.ab rfl rfl (by repeat (first | exact LeL.nil | fail)) (by first | rfl | fail) ?_ | fail)⟩⟩,fun i hi => ?_⟩⟩
 dsimp only at hi ⊢
 by_cases h9 : i < cs.length
 ·have hrow : ∀ {K : List V → Prop},K [V.str cs[i]] → Ix (strs cs) (i : Int) K := fun k => Ix.map rfl h9 k
  have hcz := hcs cs[i] (List.getElem_mem h9)
  generalize cs[i] = c at *
  repeat' ((conv => whnf);first | refine hrow ?_ | refine Gs.id ?_ | refine Brn.T (by (try simp only [smT]);first | rfl | omega | fail) ?_ | refine Brn.F (by (try simp only [smT]);first | rfl | omega | fail) ?_ | (refine Bnd.mk (fun hm => ?_);(try simp only [smT] at hm)) | refine Rng.mk (by (try simp only [smT]);omega) ?_ | fail)
  all_goals (conv => whnf)
  all_goals first | (exfalso;simp at *;omega) | exact ⟨i + 1,by omega,by omega,[(5,.k 5),(907,.k 907)],⟨by (try dsimp only);(repeat (refine LeT.cons rfl (by first | exact LeS.d (by first | exact LeD.u rfl | exact LeD.p rfl | fail) | fail) ?_));exact LeT.nil,by (try dsimp only);repeat (first | exact LeO.nil | refine LeO.bx rfl rfl (by repeat (first | exact LeL.nil | refine LeL.cons (by first | exact LeD.u rfl | fail) ?_)) ?_ | refine LeO.ab rfl rfl (by repeat (first | exact LeL.nil | fail)) (by first | rfl | fail) ?_ | fail)⟩⟩
 ·obtain rfl : i = cs.length := by omega
  repeat' ((conv => whnf);first | refine Gs.id ?_ | refine Brn.F (by (try simp only [smT]);first | rfl | omega | fail) ?_ | (refine Bnd.mk (fun hm => ?_);(try simp only [smT] at hm)) | fail)
  all_goals (conv => whnf)
  all_goals try (exfalso;simp at *;omega)
  refine ⟨⟨Nat,fun i => i ≤ cs.length,fun i => cs.length - i,fun i => ⟨[(5,.d (.p 5 0)),(9,.d (.p 1 0)),(10,.d (.ow 931 (sesX l cs i).1.length)),(40,.d (.u (strs' cs))),(41,di cs.length),(42,di i)],[(5,.bx 25 [.u (.int .i64 0),.u (.int .i64 0)]),(1,.bx 120 (sesV l (sesX l cs i).2.p (sesX l cs i).2.bs)),(931,.ar 9 1 (strs (sesX l cs i).1)),(907,tbOb zt)]⟩,0,Nat.zero_le _,⟨[(5,.k 5),(1,.k 39),(931,.n 1),(907,.k 907)],⟨by (try dsimp only);(repeat (refine LeT.cons rfl (by first | exact LeS.d (by first | exact LeD.u rfl | exact LeD.p rfl | exact LeD.no rfl rfl | exact LeD.u (by simp [sesX,bkV];done) | fail) | fail) ?_));exact LeT.nil,by (try dsimp only);repeat (first | exact LeO.nil | refine LeO.bx rfl rfl (by repeat (first | exact LeL.nil | refine LeL.cons (by first | exact LeD.u rfl | fail) ?_)) ?_ | refine LeO.ab rfl rfl (by repeat (first | exact LeL.nil | fail)) (by first | rfl | fail) ?_ | refine LeO.no rfl rfl ?_)⟩⟩,fun i hi => ?_⟩⟩
  dsimp only at hi ⊢
  by_cases h8 : i < cs.length
  ·have hci : cs[i]? = some cs[i] := List.getElem?_eq_getElem h8
   have hrow : ∀ {K : List V → Prop},K [V.str cs[i]] → Ix (strs cs) (i : Int) K := fun k => Ix.map rfl h8 k
   have hcz := hcs cs[i] (List.getElem_mem h8)
   obtain ⟨o1,o2⟩ := sesX_ok (l := l) (cs := cs) i
   have hlen : ∀ i,(sesX l cs i).1.length ≤ i := by
    intro i
    induction i with
    | zero => exact Nat.le_refl _
    | succ i ih =>
     rw [sesX]
     split
     ·simp;omega
     ·omega
   have hll := hlen i
   have hdo := doX_P hv hL he hn (sesX l cs i).2.p o1 (sesX l cs i).2.bs (by omega) cs[i] hcz zt hz
   have hst : sesX l cs (i + 1) = ((sesX l cs i).1 ++ [(doX l (sesX l cs i).2 cs[i]).1],(doX l (sesX l cs i).2 cs[i]).2) := by rw [sesX,hci]
   clear hlen
   have hse : (⟨(sesX l cs i).2.p,(sesX l cs i).2.bs⟩ : Ses) = (sesX l cs i).2 := rfl
   rw [hse] at hdo
   generalize doX l (sesX l cs i).2 cs[i] = dm at *
   generalize cs[i] = c at *
   generalize sesX l cs i = x at *
   obtain ⟨outs,x2⟩ := x
   obtain ⟨ans,x3⟩ := dm
   dsimp only at *
   repeat' ((conv => whnf);first | refine hrow ?_ | refine Gs.id ?_ | refine Brn.T (by (try simp only [smT]);first | rfl | omega | fail) ?_ | refine Rng.mk (by (try simp only [smT]);omega) ?_ | refine Apd.mk (by first | rfl | simp) (by first | rfl | fail) (by (try simp only [smT]);first | omega | fail) (by unfold maxLen;first | (simp;omega) | fail) ?_ | (refine CL.mk (Or.inr (Raw.callFP (x := .func _) [1] [1,907] [907] rfl rfl rfl rfl rfl rfl rfl rfl rfl (hdo) ?_));rintro _ _ ⟨rfl,rfl⟩;refine BkP.mk rfl rfl ?_))
   all_goals (conv => whnf)
   all_goals first | (exfalso;simp at *;omega) | exact ⟨i + 1,by omega,by omega,[(5,.k 5),(1,.k 1),(931,.k 51),(907,.k 907)],by (rw [hst];exact ⟨by (try dsimp only);(repeat (refine LeT.cons rfl (by first | exact LeS.d (by first | exact LeD.u rfl | exact LeD.p rfl | exact LeD.ow rfl (by simp) | fail) | fail) ?_));exact LeT.nil,by (try dsimp only);repeat (first | exact LeO.nil | refine LeO.bx rfl rfl (by repeat (first | exact LeL.nil | refine LeL.cons (by first | exact LeD.u rfl | fail) ?_)) ?_ | refine LeO.ar rfl rfl (by first | rfl | simp) ?_ | refine LeO.ab rfl rfl (by repeat (first | exact LeL.nil | fail)) (by first | rfl | fail) ?_ | fail)⟩)⟩
  ·obtain rfl : i = cs.length := by omega
   repeat' ((conv => whnf);first | refine Gs.id ?_ | refine Brn.F (by (try simp only [smT]);first | rfl | omega | fail) ?_ | fail)
   all_goals (conv => whnf)
   all_goals first | (exfalso;simp at *;omega) | (refine RetO.mk ⟨[(931,.k 931),(907,.k 907)],_,_,(by exact LeS.ts (by repeat (first | exact LeCs.nil | refine LeCs.cons (by first | exact LeC.d (by first | exact LeD.ow rfl rfl | fail) | exact LeC.a (by repeat (first | exact LeL.nil | refine LeL.cons (by first | exact LeD.u rfl | fail) ?_))) ?_))),(by repeat (first | exact LeO.nil | refine LeO.ar rfl rfl (by first | rfl | fail) ?_ | refine LeO.ab rfl rfl (by repeat (first | exact LeL.nil | fail)) (by first | rfl | fail) ?_ | fail)),rfl,rfl⟩)
set_option maxHeartbeats 4000000 in
theorem session_F (l : List Ev) (cs : List ByteArray) (hok : (ssF l cs).1 ≠ 0) (zt : Fz) :
  CallsA Tryz.prog 31 [.d (.u (evs l)),.d (.u (strs' cs))] [(907,tbOb zt)] (Iso (.t [.d (.u .nl),.a [.u (.int .i64 (ssF l cs).1),.u (.int .i64 (ssF l cs).2)]]) [(907,tbOb zt)]) := by
 have h1 := validate_T l
 by_cases v1 : (validM l).1 = 0
 ·rw [valid_zero v1] at h1
  by_cases v2 : 200 < cs.length
  ·have e : ssF l cs = (2,-2) := by rw [ssF,if_neg (by simpa using v1),if_pos v2]
   rw [e]
   refine callsA_of_vcO (T := tt) Tryz.func31 rfl rfl rfl rfl rfl ?_
   repeat' ((conv => whnf);first | refine Gs.id ?_ | with_reducible refine Brn.F rfl ?_ | refine Brn.T (by (try simp only [smT]);first | rfl | omega | fail) ?_ | (refine Bnd.mk (fun hm => ?_);(try simp only [smT] at hm)) | (refine CL.mk (Or.inl ?_);(conv => whnf);refine Cl.is (h1) rfl (by first | exact fun _ => rfl | fail) ?_) | fail)
   all_goals (conv => whnf)
   all_goals first | (exfalso;simp at *;omega) | refine RetO.mk ⟨[(907,.k 907)],_,_,(by exact LeS.ts (by repeat (first | exact LeCs.nil | refine LeCs.cons (by first | exact LeC.d (by first | exact LeD.u rfl | fail) | exact LeC.a (by repeat (first | exact LeL.nil | refine LeL.cons (by first | exact LeD.u rfl | fail) ?_))) ?_))),(by repeat (first | exact LeO.nil | refine LeO.ab rfl rfl (by repeat (first | exact LeL.nil | fail)) (by first | rfl | fail) ?_ | fail)),rfl,rfl⟩
  ·have e : ssF l cs = lenF cs 0 := by rw [ssF,if_neg (by simpa using v1),if_neg v2]
   rw [e] at hok ⊢
   clear e v1
   refine callsA_of_vcO (T := tt) Tryz.func31 rfl rfl rfl rfl rfl ?_
   repeat' ((conv => whnf);first | refine Gs.id ?_ | with_reducible refine Brn.F rfl ?_ | refine Brn.F (by (try simp only [smT]);first | rfl | omega | fail) ?_ | (refine Bnd.mk (fun hm => ?_);(try simp only [smT] at hm)) | (refine CL.mk (Or.inl ?_);(conv => whnf);refine Cl.is (h1) rfl (by first | exact fun _ => rfl | fail) ?_) | fail)
   all_goals (conv => whnf)
   all_goals try (exfalso;simp at *;omega)
   clear h1
   refine ⟨⟨Nat,fun i => i ≤ cs.length ∧ lenF cs 0 = lenF (cs.drop i) i,fun i => cs.length - i,fun i => ⟨[(0,.d (.u (evs l))),(1,.d (.u (strs' cs))),(5,.d (.p 5 0)),(23,.d (.u (strs' cs))),(24,di cs.length),(25,di i)],[(5,.bx 25 [.u (.int .i64 0),.u (.int .i64 0)]),(907,tbOb zt)]⟩,0,⟨Nat.zero_le _,rfl⟩,⟨[(5,.k 5),(907,.k 907)],⟨by (try dsimp only);(repeat (refine LeT.cons rfl (by first | exact LeS.d (by first | exact LeD.u rfl | exact LeD.p rfl | exact LeD.u (by simp;done) | fail) | fail) ?_));exact LeT.nil,by (try dsimp only);repeat (first | exact LeO.nil | refine LeO.bx rfl rfl (by repeat (first | exact LeL.nil | refine LeL.cons (by first | exact LeD.u rfl | fail) ?_)) ?_ | refine LeO.ab rfl rfl (by repeat (first | exact LeL.nil | fail)) (by first | rfl | fail) ?_ | fail)⟩⟩,fun i hi => ?_⟩⟩
   obtain ⟨hi,hq⟩ := hi
   dsimp only
   by_cases h9 : i < cs.length
   ·have hrow : ∀ {K : List V → Prop},K [V.str cs[i]] → Ix (strs cs) (i : Int) K := fun k => Ix.map rfl h9 k
    rw [List.drop_eq_getElem_cons h9,lenF] at hq
    generalize cs[i] = c at *
    by_cases h4 : 4000 < c.size
    ·rw [if_pos h4] at hq
     rw [hq]
     clear hq hok
     have h5 : (4000 : Int) < (c.size : Int) := by omega
     repeat' ((conv => whnf);first | refine hrow ?_ | refine Gs.id ?_ | refine Brn.T (by (try simp only [smT]);first | rfl | assumption | omega | fail) ?_ | (refine Bnd.mk (fun hm => ?_);(try simp only [smT] at hm)) | refine Rng.mk (by (try simp only [smT]);omega) ?_ | fail)
     all_goals (conv => whnf)
     all_goals first | (exfalso;simp at *;omega) | refine RetO.mk ⟨[(907,.k 907)],_,_,(by exact LeS.ts (by repeat (first | exact LeCs.nil | refine LeCs.cons (by first | exact LeC.d (by first | exact LeD.u rfl | fail) | exact LeC.a (by repeat (first | exact LeL.nil | refine LeL.cons (by first | exact LeD.u rfl | fail) ?_))) ?_))),(by repeat (first | exact LeO.nil | refine LeO.ab rfl rfl (by repeat (first | exact LeL.nil | fail)) (by first | rfl | fail) ?_ | fail)),rfl,rfl⟩
    ·rw [if_neg h4] at hq
     have h5 : ¬ (4000 : Int) < (c.size : Int) := by omega
     repeat' ((conv => whnf);first | refine hrow ?_ | refine Gs.id ?_ | refine Brn.T (by (try simp only [smT]);first | rfl | omega | fail) ?_ | refine Brn.F (by (try simp only [smT]);first | rfl | omega | fail) ?_ | (refine Bnd.mk (fun hm => ?_);(try simp only [smT] at hm)) | refine Rng.mk (by (try simp only [smT]);omega) ?_ | fail)
     all_goals (conv => whnf)
     all_goals first | (exfalso;simp at *;omega) | exact ⟨i + 1,⟨by omega,hq⟩,by omega,[(5,.k 5),(907,.k 907)],⟨by (try dsimp only);(repeat (refine LeT.cons rfl (by first | exact LeS.d (by first | exact LeD.u rfl | exact LeD.p rfl | fail) | fail) ?_));exact LeT.nil,by (try dsimp only);repeat (first | exact LeO.nil | refine LeO.bx rfl rfl (by repeat (first | exact LeL.nil | refine LeL.cons (by first | exact LeD.u rfl | fail) ?_)) ?_ | refine LeO.ab rfl rfl (by repeat (first | exact LeL.nil | fail)) (by first | rfl | fail) ?_ | fail)⟩⟩
   ·exfalso
    obtain rfl : i = cs.length := by omega
    rw [hq,List.drop_length,lenF] at hok
    exact hok rfl
 ·have e : ssF l cs = validM l := by rw [ssF,if_pos v1]
  rw [e]
  generalize validM l = a1 at *
  obtain ⟨a1,c1⟩ := a1
  dsimp only at *
  clear e hok
  refine callsA_of_vcO (T := tt) Tryz.func31 rfl rfl rfl rfl rfl ?_
  repeat' ((conv => whnf);first | refine Gs.id ?_ | refine Brn.T (by (try simp only [smT]);first | rfl | assumption | fail) ?_ | refine Drw.of (T := tt) (i := 3) [2] [] [(0,true),(1,true),(2,false)] (by kernel_rfl) ?_ | (refine CL.mk (Or.inl ?_);(conv => whnf);refine Cl.is (h1) rfl (by first | exact fun _ => rfl | fail) ?_) | fail)
  all_goals (conv => whnf)
  all_goals first | (exfalso;simp at *;omega) | refine RetO.mk ⟨[(907,.k 907)],_,_,(by exact LeS.ts (by repeat (first | exact LeCs.nil | refine LeCs.cons (by first | exact LeC.d (by first | exact LeD.u rfl | fail) | exact LeC.a (by repeat (first | exact LeL.nil | refine LeL.cons (by first | exact LeD.u rfl | fail) ?_))) ?_))),(by repeat (first | exact LeO.nil | refine LeO.ab rfl rfl (by repeat (first | exact LeL.nil | fail)) (by first | rfl | fail) ?_ | fail)),rfl,rfl⟩
end Go.Proofs.YtabmcfnefjipbaaGreatDoor
namespace Go.Proofs.YtabmcfnefjipbaaGreatDoor
open Go.RowKit
abbrev show4 : ByteArray := ByteArray.mk #[115,104,111,119]
theorem idx_app : ∀ (x l : List UInt8),(∀ b ∈ x,b ≠ 32) → Go.Lib.indexByte (x ++ 32 :: l) 32 = (x.length : Int)
 | [],l,_ => by simp [Go.Lib.indexByte]
 | b :: x,l,h => by
  have hb : b ≠ 32 := h b (by simp)
  have h4 : (b == 32) = false := by simpa using hb
  have ih := idx_app x l (fun c hc => h c (by simp [hc]))
  rw [List.cons_append,Go.Lib.indexByte,h4,ih]
  have h5 : ((x.length : Int) == -1) = false := by first | (simp;done) | (simp;omega)
  rw [h5,List.length_cons]
  simp
theorem show_iff (c : ByteArray) : isShow c = true ↔ (0 ≤ cutJ c ∧ cutW c = show4) := by
 have hlt := cutJ_lt c
 unfold isShow
 rw [Bool.and_eq_true,decide_eq_true_eq,decide_eq_true_eq]
 constructor
 ·rintro ⟨h1,h2⟩
  have e1 := extract_tl c 0 5
  rw [h2] at e1
  have e2 : c.data.toList = [115,104,111,119] ++ 32 :: c.data.toList.drop 5 := by
   have e3 : c.data.toList.take 5 = [115,104,111,119,32] := by simpa using e1.symm
   rw [← List.take_append_drop 5 c.data.toList,e3]
   simp
  have hj : cutJ c = 4 := by
   unfold cutJ
   rw [e2,idx_app _ _ (by decide)]
   rfl
  refine ⟨by omega,?_⟩
  unfold cutW
  rw [if_pos (by omega),hj]
  refine bytes_ext ?_
  rw [extract_tl,e2]
  rfl
 ·rintro ⟨h1,h2⟩
  unfold cutW at h2
  rw [if_pos h1] at h2
  have hs : (c.extract 0 (cutJ c).toNat).size = 4 := by rw [h2];rfl
  simp at hs
  have hj : cutJ c = 4 := by omega
  have hi := idx_eq c.data.toList h1
  have hj' : Go.Lib.indexByte c.data.toList 32 = 4 := hj
  rw [hj'] at hi
  have e1 := extract_tl c 0 4
  rw [hj] at h2
  have h2' : c.extract 0 4 = show4 := h2
  rw [h2'] at e1
  have e4 : c.data.toList.take 4 = [115,104,111,119] := by simpa using e1.symm
  refine ⟨by omega,bytes_ext ?_⟩
  rw [extract_tl,hi]
  simp only [Nat.sub_zero,List.drop_zero]
  rw [show ((4 : Int).toNat) = 4 from rfl,e4]
  rfl
theorem show_rest {c : ByteArray} (h : isShow c = true) : cutR' c = c.extract 5 c.size := by
 obtain ⟨h1,h2⟩ := (show_iff c).1 h
 have hlt := cutJ_lt c
 unfold cutW at h2
 rw [if_pos h1] at h2
 have hs : (c.extract 0 (cutJ c).toNat).size = 4 := by rw [h2];rfl
 simp at hs
 unfold cutR'
 rw [if_pos h1,show (cutJ c).toNat = 4 by omega]
def whAcc (ps : List Pc) : Nat → ByteArray
 | 0 => nowhereB
 | k + 1 => if k = 0 then whereB (ps[k]?.getD ⟨emB,emB,0⟩) else whereB (ps[k]?.getD ⟨emB,emB,0⟩) ++ semiSp ++ whAcc ps k
theorem whAcc_join (ps : List Pc) : ∀ k,k + 1 ≤ ps.length → (whAcc ps (k + 1)).data.toList = Lib.join (tl ((ps.take (k + 1)).reverse.map whereB)) semiSp.data.toList
 | 0,h => by
  have e : ps[0]? = some ps[0] := List.getElem?_eq_getElem (by omega)
  rw [whAcc,if_pos rfl,e,List.take_add_one,e]
  simp [tl,Lib.join,List.intercalate]
 | k + 1,h => by
  have ih := whAcc_join ps k (by omega)
  have e : ps[k + 1]? = some ps[k + 1] := List.getElem?_eq_getElem (by omega)
  rw [whAcc,if_neg (by omega),e,List.take_add_one,e]
  simp only [Option.toList_some,List.reverse_append,List.reverse_cons,List.reverse_nil,List.nil_append,List.singleton_append,List.map_cons,Option.getD_some,ByteArray.data_append,Array.toList_append,ih]
  have hne : (ps.take (k + 1)).reverse ≠ [] := by
   intro h0
   have := congrArg List.length h0
   rw [List.length_reverse,List.length_take,List.length_nil] at this
   omega
  generalize (ps.take (k + 1)).reverse = L at *
  cases L with
  | nil => exact absurd rfl hne
  | cons x r =>
   simp only [tl,List.map_cons,Lib.join,List.intercalate,List.intersperse_cons_cons,List.flatten_cons,List.append_assoc]
theorem whAcc_eq (ps : List Pc) : whAcc ps ps.length = whereL ps := by
 unfold whereL
 cases h : ps.length with
 | zero => rw [if_pos (List.eq_nil_of_length_eq_zero h)];rfl
 | succ k =>
  rw [if_neg (by intro h0;rw [h0] at h;simp at h)]
  rw [← joinB_eq]
  refine bytes_ext ?_
  rw [whAcc_join ps k (by omega),← h,List.take_length]
theorem whAcc_size {ps : List Pc} (h : ∀ p ∈ ps,PcOk p) : ∀ k,k ≤ ps.length → (whAcc ps k).size ≤ 7 + 112 * k
 | 0,_ => by
  have : nowhereB.size = 7 := rfl
  rw [whAcc];omega
 | k + 1,hk => by
  have ih := whAcc_size h k (by omega)
  have e : ps[k]? = some ps[k] := List.getElem?_eq_getElem (by omega)
  have hw := whereB_size (h _ (List.getElem_mem (show k < ps.length by omega)))
  have h2 : semiSp.size = 2 := rfl
  rw [whAcc,e]
  split
  ·simp only [Option.getD_some];omega
  ·simp only [Option.getD_some,ByteArray.size_append];omega
theorem sesX_md {l : List Ev} {cs : List ByteArray} (hc : ∀ c ∈ cs,c.size ≤ 4000) : ∀ i,∀ b ∈ (sesX l cs i).2.bs,b.md.size ≤ 4000
 | 0,b,h => by simp [sesX] at h
 | i + 1,b,h => by
  have ih := sesX_md (l := l) hc i
  rw [sesX] at h
  split at h
  ·rename_i c hci
   have hcs := hc c (List.mem_of_getElem? hci)
   dsimp only at h
   unfold doX at h
   split at h
   ·exact ih b h
   ·split at h
    ·cases h
    ·split at h
     ·exact ih b h
     ·split at h
      ·unfold addX at h
       split at h
       ·unfold addM at h
        split at h
        ·exact ih b h
        ·unfold addG at h
         split at h
         ·exact ih b h
         ·rcases List.mem_append.1 h with h | h
          ·exact ih b h
          ·have hw : ((spN 3 (cutR' c))[0]?.getD emB).size ≤ 4000 := by
            cases hx : (spN 3 (cutR' c))[0]? with
            | none => exact Nat.zero_le _
            | some x =>
             have h1 := spN_le 3 _ x (List.mem_of_getElem? hx)
             have h2 := cutR_size c
             simp only [Option.getD_some]
             omega
           simp only [List.mem_cons,List.not_mem_nil,or_false] at h
           subst h
           unfold wordsB
           split <;> exact hw
       ·exact ih b h
      ·split at h
       ·exact ih b h
       ·exact ih b h
  ·exact ih b h
end Go.Proofs.YtabmcfnefjipbaaGreatDoor
namespace Go.Proofs.YtabmcfnefjipbaaGreatDoor
open Go.RowKit
theorem itoaB_small {n : Int} (h0 : 0 ≤ n) (h1 : n < 10) : itoaB n = ByteArray.mk #[UInt8.ofNat (48 + n.toNat)] := by
 unfold itoaB Lib.itoa
 rw [if_neg (by omega),Lib.decDigits,dif_pos (by omega)]
theorem itoaB_big {n : Int} (h : 10 ≤ n) : itoaB n = itoaB (n / 10) ++ ByteArray.mk #[UInt8.ofNat (48 + (n % 10).toNat)] := by
 refine bytes_ext ?_
 unfold itoaB Lib.itoa
 rw [if_neg (by omega),if_neg (by omega),Lib.decDigits,dif_neg (by omega),show n.toNat / 10 = (n / 10).toNat by omega,show n.toNat % 10 = (n % 10).toNat by omega]
 simp
set_option maxHeartbeats 2000000 in
theorem decimal_R : ∀ (k : Nat) (n : Int),n.toNat < 10 ^ k → 0 ≤ n → n ≤ 9223372036854775807 → CallsA Tryz.prog 51 [di n] [] (Is (dsr (itoaB n)))
 | 0,n,h,h0,_ => by
  have hb := encode_digit (n := n) h0 (by omega)
  have h2 : n = 0 := by omega
  subst h2
  rw [itoaB_small (by omega) (by omega)]
  refine callsA_of_vc (T := tt) Tryz.func51 rfl rfl rfl rfl rfl ?_
  repeat' ((conv => whnf);first | refine Raw.conv32 rfl rfl rfl rfl rfl (by omega) (by omega) rfl ?_ | refine Raw.runeStr rfl rfl rfl rfl hb (by decide) rfl ?_ | refine Gs.id ?_ | with_reducible refine Brn.T rfl ?_ | with_reducible refine Brn.F rfl ?_ | refine Rng.mk (by (try simp only [smT]);omega) ?_ | fail)
  all_goals (conv => whnf)
  all_goals exact Ret.is rfl
 | k + 1,n,h,h0,h1 => by
  by_cases h9 : n < 10
  ·have hb := encode_digit (n := n) h0 h9
   rw [itoaB_small h0 h9]
   refine callsA_of_vc (T := tt) Tryz.func51 rfl rfl rfl rfl rfl ?_
   repeat' ((conv => whnf);first | refine Raw.conv32 rfl rfl rfl rfl rfl (by omega) (by omega) rfl ?_ | refine Raw.runeStr rfl rfl rfl rfl hb (by unfold maxLen;simp [ByteArray.size]) rfl ?_ | refine Gs.id ?_ | refine Brn.T (by (try simp only [smT]);first | rfl | assumption | fail) ?_ | refine Brn.F (by (try simp only [smT]);first | rfl | assumption | fail) ?_ | refine Rng.mk (by (try simp only [smT]);omega) ?_ | fail)
   all_goals (conv => whnf)
   all_goals exact Ret.is rfl
  ·have ih := decimal_R k (n / 10) (by rw [Nat.pow_succ] at h;omega) (by omega) (by omega)
   have hb := encode_digit (n := n % 10) (by omega) (by omega)
   have hz := itoaB_size (n := n / 10) (by omega) (by omega)
   have h1z : (ByteArray.mk #[UInt8.ofNat (48 + (n % 10).toNat)]).size = 1 := rfl
   rw [itoaB_big (by omega)]
   refine callsA_of_vc (T := tt) Tryz.func51 rfl rfl rfl rfl rfl ?_
   repeat' ((conv => whnf);first | refine Raw.conv32 rfl rfl rfl rfl rfl (by omega) (by omega) rfl ?_ | refine Raw.quoN rfl rfl (by omega) (by omega) (by omega) rfl ?_ | refine Raw.remN rfl rfl (by omega) (by omega) rfl ?_ | refine Raw.runeStr rfl rfl rfl rfl hb (by unfold maxLen;omega) rfl ?_ | refine Cat.mk (by unfold maxLen;(try simp only [ByteArray.size_append]);omega) ?_ | refine Gs.id ?_ | refine Brn.F (by (try simp only [smT]);first | rfl | assumption | omega | fail) ?_ | refine Rng.mk (by (try simp only [smT]);omega) ?_ | (refine CL.mk (Or.inl ?_);(conv => whnf);refine Cl.is (ih) rfl (by first | exact fun _ => rfl | fail) ?_) | fail)
   all_goals (conv => whnf)
   all_goals exact Ret.is rfl
end Go.Proofs.YtabmcfnefjipbaaGreatDoor
namespace Go.Proofs.YtabmcfnefjipbaaGreatDoor
open Go.RowKit
section
variable {P : Program} {T : List (Nat × Ty)} [hT : Tys P T] {nt : Nt} {ty : TypeId} {pos : String} {af : Array Edge} {gd : Option (Nat × Bool)} {K : Kt}
theorem Raw.quoM {d : Nat} {x y : Operand} {t u : TypeId} {m n : Int} {tmT : List (Nat × SV)} {ob : List (Nat × Ob)} (hx : evT tmT x = some (.d (.u (.int .i64 (-m))))) (hy : evT tmT y = some (.d (.u (.int .i64 n)))) (h0 : 0 ≤ m) (h1 : m ≤ 2000000000) (hn : 0 < n) (hd : Nat.blt d nt = true) (k : K ((d,.d (.u (.int .i64 (-(m / n))))) :: tmT) ob) : Raw P nt ⟨some d,.binOp .quo t x y u,ty,pos,af,gd⟩ tmT ob K := ⟨fun Q c tm h ρ G g => by
 obtain ⟨F,w0,hp⟩ := h
 have e1 := evT_int g hx
 have e2 := evT_int g hy
 have hq : m / n ≤ m := Int.ediv_le_self n h0
 have hq0 : 0 ≤ m / n := Int.ediv_nonneg h0 (by omega)
 have hw : IntKind.i64.wrap (-(m.tdiv n)) = -(m / n) := by
  rw [Int.tdiv_eq_ediv_of_nonneg h0]
  rw [IntKind.wrap_i64]
  omega
 refine OpS.of_run hd fun a w ha hw' => ⟨.int .i64 (-(m / n)),w,_,?_,hw',.of (Gd.put (d := d) (st := ⟨tmT,ob⟩) g (.d (.u (.int _ _)))) k⟩
 simp [execOp,eqGuard,ha.ev e1,ha.ev e2,binOp_quo,Op.intDiv,hw,show ¬ n = 0 by omega]⟩
theorem Raw.remM {d : Nat} {x y : Operand} {t u : TypeId} {m n : Int} {tmT : List (Nat × SV)} {ob : List (Nat × Ob)} (hx : evT tmT x = some (.d (.u (.int .i64 (-m))))) (hy : evT tmT y = some (.d (.u (.int .i64 n)))) (h0 : 0 ≤ m) (hn : 0 < n) (hd : Nat.blt d nt = true) (k : K ((d,.d (.u (.int .i64 (-(m % n))))) :: tmT) ob) : Raw P nt ⟨some d,.binOp .rem t x y u,ty,pos,af,gd⟩ tmT ob K := ⟨fun Q c tm h ρ G g => by
 obtain ⟨F,w0,hp⟩ := h
 have e1 := evT_int g hx
 have e2 := evT_int g hy
 refine OpS.of_run hd fun a w ha hw' => ⟨.int .i64 (-(m % n)),w,_,?_,hw',.of (Gd.put (d := d) (st := ⟨tmT,ob⟩) g (.d (.u (.int _ _)))) k⟩
 simp [execOp,eqGuard,ha.ev e1,ha.ev e2,binOp_rem,Op.intDiv,Int.neg_tmod,Int.tmod_eq_emod_of_nonneg h0,show ¬ n = 0 by omega]⟩
end
set_option maxHeartbeats 2000000 in
theorem decNeg_R (m : Int) (h0 : 1 ≤ m) (h1 : m ≤ 1000000000) : ∃ x : ByteArray,CallsA Tryz.prog 51 [di (-m)] [] (Is (dsr x)) := by
 have hmz : (ByteArray.mk #[45]).size = 1 := rfl
 by_cases h9 : m ≤ 9
 ·have hb := encode_digit (n := m) (by omega) (by omega)
  rw [show (48 : Int) + m = 48 - -m by omega] at hb
  have h1z : (ByteArray.mk #[UInt8.ofNat (48 + m.toNat)]).size = 1 := rfl
  refine ⟨ByteArray.mk #[45] ++ ByteArray.mk #[UInt8.ofNat (48 + m.toNat)],?_⟩
  refine callsA_of_vc (T := tt) Tryz.func51 rfl rfl rfl rfl rfl ?_
  repeat' ((conv => whnf);first | refine Raw.conv32 rfl rfl rfl rfl rfl (by omega) (by omega) rfl ?_ | refine Raw.runeStr rfl rfl rfl rfl hb (by unfold maxLen;omega) rfl ?_ | refine Cat.mk (by unfold maxLen;(try simp only [ByteArray.size_append]);omega) ?_ | refine Gs.id ?_ | refine Brn.T (by (try simp only [smT]);first | rfl | omega | fail) ?_ | refine Brn.F (by (try simp only [smT]);first | rfl | omega | fail) ?_ | refine Rng.mk (by (try simp only [smT]);omega) ?_ | fail)
  all_goals (conv => whnf)
  all_goals exact Ret.is rfl
 ·have ih := decimal_R 10 (m / 10) (by omega) (by omega) (by omega)
  rw [show m / 10 = - -(m / 10) by omega] at ih
  have hb := encode_digit (n := m % 10) (by omega) (by omega)
  rw [show (48 : Int) + m % 10 = 48 - -(m % 10) by omega] at hb
  have hz := itoaB_size (n := - -(m / 10)) (by omega) (by omega)
  have h1z : (ByteArray.mk #[UInt8.ofNat (48 + (m % 10).toNat)]).size = 1 := rfl
  generalize itoaB (- -(m / 10)) = y at *
  refine ⟨ByteArray.mk #[45] ++ y ++ ByteArray.mk #[UInt8.ofNat (48 + (m % 10).toNat)],?_⟩
  refine callsA_of_vc (T := tt) Tryz.func51 rfl rfl rfl rfl rfl ?_
  repeat' ((conv => whnf);first | refine Raw.conv32 rfl rfl rfl rfl rfl (by omega) (by omega) rfl ?_ | refine Raw.quoM rfl rfl (by omega) (by omega) (by omega) rfl ?_ | refine Raw.remM rfl rfl (by omega) (by omega) rfl ?_ | refine Raw.runeStr rfl rfl rfl rfl hb (by unfold maxLen;omega) rfl ?_ | refine Cat.mk (by unfold maxLen;(try simp only [ByteArray.size_append]);omega) ?_ | refine Gs.id ?_ | refine Brn.T (by (try simp only [smT]);first | rfl | omega | fail) ?_ | refine Rng.mk (by (try simp only [smT]);omega) ?_ | (refine CL.mk (Or.inl ?_);(conv => whnf);refine Cl.is (ih) rfl (by first | exact fun _ => rfl | fail) ?_) | fail)
  all_goals (conv => whnf)
  all_goals exact Ret.is rfl
def numFr (s : ByteArray) (f : Nat) : Nat → Int
 | 0 => 0
 | i + 1 => 10 * numFr s f i + (((s.data[f + i]?.getD 48).toNat : Int)) - 48
theorem numFr_zero (s : ByteArray) : ∀ i,numFr s 0 i = numU s i
 | 0 => rfl
 | i + 1 => by
  rw [numFr,numU,numFr_zero s i,Nat.zero_add]
  omega
def digF (s : ByteArray) (f n : Nat) : Prop := ∀ i,i < n → 48 ≤ ((s.data[f + i]?.getD 48).toNat : Int) ∧ ((s.data[f + i]?.getD 48).toNat : Int) ≤ 57
theorem numFr_bd {s : ByteArray} {f n : Nat} (h : digF s f n) : ∀ i,i ≤ n → 0 ≤ numFr s f i ∧ numFr s f i < 10 ^ i
 | 0,_ => by simp [numFr]
 | i + 1,hi => by
  have ih := numFr_bd h i (by omega)
  have hd := h i (by omega)
  rw [numFr,Int.pow_succ]
  omega
theorem byte_get {s : ByteArray} {j : Nat} (h : j < s.size) : (s[j].toNat : Int) = ((s.data[j]?.getD 48).toNat : Int) := by
 rw [Array.getElem?_eq_getElem (show j < s.data.size from h)];rfl
set_option maxHeartbeats 4000000 in
theorem number_A (s : ByteArray) (f n : Nat) (hf : (f = 0 ∧ (0 < s.size → (s.data[0]?.getD 48).toNat ≠ 45)) ∨ (f = 1 ∧ 0 < s.size ∧ (s.data[0]?.getD 48).toNat = 45)) (hn : s.size = f + n) (h9 : n ≤ 9) (hd : digF s f n) (r : Int) (hr : r = (if f = 1 then -(numFr s f n) else numFr s f n)) (x : ByteArray) (hx : 0 < n → CallsA Tryz.prog 51 [di r] [] (Is (dsr x))) :
  CallsA Tryz.prog 68 [dsr s] [] (Is (.t [.d (.u (.int .i64 r)),.d (.u (.bool (decide (0 < n) && decide (x = s))))])) := by
 have hbd := numFr_bd hd
 have hq := toList_beq x s
 have hp9 := pow9 h9
 have hnb := hbd n (Nat.le_refl _)
 have loop : ∀ i,i < n → ∃ (h : f + i < s.size),(s[f + i].toNat : Int) = ((s.data[f + i]?.getD 48).toNat : Int) := fun i hi => ⟨by omega,byte_get _⟩
 have hcase : (f = 0 ∧ s.size = 0) ∨ (f = 0 ∧ ∃ h : 0 < s.size,(s[0].toNat : Int) = ((s.data[0]?.getD 48).toNat : Int) ∧ ((s.data[0]?.getD 48).toNat : Int) ≠ 45) ∨ (f = 1 ∧ ∃ h : 0 < s.size,(s[0].toNat : Int) = ((s.data[0]?.getD 48).toNat : Int) ∧ ((s.data[0]?.getD 48).toNat : Int) = 45) := by
  rcases hf with ⟨h1,h2⟩ | ⟨h1,h2,h3⟩
  ·by_cases h0 : 0 < s.size
   ·exact .inr (.inl ⟨h1,h0,byte_get h0,by have := h2 h0;omega⟩)
   ·exact .inl ⟨h1,by omega⟩
  ·exact .inr (.inr ⟨h1,h2,byte_get h2,by omega⟩)
 clear hf
 rcases hcase with ⟨hfv,h0⟩ | ⟨hfv,h0,hx0,hb0⟩ | ⟨hfv,h0,hx0,hb0⟩
 ·rw [if_neg (by omega)] at hr
  subst hr
  have hx0 : (0 : Int) = 0 := rfl
  refine callsA_of_vc (T := tt) Tryz.func68 rfl rfl rfl rfl rfl ?_
  repeat' ((conv => whnf);first | refine Gs.id ?_ | with_reducible refine Brn.F rfl ?_ | refine Brn.F (by (try simp only [smT]);first | rfl | omega | fail) ?_ | (refine Bnd.mk (fun hm => ?_);(try simp only [smT] at hm)) | fail)
  all_goals (conv => whnf)
  all_goals try (exfalso;simp at *;omega)
  refine ⟨⟨Nat,fun i => i ≤ n,fun i => n - i,fun i => ⟨[(0,dsr s),(4,di 0),(5,di (numFr s f i)),(6,di ((f + i : Nat)))],[]⟩,0,Nat.zero_le _,⟨[],⟨by (try dsimp only);(repeat (refine LeT.cons rfl (by first | exact LeS.d (by first | exact LeD.u rfl | exact LeD.u (by simp [numFr,hfv];done) | fail) | fail) ?_));exact LeT.nil,by (try dsimp only);repeat (first | exact LeO.nil | fail)⟩⟩,fun i hi => ?_⟩⟩
  dsimp only at hi ⊢
  obtain rfl : i = 0 := by omega
  obtain rfl : n = 0 := by omega
  generalize numFr s f 0 = m at *
  generalize decide (x = s) = bx at *
  clear hbd hd loop hx
  rw [decide_eq_false (Nat.lt_irrefl 0)]
  repeat' ((conv => whnf);first | refine Gs.id ?_ | with_reducible refine Brn.F rfl ?_ | refine Brn.F (by (try simp only [smT]);first | rfl | omega | fail) ?_ | (refine Bnd.mk (fun hm => ?_);(try simp only [smT] at hm)) | fail)
  all_goals (conv => whnf)
  all_goals first | (exfalso;simp at *;omega) | exact Ret.is rfl
 ·rw [if_neg (by omega)] at hr
  subst hr
  generalize hbz : (((s.data[0]?.getD 48).toNat : Int)) = b0 at hx0 hb0
  clear hbz
  refine callsA_of_vc (T := tt) Tryz.func68 rfl rfl rfl rfl rfl ?_
  repeat' ((conv => whnf);first | (refine Sbx.mk ⟨0,(by assumption),rfl,?_⟩;rw [hx0]) | refine Gs.id ?_ | refine Brn.T (by (try simp only [smT]);first | rfl | omega | fail) ?_ | refine Brn.F (by (try simp only [smT]);first | rfl | assumption | fail) ?_ | (refine Bnd.mk (fun hm => ?_);(try simp only [smT] at hm)) | fail)
  all_goals (conv => whnf)
  all_goals try (exfalso;simp at *;omega)
  refine ⟨⟨Nat,fun i => i ≤ n,fun i => n - i,fun i => ⟨[(0,dsr s),(4,di 0),(5,di (numFr s f i)),(6,di ((f + i : Nat)))],[]⟩,0,Nat.zero_le _,⟨[],⟨by (try dsimp only);(repeat (refine LeT.cons rfl (by first | exact LeS.d (by first | exact LeD.u rfl | exact LeD.u (by simp [numFr,hfv];done) | fail) | fail) ?_));exact LeT.nil,by (try dsimp only);repeat (first | exact LeO.nil | fail)⟩⟩,fun i hi => ?_⟩⟩
  dsimp only at hi ⊢
  by_cases h8 : i < n
  ·obtain ⟨hlt,hby⟩ := loop i h8
   have hdi := hd i h8
   have hbi := hbd i (by omega)
   have hp := pow9 (i := i) (by omega)
   have hbi2 := hbd (i + 1) (by omega)
   have hp2 := pow9 (i := i + 1) (by omega)
   have hst : numFr s f (i + 1) = 10 * numFr s f i + (((s.data[f + i]?.getD 48).toNat : Int)) - 48 := rfl
   have hdg := digit_R (((s.data[f + i]?.getD 48).toNat : Int))
   rw [show digB (((s.data[f + i]?.getD 48).toNat : Int)) = true by unfold digB;simp;omega] at hdg
   generalize (((s.data[f + i]?.getD 48).toNat : Int)) = b at *
   generalize numFr s f i = m at *
   clear hbd hd loop hnb hx
   repeat' ((conv => whnf);first | (refine Sbx.mk ⟨f + i,hlt,(by omega),?_⟩;rw [hby]) | refine Raw.convI64 rfl rfl rfl rfl rfl (by omega) (by omega) rfl ?_ | refine Gs.id ?_ | with_reducible refine Brn.F rfl ?_ | refine Brn.T (by (try simp only [smT]);first | rfl | omega | fail) ?_ | refine Brn.F (by (try simp only [smT]);first | rfl | omega | fail) ?_ | (refine Bnd.mk (fun hm => ?_);(try simp only [smT] at hm)) | refine Rng.mk (by (try simp only [smT]);omega) ?_ | (refine CL.mk (Or.inl ?_);(conv => whnf);refine Cl.is (hdg) rfl (by first | exact fun _ => rfl | fail) ?_) | fail)
   all_goals (conv => whnf)
   all_goals first | (exfalso;simp at *;omega) | exact ⟨i + 1,by omega,by omega,[],by (rw [hst];exact ⟨by (try dsimp only);(repeat (refine LeT.cons rfl (by first | exact LeS.d (by first | exact LeD.u rfl | fail) | fail) ?_));exact LeT.nil,by (try dsimp only);repeat (first | exact LeO.nil | fail)⟩)⟩
  ·obtain rfl : i = n := by omega
   generalize numFr s f i = m at *
   generalize decide (x = s) = bx at *
   clear hbd hd loop
   by_cases hi0 : 0 < i
   ·have hx := hx hi0
    rw [decide_eq_true hi0]
    repeat' ((conv => whnf);first | rw [hq] | refine Gs.id ?_ | with_reducible refine Brn.F rfl ?_ | refine Brn.T (by (try simp only [smT]);first | rfl | omega | fail) ?_ | refine Brn.F (by (try simp only [smT]);first | rfl | omega | fail) ?_ | (refine Bnd.mk (fun hm => ?_);(try simp only [smT] at hm)) | (refine CL.mk (Or.inl ?_);(conv => whnf);refine Cl.is (hx) rfl (by first | exact fun _ => rfl | fail) ?_) | fail)
    all_goals (conv => whnf)
    all_goals first | (exfalso;simp at *;omega) | exact Ret.is rfl
   ·rw [decide_eq_false hi0]
    clear hx
    repeat' ((conv => whnf);first | refine Gs.id ?_ | refine Brn.T (by (try simp only [smT]);first | rfl | omega | fail) ?_ | (refine Bnd.mk (fun hm => ?_);(try simp only [smT] at hm)) | fail)
    all_goals (conv => whnf)
    all_goals first | (exfalso;simp at *;omega) | exact Ret.is rfl
 ·rw [if_pos (by omega)] at hr
  subst hr
  generalize hbz : (((s.data[0]?.getD 48).toNat : Int)) = b0 at hx0 hb0
  clear hbz
  refine callsA_of_vc (T := tt) Tryz.func68 rfl rfl rfl rfl rfl ?_
  repeat' ((conv => whnf);first | (refine Sbx.mk ⟨0,(by assumption),rfl,?_⟩;rw [hx0]) | refine Gs.id ?_ | refine Brn.T (by (try simp only [smT]);first | rfl | assumption | omega | fail) ?_ | (refine Bnd.mk (fun hm => ?_);(try simp only [smT] at hm)) | fail)
  all_goals (conv => whnf)
  all_goals try (exfalso;simp at *;omega)
  refine ⟨⟨Nat,fun i => i ≤ n,fun i => n - i,fun i => ⟨[(0,dsr s),(4,di 1),(5,di (numFr s f i)),(6,di ((f + i : Nat)))],[]⟩,0,Nat.zero_le _,⟨[],⟨by (try dsimp only);(repeat (refine LeT.cons rfl (by first | exact LeS.d (by first | exact LeD.u rfl | exact LeD.u (by simp [numFr,hfv];done) | fail) | fail) ?_));exact LeT.nil,by (try dsimp only);repeat (first | exact LeO.nil | fail)⟩⟩,fun i hi => ?_⟩⟩
  dsimp only at hi ⊢
  by_cases h8 : i < n
  ·obtain ⟨hlt,hby⟩ := loop i h8
   have hdi := hd i h8
   have hbi := hbd i (by omega)
   have hp := pow9 (i := i) (by omega)
   have hbi2 := hbd (i + 1) (by omega)
   have hp2 := pow9 (i := i + 1) (by omega)
   have hst : numFr s f (i + 1) = 10 * numFr s f i + (((s.data[f + i]?.getD 48).toNat : Int)) - 48 := rfl
   have hdg := digit_R (((s.data[f + i]?.getD 48).toNat : Int))
   rw [show digB (((s.data[f + i]?.getD 48).toNat : Int)) = true by unfold digB;simp;omega] at hdg
   generalize (((s.data[f + i]?.getD 48).toNat : Int)) = b at *
   generalize numFr s f i = m at *
   clear hbd hd loop hnb hx
   repeat' ((conv => whnf);first | (refine Sbx.mk ⟨f + i,hlt,(by omega),?_⟩;rw [hby]) | refine Raw.convI64 rfl rfl rfl rfl rfl (by omega) (by omega) rfl ?_ | refine Gs.id ?_ | with_reducible refine Brn.F rfl ?_ | refine Brn.T (by (try simp only [smT]);first | rfl | omega | fail) ?_ | refine Brn.F (by (try simp only [smT]);first | rfl | omega | fail) ?_ | (refine Bnd.mk (fun hm => ?_);(try simp only [smT] at hm)) | refine Rng.mk (by (try simp only [smT]);omega) ?_ | (refine CL.mk (Or.inl ?_);(conv => whnf);refine Cl.is (hdg) rfl (by first | exact fun _ => rfl | fail) ?_) | fail)
   all_goals (conv => whnf)
   all_goals first | (exfalso;simp at *;omega) | exact ⟨i + 1,by omega,by omega,[],by (rw [hst];exact ⟨by (try dsimp only);(repeat (refine LeT.cons rfl (by first | exact LeS.d (by first | exact LeD.u rfl | fail) | fail) ?_));exact LeT.nil,by (try dsimp only);repeat (first | exact LeO.nil | fail)⟩)⟩
  ·obtain rfl : i = n := by omega
   generalize numFr s f i = m at *
   generalize decide (x = s) = bx at *
   clear hbd hd loop
   by_cases hi0 : 0 < i
   ·have hx := hx hi0
    rw [decide_eq_true hi0]
    repeat' ((conv => whnf);first | rw [hq] | refine Gs.id ?_ | with_reducible refine Brn.T rfl ?_ | refine Brn.T (by (try simp only [smT]);first | rfl | omega | fail) ?_ | refine Brn.F (by (try simp only [smT]);first | rfl | omega | fail) ?_ | (refine Bnd.mk (fun hm => ?_);(try simp only [smT] at hm)) | refine Rng.mk (by (try simp only [smT]);omega) ?_ | (refine CL.mk (Or.inl ?_);(conv => whnf);refine Cl.is (hx) rfl (by first | exact fun _ => rfl | fail) ?_) | fail)
    all_goals (conv => whnf)
    all_goals first | (exfalso;simp at *;omega) | exact Ret.is rfl
   ·rw [decide_eq_false hi0]
    clear hx
    repeat' ((conv => whnf);first | refine Gs.id ?_ | with_reducible refine Brn.T rfl ?_ | refine Brn.F (by (try simp only [smT]);first | rfl | omega | fail) ?_ | (refine Bnd.mk (fun hm => ?_);(try simp only [smT] at hm)) | refine Rng.mk (by (try simp only [smT]);omega) ?_ | fail)
    all_goals (conv => whnf)
    all_goals first | (exfalso;simp at *;omega) | exact Ret.is rfl
set_option maxHeartbeats 4000000 in
theorem number_B (s : ByteArray) (f k : Nat) (hf : (f = 0 ∧ (0 < s.size → (s.data[0]?.getD 48).toNat ≠ 45)) ∨ (f = 1 ∧ 0 < s.size ∧ (s.data[0]?.getD 48).toNat = 45)) (hk : f + k < s.size) (h9 : k ≤ 9) (hd : digF s f k) (hbad : k = 9 ∨ digB (((s.data[f + k]?.getD 48).toNat : Int)) = false) :
  CallsA Tryz.prog 68 [dsr s] [] (Is (.t [.d (.u (.int .i64 0)),.d (.u (.bool false))])) := by
 have hbd := numFr_bd hd
 have loop : ∀ i,i ≤ k → ∃ (h : f + i < s.size),(s[f + i].toNat : Int) = ((s.data[f + i]?.getD 48).toNat : Int) := fun i hi => ⟨by omega,byte_get _⟩
 have hcase : (f = 0 ∧ s.size = 0) ∨ (f = 0 ∧ ∃ h : 0 < s.size,(s[0].toNat : Int) = ((s.data[0]?.getD 48).toNat : Int) ∧ ((s.data[0]?.getD 48).toNat : Int) ≠ 45) ∨ (f = 1 ∧ ∃ h : 0 < s.size,(s[0].toNat : Int) = ((s.data[0]?.getD 48).toNat : Int) ∧ ((s.data[0]?.getD 48).toNat : Int) = 45) := by
  rcases hf with ⟨h1,h2⟩ | ⟨h1,h2,h3⟩
  ·by_cases h0 : 0 < s.size
   ·exact .inr (.inl ⟨h1,h0,byte_get h0,by have := h2 h0;omega⟩)
   ·exact .inl ⟨h1,by omega⟩
  ·exact .inr (.inr ⟨h1,h2,byte_get h2,by omega⟩)
 clear hf
 rcases hcase with ⟨hfv,h0⟩ | ⟨hfv,h0,hx0,hb0⟩ | ⟨hfv,h0,hx0,hb0⟩
 ·exfalso;omega
 ·generalize hbz : (((s.data[0]?.getD 48).toNat : Int)) = b0 at hx0 hb0
  clear hbz
  refine callsA_of_vc (T := tt) Tryz.func68 rfl rfl rfl rfl rfl ?_
  repeat' ((conv => whnf);first | (refine Sbx.mk ⟨0,(by assumption),rfl,?_⟩;rw [hx0]) | refine Gs.id ?_ | refine Brn.T (by (try simp only [smT]);first | rfl | omega | fail) ?_ | refine Brn.F (by (try simp only [smT]);first | rfl | assumption | fail) ?_ | (refine Bnd.mk (fun hm => ?_);(try simp only [smT] at hm)) | fail)
  all_goals (conv => whnf)
  all_goals try (exfalso;simp at *;omega)
  refine ⟨⟨Nat,fun i => i ≤ k,fun i => k - i,fun i => ⟨[(0,dsr s),(4,di 0),(5,di (numFr s f i)),(6,di ((f + i : Nat)))],[]⟩,0,Nat.zero_le _,⟨[],⟨by (try dsimp only);(repeat (refine LeT.cons rfl (by first | exact LeS.d (by first | exact LeD.u rfl | exact LeD.u (by simp [numFr,hfv];done) | fail) | fail) ?_));exact LeT.nil,by (try dsimp only);repeat (first | exact LeO.nil | fail)⟩⟩,fun i hi => ?_⟩⟩
  dsimp only at hi ⊢
  by_cases h8 : i < k
  ·obtain ⟨hlt,hby⟩ := loop i (by omega)
   have hdi := hd i h8
   have hbi := hbd i (by omega)
   have hp := pow9 (i := i) (by omega)
   have hbi2 := hbd (i + 1) (by omega)
   have hp2 := pow9 (i := i + 1) (by omega)
   have hst : numFr s f (i + 1) = 10 * numFr s f i + (((s.data[f + i]?.getD 48).toNat : Int)) - 48 := rfl
   have hdg := digit_R (((s.data[f + i]?.getD 48).toNat : Int))
   rw [show digB (((s.data[f + i]?.getD 48).toNat : Int)) = true by unfold digB;simp;omega] at hdg
   generalize (((s.data[f + i]?.getD 48).toNat : Int)) = b at *
   generalize numFr s f i = m at *
   clear hbd hd loop hbad
   repeat' ((conv => whnf);first | (refine Sbx.mk ⟨f + i,hlt,(by omega),?_⟩;rw [hby]) | refine Raw.convI64 rfl rfl rfl rfl rfl (by omega) (by omega) rfl ?_ | refine Gs.id ?_ | with_reducible refine Brn.F rfl ?_ | refine Brn.T (by (try simp only [smT]);first | rfl | omega | fail) ?_ | refine Brn.F (by (try simp only [smT]);first | rfl | omega | fail) ?_ | (refine Bnd.mk (fun hm => ?_);(try simp only [smT] at hm)) | refine Rng.mk (by (try simp only [smT]);omega) ?_ | (refine CL.mk (Or.inl ?_);(conv => whnf);refine Cl.is (hdg) rfl (by first | exact fun _ => rfl | fail) ?_) | fail)
   all_goals (conv => whnf)
   all_goals first | (exfalso;simp at *;omega) | exact ⟨i + 1,by omega,by omega,[],by (rw [hst];exact ⟨by (try dsimp only);(repeat (refine LeT.cons rfl (by first | exact LeS.d (by first | exact LeD.u rfl | fail) | fail) ?_));exact LeT.nil,by (try dsimp only);repeat (first | exact LeO.nil | fail)⟩)⟩
  ·obtain rfl : i = k := by omega
   obtain ⟨hlt,hby⟩ := loop i (by omega)
   have hdg := digit_R (((s.data[f + i]?.getD 48).toNat : Int))
   generalize numFr s f i = m at *
   clear hbd hd loop
   rcases hbad with hbad | hbad
   ·generalize digB (((s.data[f + i]?.getD 48).toNat : Int)) = bd at *
    generalize (((s.data[f + i]?.getD 48).toNat : Int)) = b at *
    cases bd
    all_goals
     repeat' ((conv => whnf);first | (refine Sbx.mk ⟨f + i,hlt,(by omega),?_⟩;rw [hby]) | refine Gs.id ?_ | with_reducible refine Brn.T rfl ?_ | with_reducible refine Brn.F rfl ?_ | refine Brn.T (by (try simp only [smT]);first | rfl | omega | fail) ?_ | (refine Bnd.mk (fun hm => ?_);(try simp only [smT] at hm)) | refine Rng.mk (by (try simp only [smT]);omega) ?_ | (refine CL.mk (Or.inl ?_);(conv => whnf);refine Cl.is (hdg) rfl (by first | exact fun _ => rfl | fail) ?_) | fail)
     all_goals (conv => whnf)
     all_goals first | (exfalso;simp at *;omega) | exact Ret.is rfl
   ·rw [hbad] at hdg
    generalize (((s.data[f + i]?.getD 48).toNat : Int)) = b at *
    repeat' ((conv => whnf);first | (refine Sbx.mk ⟨f + i,hlt,(by omega),?_⟩;rw [hby]) | refine Gs.id ?_ | with_reducible refine Brn.T rfl ?_ | refine Brn.T (by (try simp only [smT]);first | rfl | omega | fail) ?_ | (refine Bnd.mk (fun hm => ?_);(try simp only [smT] at hm)) | (refine CL.mk (Or.inl ?_);(conv => whnf);refine Cl.is (hdg) rfl (by first | exact fun _ => rfl | fail) ?_) | fail)
    all_goals (conv => whnf)
    all_goals first | (exfalso;simp at *;omega) | exact Ret.is rfl
 ·generalize hbz : (((s.data[0]?.getD 48).toNat : Int)) = b0 at hx0 hb0
  clear hbz
  refine callsA_of_vc (T := tt) Tryz.func68 rfl rfl rfl rfl rfl ?_
  repeat' ((conv => whnf);first | (refine Sbx.mk ⟨0,(by assumption),rfl,?_⟩;rw [hx0]) | refine Gs.id ?_ | refine Brn.T (by (try simp only [smT]);first | rfl | assumption | omega | fail) ?_ | (refine Bnd.mk (fun hm => ?_);(try simp only [smT] at hm)) | fail)
  all_goals (conv => whnf)
  all_goals try (exfalso;simp at *;omega)
  refine ⟨⟨Nat,fun i => i ≤ k,fun i => k - i,fun i => ⟨[(0,dsr s),(4,di 1),(5,di (numFr s f i)),(6,di ((f + i : Nat)))],[]⟩,0,Nat.zero_le _,⟨[],⟨by (try dsimp only);(repeat (refine LeT.cons rfl (by first | exact LeS.d (by first | exact LeD.u rfl | exact LeD.u (by simp [numFr,hfv];done) | fail) | fail) ?_));exact LeT.nil,by (try dsimp only);repeat (first | exact LeO.nil | fail)⟩⟩,fun i hi => ?_⟩⟩
  dsimp only at hi ⊢
  by_cases h8 : i < k
  ·obtain ⟨hlt,hby⟩ := loop i (by omega)
   have hdi := hd i h8
   have hbi := hbd i (by omega)
   have hp := pow9 (i := i) (by omega)
   have hbi2 := hbd (i + 1) (by omega)
   have hp2 := pow9 (i := i + 1) (by omega)
   have hst : numFr s f (i + 1) = 10 * numFr s f i + (((s.data[f + i]?.getD 48).toNat : Int)) - 48 := rfl
   have hdg := digit_R (((s.data[f + i]?.getD 48).toNat : Int))
   rw [show digB (((s.data[f + i]?.getD 48).toNat : Int)) = true by unfold digB;simp;omega] at hdg
   generalize (((s.data[f + i]?.getD 48).toNat : Int)) = b at *
   generalize numFr s f i = m at *
   clear hbd hd loop hbad
   repeat' ((conv => whnf);first | (refine Sbx.mk ⟨f + i,hlt,(by omega),?_⟩;rw [hby]) | refine Raw.convI64 rfl rfl rfl rfl rfl (by omega) (by omega) rfl ?_ | refine Gs.id ?_ | with_reducible refine Brn.F rfl ?_ | refine Brn.T (by (try simp only [smT]);first | rfl | omega | fail) ?_ | refine Brn.F (by (try simp only [smT]);first | rfl | omega | fail) ?_ | (refine Bnd.mk (fun hm => ?_);(try simp only [smT] at hm)) | refine Rng.mk (by (try simp only [smT]);omega) ?_ | (refine CL.mk (Or.inl ?_);(conv => whnf);refine Cl.is (hdg) rfl (by first | exact fun _ => rfl | fail) ?_) | fail)
   all_goals (conv => whnf)
   all_goals first | (exfalso;simp at *;omega) | exact ⟨i + 1,by omega,by omega,[],by (rw [hst];exact ⟨by (try dsimp only);(repeat (refine LeT.cons rfl (by first | exact LeS.d (by first | exact LeD.u rfl | fail) | fail) ?_));exact LeT.nil,by (try dsimp only);repeat (first | exact LeO.nil | fail)⟩)⟩
  ·obtain rfl : i = k := by omega
   obtain ⟨hlt,hby⟩ := loop i (by omega)
   have hdg := digit_R (((s.data[f + i]?.getD 48).toNat : Int))
   generalize numFr s f i = m at *
   clear hbd hd loop
   rcases hbad with hbad | hbad
   ·generalize digB (((s.data[f + i]?.getD 48).toNat : Int)) = bd at *
    generalize (((s.data[f + i]?.getD 48).toNat : Int)) = b at *
    cases bd
    all_goals
     repeat' ((conv => whnf);first | (refine Sbx.mk ⟨f + i,hlt,(by omega),?_⟩;rw [hby]) | refine Gs.id ?_ | with_reducible refine Brn.T rfl ?_ | with_reducible refine Brn.F rfl ?_ | refine Brn.T (by (try simp only [smT]);first | rfl | omega | fail) ?_ | (refine Bnd.mk (fun hm => ?_);(try simp only [smT] at hm)) | refine Rng.mk (by (try simp only [smT]);omega) ?_ | (refine CL.mk (Or.inl ?_);(conv => whnf);refine Cl.is (hdg) rfl (by first | exact fun _ => rfl | fail) ?_) | fail)
     all_goals (conv => whnf)
     all_goals first | (exfalso;simp at *;omega) | exact Ret.is rfl
   ·rw [hbad] at hdg
    generalize (((s.data[f + i]?.getD 48).toNat : Int)) = b at *
    repeat' ((conv => whnf);first | (refine Sbx.mk ⟨f + i,hlt,(by omega),?_⟩;rw [hby]) | refine Gs.id ?_ | with_reducible refine Brn.T rfl ?_ | refine Brn.T (by (try simp only [smT]);first | rfl | omega | fail) ?_ | (refine Bnd.mk (fun hm => ?_);(try simp only [smT] at hm)) | (refine CL.mk (Or.inl ?_);(conv => whnf);refine Cl.is (hdg) rfl (by first | exact fun _ => rfl | fail) ?_) | fail)
    all_goals (conv => whnf)
    all_goals first | (exfalso;simp at *;omega) | exact Ret.is rfl
theorem dig_scan (s : ByteArray) (f : Nat) : ∀ m,m ≤ 9 → f + m ≤ s.size → digF s f m ∨ ∃ k,k < m ∧ digF s f k ∧ digB (((s.data[f + k]?.getD 48).toNat : Int)) = false
 | 0,_,_ => .inl fun i h => by omega
 | m + 1,h1,h2 => by
  rcases dig_scan s f m (by omega) (by omega) with h | ⟨k,k1,k2,k3⟩
  ·cases hb : digB (((s.data[f + m]?.getD 48).toNat : Int))
   ·exact .inr ⟨m,by omega,h,hb⟩
   ·refine .inl fun i hi => ?_
    rcases Nat.lt_or_ge i m with h3 | h3
    ·exact h i h3
    ·obtain rfl : i = m := by omega
     unfold digB at hb
     simp only [Bool.and_eq_true,decide_eq_true_eq] at hb
     exact hb
  ·exact .inr ⟨k,by omega,k2,k3⟩
theorem number_good (w : ByteArray) (h1 : 1 ≤ w.size) (h9 : w.size ≤ 9) (hd : digsB w) : CallsA Tryz.prog 68 [dsr w] [] (Is (.t [.d (.u (.int .i64 (numU w w.size))),.d (.u (.bool (decide (itoaB (numU w w.size) = w))))])) := by
 have hb := numU_bd hd w.size (Nat.le_refl _)
 have hp := pow9 h9
 have h0 := hd 0 (by omega)
 have h := number_A w 0 w.size (.inl ⟨rfl,fun _ => by omega⟩) (by omega) h9 (fun i hi => by rw [Nat.zero_add];exact hd i hi) (numU w w.size) (by rw [if_neg (by omega),numFr_zero]) (itoaB (numU w w.size)) (fun _ => decimal_R 10 _ (by omega) (by omega) (by omega))
 rw [decide_eq_true (show 0 < w.size by omega),Bool.true_and] at h
 exact h
theorem number_bad (w : ByteArray) (hw : ¬ (1 ≤ w.size ∧ w.size ≤ 9 ∧ digsB w)) : ∃ (n : Int) (ok : Bool),CallsA Tryz.prog 68 [dsr w] [] (Is (.t [.d (.u (.int .i64 n)),.d (.u (.bool ok))])) ∧ ¬ (ok = true ∧ 0 ≤ n) := by
 obtain ⟨f,hf⟩ : ∃ f,(f = 0 ∧ (0 < w.size → (w.data[0]?.getD 48).toNat ≠ 45)) ∨ (f = 1 ∧ 0 < w.size ∧ (w.data[0]?.getD 48).toNat = 45) := by
  by_cases h : 0 < w.size ∧ (w.data[0]?.getD 48).toNat = 45
  ·exact ⟨1,.inr ⟨rfl,h.1,h.2⟩⟩
  ·exact ⟨0,.inl ⟨rfl,fun h0 h1 => h ⟨h0,h1⟩⟩⟩
 have hfs : f ≤ w.size := by rcases hf with ⟨h,_⟩ | ⟨h,h2,_⟩ <;> omega
 have bad : ∀ k,f + k < w.size → k ≤ 9 → digF w f k → (k = 9 ∨ digB (((w.data[f + k]?.getD 48).toNat : Int)) = false) → ∃ (n : Int) (ok : Bool),CallsA Tryz.prog 68 [dsr w] [] (Is (.t [.d (.u (.int .i64 n)),.d (.u (.bool ok))])) ∧ ¬ (ok = true ∧ 0 ≤ n) := fun k h1 h2 h3 h4 => ⟨0,false,number_B w f k hf h1 h2 h3 h4,by simp⟩
 by_cases h9 : w.size - f ≤ 9
 ·rcases dig_scan w f (w.size - f) h9 (by omega) with hd | ⟨k,k1,k2,k3⟩
  ·have hbd := numFr_bd hd (w.size - f) (Nat.le_refl _)
   have hp := pow9 h9
   rcases hf with ⟨rfl,hf⟩ | ⟨rfl,hf,hf2⟩
   ·have hz : w.size = 0 := by
     rcases Nat.eq_zero_or_pos w.size with h | h
     ·exact h
     ·refine absurd ⟨h,h9,fun i hi => ?_⟩ hw
      have := hd i (by omega)
      rw [Nat.zero_add] at this
      exact this
    refine ⟨_,_,number_A w 0 (w.size - 0) (.inl ⟨rfl,hf⟩) (by omega) h9 hd _ rfl emB (fun h => by omega),?_⟩
    rw [decide_eq_false (by omega)]
    simp
   ·by_cases hm : numFr w 1 (w.size - 1) = 0
    ·refine ⟨_,_,number_A w 1 (w.size - 1) (.inr ⟨rfl,hf,hf2⟩) (by omega) h9 hd 0 (by rw [if_pos rfl,hm];rfl) (itoaB 0) (fun _ => decimal_R 10 0 (by omega) (by omega) (by omega)),?_⟩
     rintro ⟨h1,_⟩
     simp only [Bool.and_eq_true,decide_eq_true_eq] at h1
     have h2 := h1.2
     have h3 : (itoaB 0) = ByteArray.mk #[48] := itoaB_small (by omega) (by omega)
     rw [h3] at h2
     subst h2
     revert hf2
     decide
    ·obtain ⟨x,hx⟩ := decNeg_R (numFr w 1 (w.size - 1)) (by omega) (by omega)
     refine ⟨_,_,number_A w 1 (w.size - 1) (.inr ⟨rfl,hf,hf2⟩) (by omega) h9 hd (-(numFr w 1 (w.size - 1))) (by rw [if_pos rfl]) x (fun _ => hx),?_⟩
     rintro ⟨_,h1⟩
     omega
  ·exact bad k (by omega) (by omega) k2 (.inr k3)
 ·rcases dig_scan w f 9 (Nat.le_refl _) (by omega) with hd | ⟨k,k1,k2,k3⟩
  ·exact bad 9 (by omega) (Nat.le_refl _) hd (.inl rfl)
  ·exact bad k (by omega) (by omega) k2 (.inr k3)
end Go.Proofs.YtabmcfnefjipbaaGreatDoor
