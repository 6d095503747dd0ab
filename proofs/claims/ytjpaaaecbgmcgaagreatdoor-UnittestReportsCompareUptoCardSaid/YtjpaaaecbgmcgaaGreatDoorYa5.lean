/-
  Part 5 of the proofs of ureport_holds, ucompare_holds, ureports_holds: laws and contracts that they need.
-/
import Derived.Test.YtjpaaaecbgmcgaaGreatDoorYa4
import Derived.Lib.AppendZeros
import Derived.Test.YtjpaaaecbgmcgaaGreatDoorProg
import Derived.KernelRfl
import Derived.RowKit
import Derived.Lib.ConvBytes
import Derived.Laws.Externs
import Derived.Lib.Bytealg
import Derived.Lib.Builder
import Derived.Lib.UnsafeStr
import Derived.Lib.AppendStr
import Derived.RangeFuncRecord
import Derived.Maps.RangeRun
set_option linter.unusedVariables false
set_option linter.unusedSimpArgs false
namespace Go.Proofs.YtjpaaaecbgmcgaaGreatDoor
open Go.RowKit
section
variable {P : Program} {T : List (Nat × Ty)} {nt : Nt} {Q : Exit → Act → World → Prop} {c : Cx} {st : St} {tm : List (Nat × Value)} {h : Hs} {ρ : Rho} {G : FG} {ty : TypeId} {pos : String} {af : Array Edge} {gd : Option (Nat × Bool)} {K : Kt}
def putD (d : Option Tmp) (v : Value) (tm : List (Nat × Value)) : List (Nat × Value) := match d with
 | some d => (d,v) :: tm
 | none => tm
theorem OpS.callV {d : Option Tmp} {x : Operand} {f : FuncId} {fn : Func} {cd : Code} {xs : List Operand} {ts : Array TypeId} {vs us : List Value} {K : List (Nat × Value) → Hs → Prop} (M : Value → Hs → Prop) (hx0 : ev tm x = some (.func (.func f) #[] us.toArray)) (hf : P.funcs[f]? = some fn) (hb : fn.body = some cd) (hnm : (fn.name == "runtime.NumGoroutine") = false) (hx : ArgsL tm xs vs)
  (hd : (match d with | some d => Nat.blt d nt | none => true) = true)
  (hC : ∀ w,Hp h w → Calls P f (vs ++ us).toArray w fun e w' => ∃ v h',e = .returned v ∧ Hp h' w' ∧ M v h') (k : ∀ v h',M v h' → K (putD d v tm) h') : OpS P nt Q ⟨d,.call ⟨.value x,xs.toArray,ts⟩,ty,pos,af,gd⟩ tm h K :=
 ⟨fun a w ha hw => by
  have hargs : xs.toArray.map a.eval = vs.toArray := by rw [List.map_toArray,hx.eq ha]
  have hrun : (execOp a.eval ⟨d,.call ⟨.value x,xs.toArray,ts⟩,ty,pos,af,gd⟩).run P w = .ok (.enter f (vs ++ us).toArray) w := by
   have hnm' : ¬ fn.name = "runtime.NumGoroutine" := by simpa using hnm
   simp only [execOp,resolve,Sem.run_bind,hargs,Deferred.ofValue,ha.ev hx0,invoke,callFunc]
   simp [hf,hb,hnm']
  unfold Oper.wp
  rw [hrun]
  refine (hC w hw).mono ?_
  rintro e w' ⟨v,h',rfl,h1,h2⟩
  cases d with
  | some d => exact ⟨_,h',ha.put (by simpa using hd) v,h1,k v h' h2⟩
  | none => exact ⟨_,h',ha,h1,k v h' h2⟩⟩
def fnT : Option SV → Option (FuncId × List SV)
 | some (.d (.fn f ks)) => some (f,ks.map fun k => SV.d (.p k 0))
 | some (.d (.u (.fn f))) => some (f,[])
 | some (.d (.u (.cl f cs))) => some (f,cs.map fun c => SV.d (.q c 0))
 | _ => none
theorem fnT_ev (g : Gd c st tm h ρ G) {x : Operand} {f : FuncId} {ks : List SV} (hx : fnT (evT st.tm x) = some (f,ks)) : ∃ us : List Value,ev tm x = some (.func (.func f) #[] us.toArray) ∧ us.length = ks.length ∧ ∀ (j : Nat) s v,ks[j]? = some s → us[j]? = some v → DenS ρ ⟨G,h.w0⟩ s v := by
 unfold fnT at hx
 split at hx
 ·rename_i f' ks' e
  injection hx with hx
  injection hx with e1 e2
  subst e1 e2
  obtain ⟨v,hv,hs⟩ := g.ev e
  cases hs with | d hs => cases hs with | fn us hl hd =>
  refine ⟨us,hv,by simp [hl],fun j s v h1 h2 => ?_⟩
  rw [List.getElem?_map] at h1
  cases hj : ks'[j]? with
  | none => rw [hj] at h1;cases h1
  | some k =>
   rw [hj] at h1
   simp only [Option.map_some,Option.some.injEq] at h1
   subst h1
   obtain ⟨b,cc,sz,q1,rfl⟩ := hd j k v hj h2
   exact .d (.p q1)
 ·rename_i f' e
  injection hx with hx
  injection hx with e1 e2
  subst e1 e2
  obtain ⟨v,hv,hs⟩ := g.ev e
  cases hs with | d hs => cases hs with | u hs => cases hs with | fn =>
  exact ⟨[],hv,rfl,fun j s v h1 h2 => by simp at h2⟩
 ·rename_i f' cs e
  injection hx with hx
  injection hx with e1 e2
  subst e1 e2
  obtain ⟨v,hv,hs⟩ := g.ev e
  cases hs with | d hs => cases hs with | u hs =>
  obtain ⟨us,rfl,q2,q3⟩ := DenV.cl_inv (ρ := ρ) hs
  refine ⟨us,hv,by simp [q2],fun j s v h1 h2 => ?_⟩
  rw [List.getElem?_map] at h1
  cases hj : cs[j]? with
  | none => rw [hj] at h1;cases h1
  | some k =>
   rw [hj] at h1
   simp only [Option.map_some,Option.some.injEq] at h1
   subst h1
   exact .d (q3 j k v hj h2)
 ·cases hx
theorem Raw.callF {x : Operand} {f : FuncId} {ks : List SV} {xs : Array Operand} {ts : Array TypeId} {d : Option Tmp} {tmT tmK : List (Nat × SV)} {ob obP obF : List (Nat × Ob)} (ps ns : List Nat) {ss : List SV} {QS : SV → List (Nat × Ob) → Prop} (hf : fnT (evT tmT x) = some (f,ks)) (hT : keepTm (fun k => !inN ns k) [] tmT = tmK) (hO : (splitOb ps ob).1 = obP) (hO' : cleanOb (fun k => !inN ns k) (splitOb ps ob).2 = obF) (hx : evLT tmT xs.toList = some ss)
  (h2 : okO (fun k => !inN ns k) obF = true) (h3 : okO (inN ns) obP = true) (hd : (match d with | some d => Nat.blt d nt | none => true) = true) (hc : CallsA P f (ss ++ ks) obP QS) (k : ∀ s ob',QS s ob' → Bk d ns tmK obF K s ob') : Raw P nt ⟨d,.call ⟨.value x,xs,ts⟩,ty,pos,af,gd⟩ tmT ob K := ⟨fun Q c tm h ρ G g => by
 obtain ⟨F,w0,hp⟩ := h
 obtain ⟨ha,hb,o1,o2,o3⟩ := splitOb_ok (ps := ps) g.ob
 rw [hO] at o1
 replace o2 := cleanOb_ok (p := fun k => !inN ns k) o2
 rw [hO'] at o2
 have g2 : Gd c ⟨tmT,obP ++ obF⟩ tm ⟨F,w0,ha ++ hb⟩ ρ G := ⟨g.fF,g.fw,g.gF,g.gx,g.fm,g.tm,o1.append o2⟩
 have hh : ∀ w,Hp ⟨F,w0,hp⟩ w → Hp ⟨F,w0,ha ++ hb⟩ w := fun w hw => hw.perm o3
 subst hT
 obtain ⟨us,u1,u2,u3⟩ := fnT_ev g2 hf
 obtain ⟨vs,a1,a2,a3⟩ := evLT_ev g2 hx
 have hlen : (vs ++ us).length = (ss ++ ks).length := by simp [a2,u2]
 have hden : ∀ (j : Nat) s v,(ss ++ ks)[j]? = some s → (vs ++ us)[j]? = some v → DenS ρ ⟨G,w0⟩ s v := by
  intro j s v h1 h2
  by_cases hj : j < ss.length
  ·rw [List.getElem?_append_left hj] at h1
   rw [List.getElem?_append_left (by rw [a2];exact hj)] at h2
   exact a3 j s v h1 h2
  ·rw [List.getElem?_append_right (by omega)] at h1
   rw [List.getElem?_append_right (by rw [a2];omega),a2] at h2
   exact u3 _ s v h1 h2
 have hcall := callO_vals (tmK := keepTm (fun k => !inN ns k) [] tmT) g2 hlen hden (fun k s h => (keepTm_get h).2) keepTm_ok h2 h3 hc
 obtain ⟨fn,cd,f1,f2,f3⟩ := hc.fn
 have hxs : xs = xs.toList.toArray := by simp
 rw [hxs]
 refine OpS.callV (P := P) (nt := nt) (Q := Q) (fun v h2 => Kd c K (putD d v tm) h2) u1 f1 f2 f3 a1 hd (fun w hw => (hcall w (hh w hw)).mono ?_) fun _ _ hk => hk
 rintro e w' ⟨v,h3,s,ob',ρ',G',rfl,hw3,hq,hg,_⟩
 obtain ⟨b1,b2,b3⟩ := k s ob' hq
 obtain ⟨q1,q2⟩ := hg b1 b2
 cases d with
 | some d => exact ⟨v,h3,rfl,hw3,.of (q2.put q1) b3⟩
 | none => exact ⟨v,h3,rfl,hw3,.of q2 b3⟩⟩
end
def qD (k : Nat) (ys : List V) : D → D
 | .p j o => bif Nat.beq j k then .q ys o else .p j o
 | d => d
def qL (f : D → D) : List D → List D
 | [] => []
 | x :: r => f x :: qL f r
def qC (f : D → D) : List SC → List SC
 | [] => []
 | .d x :: r => .d (f x) :: qC f r
 | .a xs :: r => .a (qL f xs) :: qC f r
def qS (f : D → D) : SV → SV
 | .d x => .d (f x)
 | .a xs => .a (qL f xs)
 | .t vs => .t (qC f vs)
def qTm (f : D → D) : List (Nat × SV) → List (Nat × SV)
 | [] => []
 | (j,s) :: r => (j,qS f s) :: qTm f r
def qOb (f : D → D) : List (Nat × Ob) → List (Nat × Ob)
 | [] => []
 | (j,.bx t cs) :: r => (j,.bx t (qL f cs)) :: qOb f r
 | (j,.ar t m ss) :: r => (j,.ar t m ss) :: qOb f r
 | (j,.fm t ss) :: r => (j,.fm t ss) :: qOb f r
 | (j,.mp a b es) :: r => (j,.mp a b es) :: qOb f r
 | (j,.fa t m ss) :: r => (j,.fa t m ss) :: qOb f r
 | (j,.ab cs us zb φ) :: r => (j,.ab (qL f cs) us zb φ) :: qOb f r
section
variable {ρ : Rho} {z : Fz} {k : Nat} {ys : List V} {f : D → D}
theorem qD_den (fz : ∀ o v,Den ρ z (.p k o) v → Den ρ z (.q ys o) v) {d : D} {v : Value} (h : Den ρ z d v) : Den ρ z (qD k ys d) v := by
 cases d <;> simp only [qD] <;> first | exact h | skip
 rename_i j o
 cases hb : Nat.beq j k <;> simp only [cond_false,cond_true]
 ·exact h
 ·have := Nat.eq_of_beq_eq_true hb
  subst this
  exact fz o v h
theorem qL_den (fz : ∀ d v,Den ρ z d v → Den ρ z (f d) v) : ∀ {ds : List D} {us : List Value},DenL ρ z ds us → DenL ρ z (qL f ds) us
 | [],us,h => h
 | d :: r,us,h => by
  have hl := h.len
  cases us with
  | nil => simp at hl
  | cons x us => exact (qL_den fz (ds := r) (us := us) ⟨by simpa using hl,by have := h.one;simp at this;simpa using this.2,fun j d v e1 e2 => h.den (j + 1) d v (by simpa using e1) (by simpa using e2)⟩).cons (fz _ _ (h.den 0 d x rfl rfl))
theorem qL_len : ∀ {ds : List D},(qL f ds).length = ds.length
 | [] => rfl
 | _ :: r => by simp [qL,qL_len (ds := r)]
theorem qC_get : ∀ {ss : List SC} {j : Nat} {s' : SC},(qC f ss)[j]? = some s' → ∃ s,ss[j]? = some s ∧ ((∃ x,s = .d x ∧ s' = .d (f x)) ∨ ∃ xs,s = .a xs ∧ s' = .a (qL f xs))
 | [],j,s',h => by simp [qC] at h
 | s :: r,0,s',h => by
  cases s with
  | d x => simp [qC] at h;subst h;exact ⟨_,rfl,.inl ⟨x,rfl,rfl⟩⟩
  | a xs => simp [qC] at h;subst h;exact ⟨_,rfl,.inr ⟨xs,rfl,rfl⟩⟩
 | s :: r,j + 1,s',h => by
  have : (qC f r)[j]? = some s' := by cases s <;> simpa [qC] using h
  obtain ⟨s0,q1,q2⟩ := qC_get this
  exact ⟨s0,by simpa using q1,q2⟩
theorem qC_len : ∀ {ss : List SC},(qC f ss).length = ss.length
 | [] => rfl
 | s :: r => by cases s <;> simp [qC,qC_len (ss := r)]
theorem qS_den (fz : ∀ d v,Den ρ z d v → Den ρ z (f d) v) {s : SV} {v : Value} (h : DenS ρ z s v) : DenS ρ z (qS f s) v := by
 cases h with
 | d h => exact .d (fz _ _ h)
 | a h => exact .a (qL_den fz h)
 | t hl hd =>
  refine .t (by rw [qC_len];exact hl) fun j s v e1 e2 => ?_
  obtain ⟨s0,q1,q2⟩ := qC_get e1
  have h0 := hd j s0 v q1 e2
  rcases q2 with ⟨x,rfl,rfl⟩ | ⟨xs,rfl,rfl⟩
  ·cases h0 with | d h0 => exact .d (fz _ _ h0)
  ·cases h0 with | a h0 => exact .a (qL_den fz h0)
theorem qTm_lk : ∀ {tm : List (Nat × SV)} {j : Nat} {s' : SV},lk j (qTm f tm) = some s' → ∃ s,lk j tm = some s ∧ s' = qS f s
 | [],j,s',h => by simp [qTm,lk] at h
 | (i,s) :: r,j,s',h => by
  simp only [qTm,lk] at h ⊢
  cases hb : Nat.beq j i <;> rw [hb] at h
  ·exact qTm_lk (tm := r) h
  ·simp only [cond_true,Option.some.injEq] at h
   exact ⟨s,rfl,h.symm⟩
theorem qOb_den (fz : ∀ d v,Den ρ z d v → Den ρ z (f d) v) : ∀ {ob : List (Nat × Ob)} {hp : List (Nat × Hb)},ObsOk ρ z ob hp → ObsOk ρ z (qOb f ob) hp
 | [],_,h => h
 | (j,.bx t cs) :: r,hp,⟨Y,hp',h1,⟨b,us,h2,h3,h4⟩,h5⟩ => ⟨Y,hp',h1,⟨b,us,by rw [qL_len];exact h2,by rw [qL_len];exact h3,qL_den fz h4⟩,qOb_den fz h5⟩
 | (j,.ar t m ss) :: r,hp,⟨Y,hp',h1,h2,h5⟩ => ⟨Y,hp',h1,h2,qOb_den fz h5⟩
 | (j,.fm t ss) :: r,hp,⟨Y,hp',h1,h2,h5⟩ => ⟨Y,hp',h1,h2,qOb_den fz h5⟩
 | (j,.mp a b es) :: r,hp,⟨Y,hp',h1,h2,h5⟩ => ⟨Y,hp',h1,h2,qOb_den fz h5⟩
 | (j,.fa t m ss) :: r,hp,⟨Y,hp',h1,h2,h5⟩ => ⟨Y,hp',h1,h2,qOb_den fz h5⟩
 | (j,.ab cs us zb φ) :: r,hp,⟨Y,hp',h1,⟨h2,h3,h4⟩,h5⟩ => ⟨Y,hp',h1,⟨h2,h3,qL_den fz h4⟩,qOb_den fz h5⟩
end
theorem Ghost.frzB {tmT : List (Nat × SV)} {ob : List (Nat × Ob)} (k : Nat) {t : TypeId} {cs : List D} {ys : List V} (hk : lk k ob = some (.bx t cs)) (hb : borL [] cs = some ys) : Ghost tmT ob (qTm (qD k ys) tmT) (qOb (qD k ys) (obr k ob)) := ⟨fun c tm h ρ G w g hw => by
 obtain ⟨F,w0,hp⟩ := h
 obtain ⟨Y,f,⟨b,us,rfl,g2,g3⟩,g6,_,g8⟩ := g.ob.set hk
 have g4 := borL_nil_den hb g3
 have hperm : hp.Perm ([(b,⟨t,us,cs.length⟩)] ++ f []) := by have := g6.perm [(b,(⟨t,us,cs.length⟩ : Hb))];rwa [g6.eq] at this
 have hnd : (([(b,(⟨t,us,cs.length⟩ : Hb))] ++ f []).map Prod.fst).Nodup := (hperm.map _).nodup_iff.1 hw.nd
 have hmem : ∀ p,p ∈ hp ↔ p ∈ [(b,(⟨t,us,cs.length⟩ : Hb))] ∨ p ∈ f [] := fun p => by rw [hperm.mem_iff,List.mem_append]
 have hmb : (b,(⟨t,us,cs.length⟩ : Hb)) ∈ hp := (hmem _).2 (.inl (by simp))
 have hB : ¬ F b := hw.out b _ hmb
 have hz : Mz ⟨G,w0⟩ ⟨G.or (· = b),w⟩ := ⟨fun _ h => .inl h,fun b hb => hw.same.block b (g.gF b hb),fun _ _ _ h => h⟩
 have g4' := g4.mono hz
 have fz : ∀ o v,Den ρ ⟨G.or (· = b),w⟩ (.p k o) v → Den ρ ⟨G.or (· = b),w⟩ (.q ys o) v := fun o v h => by
  cases h with | @p _ _ b' _ _ h0 =>
  rw [g2] at h0
  injection h0 with h0
  injection h0 with e1 _ _
  injection e1 with e1
  injection e1 with e1 _ _
  subst e1
  have := Den.q (ρ := ρ) (z := ⟨G.or (· = b),w⟩) (cs := ys) (o := o) (b := b) (o' := 0) (us := us) (.inr rfl) (fun j u hj => by rw [Nat.zero_add];exact (hw.blk b _ hmb).cell (x := ⟨t,us,_⟩) hj) g4'
  rwa [Nat.zero_add] at this
 refine ⟨⟨fun x => F x ∨ x = b,w,f []⟩,ρ,G.or (· = b),⟨fun b hb => .inl (g.fF b hb),g.fw.trans (hw.same.mono g.fF),fun b hb => hb.imp (g.gF b) id,fun x hx => ?_,g.fm.or,fun j s' hj => ?_,qOb_den (fun _ _ => qD_den fz) (g8.mono hz .refl)⟩,⟨Same.refl _ _,fun x hx => ?_,fun x y hx => hw.blk x y ((hmem _).2 (.inr hx)),?_,fun x y hx hb => ?_⟩⟩
 ·rcases hx with hx | rfl
  ·exact g.gx x hx
  ·exact .inr fun h0 => hB (g.fF _ h0)
 ·obtain ⟨s,e1,rfl⟩ := qTm_lk hj
  obtain ⟨v,v1,v2⟩ := g.tm j s e1
  exact ⟨v,v1,qS_den (fun _ _ => qD_den fz) (v2.mono hz .refl)⟩
 ·rcases hx with hx | rfl
  ·exact hw.Flt hx
  ·exact (hw.blk _ _ hmb).lt
 ·rw [List.map_append,List.nodup_append] at hnd;exact hnd.2.1
 ·rcases hb with hb | rfl
  ·exact hw.out x y ((hmem _).2 (.inr hx)) hb
  ·rw [List.map_append,List.nodup_append] at hnd
   exact hnd.2.2 x (by simp) x (List.mem_map_of_mem (f := Prod.fst) hx) rfl⟩
end Go.Proofs.YtjpaaaecbgmcgaaGreatDoor
/-
 The layer of trees: a call that has families of its own. Of no program.
-/
namespace Go.Proofs.YtjpaaaecbgmcgaaGreatDoor
open Go.RowKit
inductive Nm : V → Prop
 | int {k : IntKind} {n : Int} : Nm (.int k n)
 | bool {b : Bool} : Nm (.bool b)
 | str {s : ByteArray} : Nm (.str s)
 | nl : Nm .nl
 | pn : Nm .pn
 | fn {f : FuncId} : Nm (.fn f)
 | v {x : Value} : Nm (.v x)
 | cl {f : FuncId} {cs : List (List V)} (h : ∀ r ∈ cs,∀ x ∈ r,Nm x) : Nm (.cl f cs)
 | sl {sz : Nat} {rs : List (List V)} (h : ∀ r ∈ rs,∀ x ∈ r,Nm x) : Nm (.sl sz rs)
 | fz {vg : Bool} {es : List (List V × List V)} (h : ∀ e ∈ es,∀ x ∈ e.1 ++ e.2,Nm x) : Nm (.fz vg es)
section
variable {ρ ρ' : Rho} {z z' : Fz}
end
section
variable {ρ : Rho} {z z' : Fz}
end
end Go.Proofs.YtjpaaaecbgmcgaaGreatDoor
/-
 The layer of trees: rows of zeros: append(nil,make(..)),make. Of no program.
-/
namespace Go.Proofs.YtjpaaaecbgmcgaaGreatDoor
open Go.RowKit
inductive NlE : E → E → Prop
 | refl {e : E} : NlE e e
 | v {x y : V} : NlV x y → NlE (.v x) (.v y)
inductive NlEs : List E → List E → Prop
 | nil : NlEs [] []
 | cons {x y : E} {r s : List E} : NlE x y → NlEs r s → NlEs (x :: r) (y :: s)
inductive NlRs : List (List E) → List (List E) → Prop
 | nil : NlRs [] []
 | cons {x y : List E} {r s : List (List E)} : NlEs x y → NlRs r s → NlRs (x :: r) (y :: s)
inductive NlO : List (Nat × Ob) → List (Nat × Ob) → Prop
 | nil : NlO [] []
 | keep {p : Nat × Ob} {r s : List (Nat × Ob)} : NlO r s → NlO (p :: r) (p :: s)
 | fm {k : Nat} {t : TypeId} {rs ss : List (List E)} {r s : List (Nat × Ob)} : NlRs rs ss → NlO r s → NlO ((k,.fm t rs) :: r) ((k,.fm t ss) :: s)
section
variable {ρ : Rho} {z : Fz}
end
section
variable {P : Program} {T : List (Nat × Ty)} [hT : Tys P T] {nt : Nt} {Q : Exit → Act → World → Prop} {c : Cx} {tm : List (Nat × Value)} {h : Hs} {ρ : Rho} {G : FG} {ty : TypeId} {pos : String} {af : Array Edge} {gd : Option (Nat × Bool)} {K : Kt}
end
end Go.Proofs.YtjpaaaecbgmcgaaGreatDoor
/-
 The layer of trees: own arrays are frozen anywhere;nil slices inside of rows. Of no program.
-/
namespace Go.Proofs.YtjpaaaecbgmcgaaGreatDoor
open Go.RowKit
theorem Ghost.frzA {tmT : List (Nat × SV)} {ob : List (Nat × Ob)} (k : Nat) {u sz : Nat} {rs : List (List V)} (hk : lk k ob = some (.ar u sz rs)) (hn : frNeedT k rs (frNeedO k rs True (obr k ob)) tmT) : Ghost tmT ob (frTm k sz rs tmT) (frOb k sz rs (obr k ob)) := ⟨fun c tm h ρ G w g hw => by
 obtain ⟨_,h',G',q1,q2,_⟩ := Gd.freeze (st := ⟨tmT,ob⟩) (X := True) g hw hk hn
 exact ⟨h',ρ,G',q1,q2⟩⟩
inductive NvV : V → V → Prop
 | refl {x : V} : NvV x x
 | nl {sz : Nat} {rs : List (List V)} : rs = [] → NvV .nl (.sl sz rs)
 | sl {sz : Nat} {rs rs' : List (List V)} : rs.length = rs'.length → (∀ (i : Nat) r r',rs[i]? = some r → rs'[i]? = some r' → r.length = r'.length) → (∀ (i : Nat) r r' (j : Nat) x y,rs[i]? = some r → rs'[i]? = some r' → r[j]? = some x → r'[j]? = some y → NvV x y) → NvV (.sl sz rs) (.sl sz rs')
end Go.Proofs.YtjpaaaecbgmcgaaGreatDoor
namespace Go.Proofs.YtjpaaaecbgmcgaaGreatDoor
open Go.RowKit
section
variable {P : Program} {ops : Array Oper} {Q : Exit → Act → World → Prop} {md : Region.Mode} {S S' S1 S1' : World → Prop} {late free : List Nat}
def wpAnyX (P : Program) (md : Region.Mode) (ops : Array Oper) (Q : Exit → Act → World → Prop) (S S1 : World → Prop) (late free : List Nat) : Nat → Array Bool → Act → World → Prop
 | 0,listed,a,w => Region.ready md ops listed = [] ∧ Q .normal a w
 | fuel + 1,listed,a,w =>
  (Region.ready md ops listed = [] → Q .normal a w) ∧
  ∀ i ∈ Region.ready md ops listed,wpOp P ops Q i (fun a' w' => (((free.contains i = true → w' = w) ∧ (late.contains i = false → free.contains i = false → S w')) ∧ S1 w') ∧ wpAnyX P md ops Q S S1 late free fuel (listed.setIfInBounds i true) a' w') a w
theorem wpAny_of_X : ∀ (fuel : Nat) (listed : Array Bool) (a : Act) (w : World),wpAnyX P md ops Q S S1 late free fuel listed a w → wpAny P md ops Q fuel listed a w
 | 0,_,_,_,h => h
 | fuel + 1,_,_,_,h => ⟨h.1,fun i hi => wpOp_mono (fun a' w' h' => wpAny_of_X fuel _ a' w' h'.2) (h.2 i hi)⟩
theorem wpAnyX_mono (hS : ∀ w,S' w → S w) (hS1 : ∀ w,S1' w → S1 w) : ∀ (fuel : Nat) (listed : Array Bool) (a : Act) (w : World),wpAnyX P md ops Q S' S1' late free fuel listed a w → wpAnyX P md ops Q S S1 late free fuel listed a w
 | 0,_,_,_,h => h
 | fuel + 1,_,_,_,h => ⟨h.1,fun i hi => wpOp_mono (fun a' w' h' => ⟨⟨⟨h'.1.1.1,fun hl hf => hS w' (h'.1.1.2 hl hf)⟩,hS1 w' h'.1.2⟩,wpAnyX_mono hS hS1 fuel _ a' w' h'.2⟩) (h.2 i hi)⟩
theorem wpAnyX_free {i : Nat} {oi : Oper} {v : Value} (hi : ops[i]? = some oi) (hsel : ∀ (j : Nat) (o : Oper) cs b,ops[j]? = some o → o.op ≠ .select cs b)
  (hQ : ∀ c a w,Q (.panic c) (a.put oi.dst v) w → Q (.panic c) a w) (hfi : free.contains i = true) :
  ∀ (fuel : Nat) (listed : Array Bool) (a : Act) (w : World),DC md ops listed →
   (∀ j oj,ops[j]? = some oj → j ≠ i → listed.getD j true = false → (∀ e ∈ oj.after,Region.binds md e = true → e.on ≠ i) → oi.apart ops oj = true) →
   i ∈ Region.ready md ops listed → YieldsIf P ops S1 oi v a → S1 w →
   wpAnyX P md ops Q S S1 late free fuel (listed.setIfInBounds i true) (a.put oi.dst v) w → wpAnyX P md ops Q S S1 late free (fuel + 1) listed a w := by
 intro fuel
 induction fuel with
 | zero =>
  intro listed a w _ _ hr hy hS1 H
  refine ⟨fun h => (by rw [h] at hr;cases hr),fun j hj => ?_⟩
  by_cases hji : j = i
  ·subst hji;exact hy.wpOp hi hS1 ⟨⟨⟨fun _ => rfl,fun _ hf => by rw [hfi] at hf;cases hf⟩,hS1⟩,H⟩
  ·have := ready_mono hj hji
   rw [H.1] at this
   cases this
 | succ fuel ih =>
  intro listed a w hdc hfree hr hy hS1 H
  refine ⟨fun h => (by rw [h] at hr;cases hr),fun j hj => ?_⟩
  by_cases hji : j = i
  ·subst hji;exact hy.wpOp hi hS1 ⟨⟨⟨fun _ => rfl,fun _ hf => by rw [hfi] at hf;cases hf⟩,hS1⟩,H⟩
  ·have h1 := H.2 j (ready_mono hj hji)
   obtain ⟨hjun,oj,hoj,hall⟩ := mem_ready.1 hj
   have hiun : listed.getD i false ≠ true := fun h' => by
    have h0 := (mem_ready.1 hr).1
    rcases Nat.lt_or_ge i listed.size with h2 | h2
    ·simp [h2] at h0 h';rw [h0] at h';cases h'
    ·simp [Array.getElem?_eq_none h2] at h'
   have hnot : ∀ e ∈ oj.after,Region.binds md e = true → e.on ≠ i := fun e he hb heq => hiun (heq ▸ hall e he hb)
   have h2 := wpOp_putIf hoj (hfree j oj hoj hji hjun hnot) (fun cs b => hsel i oi cs b hi) (fun cs b => hsel j oj cs b hoj) hQ hy h1
   have hfree' : ∀ k ok,ops[k]? = some ok → k ≠ i → (listed.setIfInBounds j true).getD k true = false →
     (∀ e ∈ ok.after,Region.binds md e = true → e.on ≠ i) → oi.apart ops ok = true := fun k ok hk hki hun hno => by
    refine hfree k ok hk hki ?_ hno
    by_cases hjk : j = k
    ·subst hjk;exact hjun
    ·rw [getD_set_ne true hjk] at hun;exact hun
   refine wpOp_mono (fun a' w' h3 => ⟨h3.2.1,ih (listed.setIfInBounds j true) a' w' (hdc.set hoj hall) hfree' (ready_mono hr (Ne.symm hji)) h3.1 h3.2.1.2 ?_⟩) h2
   rw [Array.setIfInBounds_comm _ _ hji]
   exact h3.2.2
end
section
variable (P : Program) (T : List (Nat × Ty)) (nt : Nt)
def vcYF (o : Oper) (tm : List (Nat × SV)) (ob : List (Nat × Ob)) (K : Kt) : Prop := match vcY P T o.op tm [] (fun s => putT nt o.dst s tm ob K) with
 | some p => p
 | none => False
end
section
variable {P : Program} {T : List (Nat × Ty)} [hT : Tys P T] {nt : Nt} {ops : Array Oper} {Q : Exit → Act → World → Prop} {late free : List Nat} {c : Cx} {K : Kt}
theorem Gd.recx {st : St} {tm : List (Nat × Value)} {h : Hs} {ρ : Rho} {G : FG} (g : Gd c st tm h ρ G) : Gd ⟨h.F,h.w0,G⟩ st tm h ρ G := ⟨fun _ h => h,Same.refl _ _,g.gF,fun _ h => .inl h,.refl _,g.tm,g.ob⟩
theorem Gd.back {st st' : St} {tm tm' : List (Nat × Value)} {h h' : Hs} {ρ ρ' : Rho} {G G' : FG} (g : Gd c st tm h ρ G) (g' : Gd ⟨h.F,h.w0,G⟩ st' tm' h' ρ' G') : Gd c st' tm' h' ρ' G' :=
 ⟨fun b hb => g'.fF b (g.fF b hb),g.fw.trans (g'.fw.mono g.fF),g'.gF,fun b hb => (g'.gx b hb).elim (g.gx b) fun q => .inr fun h0 => q (g.fF b h0),g.fm.trans g'.fm,g'.tm,g'.ob⟩
abbrev Frn (h : Hs) (w : World) : Prop := Hp ⟨h.F,h.w0,[]⟩ w
theorem Hp.frn {h : Hs} {w : World} (hw : Hp h w) : Frn h w := ⟨hw.same,hw.inF,fun b x hx => (by cases hx),(by simp),fun b x hx => (by cases hx)⟩
theorem Frn.back {st' : St} {tm' : List (Nat × Value)} {h h' : Hs} {ρ' : Rho} {G G' : FG} {w0 w : World} (h0 : Hp h w0) (g' : Gd ⟨h.F,h.w0,G⟩ st' tm' h' ρ' G') (hw : Frn h' w) : Frn h w :=
 ⟨g'.fw.trans (hw.same.mono g'.fF),h0.inF,fun b x hx => (by cases hx),(by simp),fun b x hx => (by cases hx)⟩
end
end Go.Proofs.YtjpaaaecbgmcgaaGreatDoor
/-
 The layer of trees: regions that draw their order: first what reads frozen memory alone,then all orders of the rest. Of no program.
-/
namespace Go.Proofs.YtjpaaaecbgmcgaaGreatDoor
open Go.RowKit
section
variable (P : Program) (T : List (Nat × Ty)) (nt : Nt)
end
section
variable {P : Program} {T : List (Nat × Ty)} [hT : Tys P T] {nt : Nt} {ops : Array Oper} {Q : Exit → Act → World → Prop} {late free : List Nat} {c : Cx} {K : Kt}
end
end Go.Proofs.YtjpaaaecbgmcgaaGreatDoor
namespace Go.Proofs.YtjpaaaecbgmcgaaGreatDoor
open Go.RowKit
section
variable {P : Program} {T : List (Nat × Ty)} [hT : Tys P T] {nt : Nt} {Q : Exit → Act → World → Prop} {ty : TypeId} {pos : String} {af : Array Edge} {gd : Option (Nat × Bool)} {K : Kt}
end
end Go.Proofs.YtjpaaaecbgmcgaaGreatDoor
namespace Go.Proofs.YtjpaaaecbgmcgaaGreatDoor
open Go.RowKit
def tt : List (Nat × Ty) := [
 (1,⟨.ot,1,8,[.nilFunc]⟩),
 (2,⟨.in_ .i64,1,8,[.int .i64 0]⟩),
 (3,⟨.in_ .i64,1,8,[.int .i64 0]⟩),
 (4,⟨.bo,1,1,[.bool false]⟩),
 (5,⟨.in_ .u8,1,1,[.int .u8 0]⟩),
 (6,⟨.in_ .u8,1,1,[.int .u8 0]⟩),
 (7,⟨.st [(0,2),(1,3),(2,4),(3,6)],4,24,[.int .i64 0,.int .i64 0,.bool false,.int .u8 0]⟩),
 (8,⟨.st [(0,2),(1,3),(2,4),(3,6)],4,24,[.int .i64 0,.int .i64 0,.bool false,.int .u8 0]⟩),
 (9,⟨.sr,1,16,[.string ⟨#[]⟩]⟩),
 (10,⟨.sr,1,16,[.string ⟨#[]⟩]⟩),
 (11,⟨.sr,1,16,[.string ⟨#[]⟩]⟩),
 (12,⟨.in_ .u64,1,8,[.int .u64 0]⟩),
 (13,⟨.st [(0,9),(1,12)],2,24,[.string ⟨#[]⟩,.int .u64 0]⟩),
 (14,⟨.st [(0,9),(1,12)],2,24,[.string ⟨#[]⟩,.int .u64 0]⟩),
 (15,⟨.pt 403,1,8,[.pointer none]⟩),
 (16,⟨.pt 406,1,8,[.pointer none]⟩),
 (17,⟨.pt 413,1,8,[.pointer none]⟩),
 (18,⟨.st [(0,17)],1,8,[.pointer none]⟩),
 (19,⟨.st [(0,17)],1,8,[.pointer none]⟩),
 (20,⟨.ot,1,16,[.nilIface]⟩),
 (21,⟨.in_ .i32,1,4,[.int .i32 0]⟩),
 (22,⟨.sl 9,1,24,[.slice none 0 0]⟩),
 (23,⟨.sl 29,1,24,[.slice none 0 0]⟩),
 (24,⟨.st [(0,3),(1,3)],2,16,[.int .i64 0,.int .i64 0]⟩),
 (25,⟨.st [(0,3),(1,3)],2,16,[.int .i64 0,.int .i64 0]⟩),
 (27,⟨.ot,1,8,[.nilFunc]⟩),
 (28,⟨.st [(0,9),(1,3),(2,9),(3,22),(4,3)],5,72,[.string ⟨#[]⟩,.int .i64 0,.string ⟨#[]⟩,.slice none 0 0,.int .i64 0]⟩),
 (29,⟨.st [(0,9),(1,3),(2,9),(3,22),(4,3)],5,72,[.string ⟨#[]⟩,.int .i64 0,.string ⟨#[]⟩,.slice none 0 0,.int .i64 0]⟩),
 (31,⟨.ot,1,8,[.nilFunc]⟩),
 (32,⟨.ot,1,8,[.nilFunc]⟩),
 (33,⟨.ot,1,8,[.nilFunc]⟩),
 (34,⟨.ot,1,8,[.nilFunc]⟩),
 (35,⟨.ot,1,8,[.nilFunc]⟩),
 (36,⟨.ot,1,8,[.nilFunc]⟩),
 (37,⟨.ot,1,8,[.nilFunc]⟩),
 (38,⟨.ot,1,8,[.nilFunc]⟩),
 (40,⟨.ot,1,8,[.nilFunc]⟩),
 (41,⟨.ot,1,8,[.nilFunc]⟩),
 (42,⟨.ot,1,8,[.nilFunc]⟩),
 (43,⟨.ot,1,8,[.nilFunc]⟩),
 (44,⟨.st [(0,3),(1,3),(2,3)],3,24,[.int .i64 0,.int .i64 0,.int .i64 0]⟩),
 (45,⟨.st [(0,3),(1,3),(2,3)],3,24,[.int .i64 0,.int .i64 0,.int .i64 0]⟩),
 (46,⟨.ot,1,8,[.nilFunc]⟩),
 (47,⟨.ot,1,8,[.nilFunc]⟩),
 (48,⟨.ot,1,8,[.nilFunc]⟩),
 (49,⟨.ot,1,8,[.nilFunc]⟩),
 (50,⟨.ot,1,8,[.nilFunc]⟩),
 (51,⟨.ot,1,8,[.nilFunc]⟩),
 (52,⟨.ot,1,8,[.nilFunc]⟩),
 (53,⟨.ot,1,8,[.nilFunc]⟩),
 (54,⟨.sl 58,1,24,[.slice none 0 0]⟩),
 (56,⟨.ot,1,8,[.nilFunc]⟩),
 (57,⟨.st [(0,9),(1,9)],2,32,[.string ⟨#[]⟩,.string ⟨#[]⟩]⟩),
 (58,⟨.st [(0,9),(1,9)],2,32,[.string ⟨#[]⟩,.string ⟨#[]⟩]⟩),
 (59,⟨.ot,1,8,[.nilFunc]⟩),
 (61,⟨.ot,1,8,[.nilFunc]⟩),
 (62,⟨.ot,1,8,[.nilFunc]⟩),
 (63,⟨.ot,1,8,[.nilFunc]⟩),
 (64,⟨.pt 45,1,8,[.pointer none]⟩),
 (65,⟨.ot,1,8,[.nilFunc]⟩),
 (66,⟨.ot,1,8,[.nilFunc]⟩),
 (67,⟨.sl 98,1,24,[.slice none 0 0]⟩),
 (69,⟨.ot,1,8,[.nilFunc]⟩),
 (70,⟨.ot,1,8,[.nilFunc]⟩),
 (71,⟨.ot,1,8,[.nilFunc]⟩),
 (73,⟨.ot,1,8,[.nilFunc]⟩),
 (74,⟨.ot,1,8,[.nilFunc]⟩),
 (75,⟨.ot,1,8,[.nilFunc]⟩),
 (76,⟨.sl 5,1,24,[.slice none 0 0]⟩),
 (77,⟨.sl 87,1,24,[.slice none 0 0]⟩),
 (79,⟨.ot,1,8,[.nilFunc]⟩),
 (80,⟨.pt 82,1,8,[.pointer none]⟩),
 (81,⟨.st [(0,77),(1,3),(2,3)],3,40,[.slice none 0 0,.int .i64 0,.int .i64 0]⟩),
 (82,⟨.st [(0,77),(1,3),(2,3)],3,40,[.slice none 0 0,.int .i64 0,.int .i64 0]⟩),
 (83,⟨.st [(0,3)],1,8,[.int .i64 0]⟩),
 (84,⟨.st [(0,3)],1,8,[.int .i64 0]⟩),
 (86,⟨.st [(0,3),(1,9),(2,3),(3,3)],4,40,[.int .i64 0,.string ⟨#[]⟩,.int .i64 0,.int .i64 0]⟩),
 (87,⟨.st [(0,3),(1,9),(2,3),(3,3)],4,40,[.int .i64 0,.string ⟨#[]⟩,.int .i64 0,.int .i64 0]⟩),
 (88,⟨.ot,1,8,[.nilFunc]⟩),
 (90,⟨.ot,1,8,[.nilFunc]⟩),
 (91,⟨.ot,1,8,[.nilFunc]⟩),
 (92,⟨.sl 129,1,24,[.slice none 0 0]⟩),
 (93,⟨.sl 142,1,24,[.slice none 0 0]⟩),
 (94,⟨.sl 166,1,24,[.slice none 0 0]⟩),
 (95,⟨.sl 168,1,24,[.slice none 0 0]⟩),
 (96,⟨.sl 173,1,24,[.slice none 0 0]⟩),
 (97,⟨.st [(0,3),(1,3),(2,9),(3,22),(4,3),(5,92),(6,92),(7,93),(8,67),(9,67),(10,67),(11,94),(12,95),(13,96),(14,4)],15,288,[.int .i64 0,.int .i64 0,.string ⟨#[]⟩,.slice none 0 0,.int .i64 0,.slice none 0 0,.slice none 0 0,.slice none 0 0,.slice none 0 0,.slice none 0 0,.slice none 0 0,.slice none 0 0,.slice none 0 0,.slice none 0 0,.bool false]⟩),
 (98,⟨.st [(0,3),(1,3),(2,9),(3,22),(4,3),(5,92),(6,92),(7,93),(8,67),(9,67),(10,67),(11,94),(12,95),(13,96),(14,4)],15,288,[.int .i64 0,.int .i64 0,.string ⟨#[]⟩,.slice none 0 0,.int .i64 0,.slice none 0 0,.slice none 0 0,.slice none 0 0,.slice none 0 0,.slice none 0 0,.slice none 0 0,.slice none 0 0,.slice none 0 0,.slice none 0 0,.bool false]⟩),
 (99,⟨.ot,1,8,[.nilFunc]⟩),
 (100,⟨.ot,1,8,[.nilFunc]⟩),
 (101,⟨.ot,1,8,[.nilFunc]⟩),
 (102,⟨.mp 9 3,1,8,[.map none]⟩),
 (103,⟨.ot,1,8,[.nilFunc]⟩),
 (105,⟨.ot,1,8,[.nilFunc]⟩),
 (106,⟨.ot,1,8,[.nilFunc]⟩),
 (107,⟨.ot,1,8,[.nilFunc]⟩),
 (108,⟨.ot,1,8,[.nilFunc]⟩),
 (109,⟨.pt 113,1,8,[.pointer none]⟩),
 (110,⟨.sl 3,1,24,[.slice none 0 0]⟩),
 (111,⟨.ot,1,8,[.nilFunc]⟩),
 (112,⟨.st [(0,9),(1,3),(2,3),(3,3),(4,110),(5,76),(6,77),(7,102),(8,22)],9,144,[.string ⟨#[]⟩,.int .i64 0,.int .i64 0,.int .i64 0,.slice none 0 0,.slice none 0 0,.slice none 0 0,.map none,.slice none 0 0]⟩),
 (113,⟨.st [(0,9),(1,3),(2,3),(3,3),(4,110),(5,76),(6,77),(7,102),(8,22)],9,144,[.string ⟨#[]⟩,.int .i64 0,.int .i64 0,.int .i64 0,.slice none 0 0,.slice none 0 0,.slice none 0 0,.map none,.slice none 0 0]⟩),
 (114,⟨.st [(0,25)],2,16,[.int .i64 0,.int .i64 0]⟩),
 (115,⟨.st [(0,25)],2,16,[.int .i64 0,.int .i64 0]⟩),
 (118,⟨.ot,1,8,[.nilFunc]⟩),
 (119,⟨.ot,1,8,[.nilFunc]⟩),
 (120,⟨.ot,1,8,[.nilFunc]⟩),
 (121,⟨.ot,1,8,[.nilFunc]⟩),
 (122,⟨.sl 183,1,24,[.slice none 0 0]⟩),
 (123,⟨.st [(0,4),(1,122)],2,32,[.bool false,.slice none 0 0]⟩),
 (124,⟨.st [(0,4),(1,122)],2,32,[.bool false,.slice none 0 0]⟩),
 (125,⟨.st [(0,3),(1,124),(3,124),(5,9),(6,3)],7,96,[.int .i64 0,.bool false,.slice none 0 0,.bool false,.slice none 0 0,.string ⟨#[]⟩,.int .i64 0]⟩),
 (126,⟨.st [(0,3),(1,124),(3,124),(5,9),(6,3)],7,96,[.int .i64 0,.bool false,.slice none 0 0,.bool false,.slice none 0 0,.string ⟨#[]⟩,.int .i64 0]⟩),
 (127,⟨.sl 238,1,24,[.slice none 0 0]⟩),
 (128,⟨.st [(0,3),(1,3),(2,126),(9,9),(10,3),(11,110),(12,92),(13,127),(14,93)],15,232,[.int .i64 0,.int .i64 0,.int .i64 0,.bool false,.slice none 0 0,.bool false,.slice none 0 0,.string ⟨#[]⟩,.int .i64 0,.string ⟨#[]⟩,.int .i64 0,.slice none 0 0,.slice none 0 0,.slice none 0 0,.slice none 0 0]⟩),
 (129,⟨.st [(0,3),(1,3),(2,126),(9,9),(10,3),(11,110),(12,92),(13,127),(14,93)],15,232,[.int .i64 0,.int .i64 0,.int .i64 0,.bool false,.slice none 0 0,.bool false,.slice none 0 0,.string ⟨#[]⟩,.int .i64 0,.string ⟨#[]⟩,.int .i64 0,.slice none 0 0,.slice none 0 0,.slice none 0 0,.slice none 0 0]⟩),
 (130,⟨.ot,1,8,[.nilFunc]⟩),
 (131,⟨.ot,1,8,[.nilFunc]⟩),
 (132,⟨.ot,1,8,[.nilFunc]⟩),
 (133,⟨.st [(0,25)],2,16,[.int .i64 0,.int .i64 0]⟩),
 (135,⟨.pt 137,1,8,[.pointer none]⟩),
 (136,⟨.st [(0,3)],1,8,[.int .i64 0]⟩),
 (137,⟨.st [(0,3)],1,8,[.int .i64 0]⟩),
 (138,⟨.ot,1,8,[.nilFunc]⟩),
 (139,⟨.st [(0,4),(1,4),(2,4),(3,4),(4,4),(5,4),(6,4),(7,4)],8,8,[.bool false,.bool false,.bool false,.bool false,.bool false,.bool false,.bool false,.bool false]⟩),
 (140,⟨.st [(0,4),(1,4),(2,4),(3,4),(4,4),(5,4),(6,4),(7,4)],8,8,[.bool false,.bool false,.bool false,.bool false,.bool false,.bool false,.bool false,.bool false]⟩),
 (141,⟨.st [(0,3),(1,9),(2,92)],3,48,[.int .i64 0,.string ⟨#[]⟩,.slice none 0 0]⟩),
 (142,⟨.st [(0,3),(1,9),(2,92)],3,48,[.int .i64 0,.string ⟨#[]⟩,.slice none 0 0]⟩),
 (143,⟨.ot,1,8,[.nilFunc]⟩),
 (144,⟨.ot,1,8,[.nilFunc]⟩),
 (145,⟨.ar 24 5,24,24,[.int .u8 0,.int .u8 0,.int .u8 0,.int .u8 0,.int .u8 0,.int .u8 0,.int .u8 0,.int .u8 0,.int .u8 0,.int .u8 0,.int .u8 0,.int .u8 0,.int .u8 0,.int .u8 0,.int .u8 0,.int .u8 0,.int .u8 0,.int .u8 0,.int .u8 0,.int .u8 0,.int .u8 0,.int .u8 0,.int .u8 0,.int .u8 0]⟩),
 (146,⟨.in_ .u64,1,8,[.int .u64 0]⟩),
 (147,⟨.ot,1,8,[.nilFunc]⟩),
 (148,⟨.ot,1,8,[.nilFunc]⟩),
 (150,⟨.ot,1,8,[.nilFunc]⟩),
 (152,⟨.ot,1,8,[.nilFunc]⟩),
 (153,⟨.ot,1,8,[.nilFunc]⟩),
 (154,⟨.ot,1,8,[.nilFunc]⟩),
 (155,⟨.ot,1,8,[.nilFunc]⟩),
 (156,⟨.ot,1,8,[.nilFunc]⟩),
 (157,⟨.ot,1,8,[.nilFunc]⟩),
 (158,⟨.ot,1,8,[.nilFunc]⟩),
 (159,⟨.ot,1,8,[.nilFunc]⟩),
 (160,⟨.ot,1,8,[.nilFunc]⟩),
 (161,⟨.ot,1,8,[.nilFunc]⟩),
 (162,⟨.ot,1,8,[.nilFunc]⟩),
 (163,⟨.ot,1,8,[.nilFunc]⟩),
 (164,⟨.ot,1,8,[.nilFunc]⟩),
 (165,⟨.st [(0,3),(1,9),(2,92),(3,67)],4,72,[.int .i64 0,.string ⟨#[]⟩,.slice none 0 0,.slice none 0 0]⟩),
 (166,⟨.st [(0,3),(1,9),(2,92),(3,67)],4,72,[.int .i64 0,.string ⟨#[]⟩,.slice none 0 0,.slice none 0 0]⟩),
 (167,⟨.st [(0,129),(15,92)],16,256,[.int .i64 0,.int .i64 0,.int .i64 0,.bool false,.slice none 0 0,.bool false,.slice none 0 0,.string ⟨#[]⟩,.int .i64 0,.string ⟨#[]⟩,.int .i64 0,.slice none 0 0,.slice none 0 0,.slice none 0 0,.slice none 0 0,.slice none 0 0]⟩),
 (168,⟨.st [(0,129),(15,92)],16,256,[.int .i64 0,.int .i64 0,.int .i64 0,.bool false,.slice none 0 0,.bool false,.slice none 0 0,.string ⟨#[]⟩,.int .i64 0,.string ⟨#[]⟩,.int .i64 0,.slice none 0 0,.slice none 0 0,.slice none 0 0,.slice none 0 0,.slice none 0 0]⟩),
 (169,⟨.sl 171,1,24,[.slice none 0 0]⟩),
 (170,⟨.st [(0,3),(1,3),(2,9),(3,22),(4,92),(5,169)],6,104,[.int .i64 0,.int .i64 0,.string ⟨#[]⟩,.slice none 0 0,.slice none 0 0,.slice none 0 0]⟩),
 (171,⟨.st [(0,3),(1,3),(2,9),(3,22),(4,92),(5,169)],6,104,[.int .i64 0,.int .i64 0,.string ⟨#[]⟩,.slice none 0 0,.slice none 0 0,.slice none 0 0]⟩),
 (172,⟨.st [(0,3),(1,171),(7,92),(8,67)],9,160,[.int .i64 0,.int .i64 0,.int .i64 0,.string ⟨#[]⟩,.slice none 0 0,.slice none 0 0,.slice none 0 0,.slice none 0 0,.slice none 0 0]⟩),
 (173,⟨.st [(0,3),(1,171),(7,92),(8,67)],9,160,[.int .i64 0,.int .i64 0,.int .i64 0,.string ⟨#[]⟩,.slice none 0 0,.slice none 0 0,.slice none 0 0,.slice none 0 0,.slice none 0 0]⟩),
 (174,⟨.ot,1,8,[.nilFunc]⟩),
 (175,⟨.ot,1,8,[.nilFunc]⟩),
 (176,⟨.ot,1,8,[.nilFunc]⟩),
 (177,⟨.ot,1,8,[.nilFunc]⟩),
 (178,⟨.ot,1,8,[.nilFunc]⟩),
 (179,⟨.ot,1,8,[.nilFunc]⟩),
 (180,⟨.ot,1,8,[.nilFunc]⟩),
 (181,⟨.ot,1,8,[.nilFunc]⟩),
 (182,⟨.ar 20 146,20,160,[.int .u64 0,.int .u64 0,.int .u64 0,.int .u64 0,.int .u64 0,.int .u64 0,.int .u64 0,.int .u64 0,.int .u64 0,.int .u64 0,.int .u64 0,.int .u64 0,.int .u64 0,.int .u64 0,.int .u64 0,.int .u64 0,.int .u64 0,.int .u64 0,.int .u64 0,.int .u64 0]⟩),
 (183,⟨.in_ .u32,1,4,[.int .u32 0]⟩),
 (185,⟨.in_ .u64,1,8,[.int .u64 0]⟩),
 (186,⟨.ot,1,8,[.nilFunc]⟩),
 (188,⟨.ot,1,8,[.nilFunc]⟩),
 (189,⟨.ot,1,8,[.nilFunc]⟩),
 (190,⟨.ot,1,8,[.nilFunc]⟩),
 (191,⟨.ot,1,8,[.nilFunc]⟩),
 (193,⟨.ot,1,8,[.nilFunc]⟩),
 (194,⟨.ot,1,8,[.nilFunc]⟩),
 (195,⟨.sl 22,1,24,[.slice none 0 0]⟩),
 (196,⟨.ot,1,8,[.nilFunc]⟩),
 (197,⟨.ot,1,8,[.nilFunc]⟩),
 (198,⟨.ot,1,8,[.nilFunc]⟩),
 (199,⟨.ot,1,8,[.nilFunc]⟩),
 (200,⟨.ot,1,8,[.nilFunc]⟩),
 (201,⟨.ot,1,8,[.nilFunc]⟩),
 (202,⟨.ot,1,8,[.nilFunc]⟩),
 (203,⟨.ot,1,8,[.nilFunc]⟩),
 (204,⟨.ot,1,8,[.nilFunc]⟩),
 (205,⟨.ot,1,8,[.nilFunc]⟩),
 (206,⟨.in_ .i64,1,8,[.int .i64 0]⟩),
 (207,⟨.ot,1,8,[.nilFunc]⟩),
 (208,⟨.ot,1,8,[.nilFunc]⟩),
 (209,⟨.ot,1,8,[.nilFunc]⟩),
 (210,⟨.ot,1,8,[.nilFunc]⟩),
 (211,⟨.ot,1,8,[.nilFunc]⟩),
 (212,⟨.ot,1,8,[.nilFunc]⟩),
 (213,⟨.st [(0,5),(1,5)],2,2,[.int .u8 0,.int .u8 0]⟩),
 (214,⟨.st [(0,5),(1,5)],2,2,[.int .u8 0,.int .u8 0]⟩),
 (215,⟨.ar 16 214,32,32,[.int .u8 0,.int .u8 0,.int .u8 0,.int .u8 0,.int .u8 0,.int .u8 0,.int .u8 0,.int .u8 0,.int .u8 0,.int .u8 0,.int .u8 0,.int .u8 0,.int .u8 0,.int .u8 0,.int .u8 0,.int .u8 0,.int .u8 0,.int .u8 0,.int .u8 0,.int .u8 0,.int .u8 0,.int .u8 0,.int .u8 0,.int .u8 0,.int .u8 0,.int .u8 0,.int .u8 0,.int .u8 0,.int .u8 0,.int .u8 0,.int .u8 0,.int .u8 0]⟩),
 (216,⟨.sl 218,1,24,[.slice none 0 0]⟩),
 (217,⟨.st [(0,3),(1,3)],2,16,[.int .i64 0,.int .i64 0]⟩),
 (218,⟨.st [(0,3),(1,3)],2,16,[.int .i64 0,.int .i64 0]⟩),
 (219,⟨.ot,1,8,[.nilFunc]⟩),
 (220,⟨.pt 246,1,8,[.pointer none]⟩),
 (221,⟨.ot,1,8,[.nilFunc]⟩),
 (223,⟨.ot,1,8,[.nilFunc]⟩),
 (224,⟨.ot,1,8,[.nilFunc]⟩),
 (225,⟨.ot,1,8,[.nilFunc]⟩),
 (226,⟨.pt 171,1,8,[.pointer none]⟩),
 (228,⟨.ot,1,8,[.nilFunc]⟩),
 (229,⟨.ot,1,8,[.nilFunc]⟩),
 (230,⟨.ot,1,8,[.nilFunc]⟩),
 (232,⟨.ot,1,8,[.nilFunc]⟩),
 (233,⟨.ot,1,8,[.nilFunc]⟩),
 (234,⟨.ot,1,8,[.nilFunc]⟩),
 (235,⟨.ot,1,8,[.nilFunc]⟩),
 (236,⟨.ot,1,8,[.nilFunc]⟩),
 (237,⟨.st [(0,129),(15,129),(30,92)],31,488,[.int .i64 0,.int .i64 0,.int .i64 0,.bool false,.slice none 0 0,.bool false,.slice none 0 0,.string ⟨#[]⟩,.int .i64 0,.string ⟨#[]⟩,.int .i64 0,.slice none 0 0,.slice none 0 0,.slice none 0 0,.slice none 0 0,.int .i64 0,.int .i64 0,.int .i64 0,.bool false,.slice none 0 0,.bool false,.slice none 0 0,.string ⟨#[]⟩,.int .i64 0,.string ⟨#[]⟩,.int .i64 0,.slice none 0 0,.slice none 0 0,.slice none 0 0,.slice none 0 0,.slice none 0 0]⟩),
 (238,⟨.st [(0,129),(15,129),(30,92)],31,488,[.int .i64 0,.int .i64 0,.int .i64 0,.bool false,.slice none 0 0,.bool false,.slice none 0 0,.string ⟨#[]⟩,.int .i64 0,.string ⟨#[]⟩,.int .i64 0,.slice none 0 0,.slice none 0 0,.slice none 0 0,.slice none 0 0,.int .i64 0,.int .i64 0,.int .i64 0,.bool false,.slice none 0 0,.bool false,.slice none 0 0,.string ⟨#[]⟩,.int .i64 0,.string ⟨#[]⟩,.int .i64 0,.slice none 0 0,.slice none 0 0,.slice none 0 0,.slice none 0 0,.slice none 0 0]⟩),
 (240,⟨.ot,1,8,[.nilFunc]⟩),
 (241,⟨.ar 32 5,32,32,[.int .u8 0,.int .u8 0,.int .u8 0,.int .u8 0,.int .u8 0,.int .u8 0,.int .u8 0,.int .u8 0,.int .u8 0,.int .u8 0,.int .u8 0,.int .u8 0,.int .u8 0,.int .u8 0,.int .u8 0,.int .u8 0,.int .u8 0,.int .u8 0,.int .u8 0,.int .u8 0,.int .u8 0,.int .u8 0,.int .u8 0,.int .u8 0,.int .u8 0,.int .u8 0,.int .u8 0,.int .u8 0,.int .u8 0,.int .u8 0,.int .u8 0,.int .u8 0]⟩),
 (242,⟨.ar 64 5,64,64,[.int .u8 0,.int .u8 0,.int .u8 0,.int .u8 0,.int .u8 0,.int .u8 0,.int .u8 0,.int .u8 0,.int .u8 0,.int .u8 0,.int .u8 0,.int .u8 0,.int .u8 0,.int .u8 0,.int .u8 0,.int .u8 0,.int .u8 0,.int .u8 0,.int .u8 0,.int .u8 0,.int .u8 0,.int .u8 0,.int .u8 0,.int .u8 0,.int .u8 0,.int .u8 0,.int .u8 0,.int .u8 0,.int .u8 0,.int .u8 0,.int .u8 0,.int .u8 0,.int .u8 0,.int .u8 0,.int .u8 0,.int .u8 0,.int .u8 0,.int .u8 0,.int .u8 0,.int .u8 0,.int .u8 0,.int .u8 0,.int .u8 0,.int .u8 0,.int .u8 0,.int .u8 0,.int .u8 0,.int .u8 0,.int .u8 0,.int .u8 0,.int .u8 0,.int .u8 0,.int .u8 0,.int .u8 0,.int .u8 0,.int .u8 0,.int .u8 0,.int .u8 0,.int .u8 0,.int .u8 0,.int .u8 0,.int .u8 0,.int .u8 0,.int .u8 0]⟩),
 (243,⟨.sl 249,1,24,[.slice none 0 0]⟩),
 (244,⟨.sl 252,1,24,[.slice none 0 0]⟩),
 (245,⟨.st [(0,243),(1,244),(2,3)],3,56,[.slice none 0 0,.slice none 0 0,.int .i64 0]⟩),
 (246,⟨.st [(0,243),(1,244),(2,3)],3,56,[.slice none 0 0,.slice none 0 0,.int .i64 0]⟩),
 (247,⟨.in_ .u16,1,2,[.int .u16 0]⟩),
 (248,⟨.st [(0,247),(1,247),(2,247)],3,6,[.int .u16 0,.int .u16 0,.int .u16 0]⟩),
 (249,⟨.st [(0,247),(1,247),(2,247)],3,6,[.int .u16 0,.int .u16 0,.int .u16 0]⟩),
 (250,⟨.ot,1,8,[.nilFunc]⟩),
 (251,⟨.st [(0,183),(1,183),(2,183)],3,12,[.int .u32 0,.int .u32 0,.int .u32 0]⟩),
 (252,⟨.st [(0,183),(1,183),(2,183)],3,12,[.int .u32 0,.int .u32 0,.int .u32 0]⟩),
 (253,⟨.ot,1,8,[.nilFunc]⟩),
 (254,⟨.ot,1,8,[.nilFunc]⟩),
 (255,⟨.ot,1,8,[.nilFunc]⟩),
 (256,⟨.ot,1,8,[.nilFunc]⟩),
 (257,⟨.sl 261,1,24,[.slice none 0 0]⟩),
 (259,⟨.ot,1,8,[.nilFunc]⟩),
 (260,⟨.st [(0,4),(1,9),(2,3),(3,9)],4,48,[.bool false,.string ⟨#[]⟩,.int .i64 0,.string ⟨#[]⟩]⟩),
 (261,⟨.st [(0,4),(1,9),(2,3),(3,9)],4,48,[.bool false,.string ⟨#[]⟩,.int .i64 0,.string ⟨#[]⟩]⟩),
 (262,⟨.ot,1,8,[.nilFunc]⟩),
 (263,⟨.ot,1,8,[.nilFunc]⟩),
 (264,⟨.ot,1,8,[.nilFunc]⟩),
 (265,⟨.ot,1,8,[.nilFunc]⟩),
 (266,⟨.ot,1,8,[.nilFunc]⟩),
 (267,⟨.ot,1,8,[.nilFunc]⟩),
 (268,⟨.ot,1,8,[.nilFunc]⟩),
 (269,⟨.pt 249,1,8,[.pointer none]⟩),
 (270,⟨.pt 252,1,8,[.pointer none]⟩),
 (271,⟨.ot,1,8,[.nilFunc]⟩),
 (273,⟨.ot,1,8,[.nilFunc]⟩),
 (274,⟨.ot,1,8,[.nilFunc]⟩),
 (275,⟨.pt 25,1,8,[.pointer none]⟩),
 (276,⟨.pt 279,1,8,[.pointer none]⟩),
 (277,⟨.ot,1,8,[.nilFunc]⟩),
 (278,⟨.st [(0,9),(1,3),(2,3),(3,5),(4,5)],5,40,[.string ⟨#[]⟩,.int .i64 0,.int .i64 0,.int .u8 0,.int .u8 0]⟩),
 (279,⟨.st [(0,9),(1,3),(2,3),(3,5),(4,5)],5,40,[.string ⟨#[]⟩,.int .i64 0,.int .i64 0,.int .u8 0,.int .u8 0]⟩),
 (280,⟨.ot,1,8,[.nilFunc]⟩),
 (281,⟨.ot,1,8,[.nilFunc]⟩),
 (282,⟨.ot,1,8,[.nilFunc]⟩),
 (283,⟨.ot,1,8,[.nilFunc]⟩),
 (284,⟨.ot,1,8,[.nilFunc]⟩),
 (285,⟨.ot,1,8,[.nilFunc]⟩),
 (286,⟨.ot,1,8,[.nilFunc]⟩),
 (287,⟨.ot,1,8,[.nilFunc]⟩),
 (291,⟨.ot,1,8,[.nilFunc]⟩),
 (292,⟨.ot,1,8,[.nilFunc]⟩),
 (293,⟨.pt 289,1,8,[.pointer none]⟩),
 (294,⟨.st [(0,25)],2,16,[.int .i64 0,.int .i64 0]⟩),
 (295,⟨.ot,1,8,[.nilFunc]⟩),
 (296,⟨.ot,1,8,[.nilFunc]⟩),
 (297,⟨.ot,1,8,[.nilFunc]⟩),
 (298,⟨.ot,1,8,[.nilFunc]⟩),
 (299,⟨.ot,1,8,[.nilFunc]⟩),
 (300,⟨.ot,1,8,[.nilFunc]⟩),
 (301,⟨.pt 303,1,8,[.pointer none]⟩),
 (302,⟨.st [(0,301),(1,76)],2,32,[.pointer none,.slice none 0 0]⟩),
 (303,⟨.st [(0,301),(1,76)],2,32,[.pointer none,.slice none 0 0]⟩),
 (304,⟨.ot,1,16,[.nilIface]⟩),
 (305,⟨.ot,1,16,[.nilIface]⟩),
 (307,⟨.ot,1,8,[.nilFunc]⟩),
 (308,⟨.pt 337,1,8,[.pointer none]⟩),
 (309,⟨.ot,1,8,[.nilFunc]⟩),
 (310,⟨.ot,1,8,[.nilFunc]⟩),
 (311,⟨.ot,1,8,[.nilFunc]⟩),
 (313,⟨.ot,1,8,[.nilFunc]⟩),
 (314,⟨.ot,1,8,[.nilFunc]⟩),
 (315,⟨.ot,1,8,[.nilFunc]⟩),
 (316,⟨.ot,1,8,[.nilFunc]⟩),
 (318,⟨.ot,1,8,[.nilFunc]⟩),
 (319,⟨.ot,1,8,[.nilFunc]⟩),
 (320,⟨.sl 21,1,24,[.slice none 0 0]⟩),
 (321,⟨.ot,1,8,[.nilFunc]⟩),
 (322,⟨.ot,1,8,[.nilFunc]⟩),
 (323,⟨.st [],0,0,[]⟩),
 (324,⟨.st [],0,0,[]⟩),
 (325,⟨.st [],0,0,[]⟩),
 (326,⟨.st [(0,325),(0,183)],1,4,[.int .u32 0]⟩),
 (327,⟨.st [(0,325),(0,183)],1,4,[.int .u32 0]⟩),
 (328,⟨.st [(0,21),(1,183)],2,8,[.int .i32 0,.int .u32 0]⟩),
 (329,⟨.st [(0,21),(1,183)],2,8,[.int .i32 0,.int .u32 0]⟩),
 (330,⟨.st [(0,324),(0,329)],2,8,[.int .i32 0,.int .u32 0]⟩),
 (331,⟨.st [(0,324),(0,329)],2,8,[.int .i32 0,.int .u32 0]⟩),
 (332,⟨.st [(0,324),(0,327),(1,331)],3,12,[.int .u32 0,.int .i32 0,.int .u32 0]⟩),
 (333,⟨.st [(0,324),(0,327),(1,331)],3,12,[.int .u32 0,.int .i32 0,.int .u32 0]⟩),
 (334,⟨.ot,1,16,[.nilIface]⟩),
 (335,⟨.ot,1,16,[.nilIface]⟩),
 (336,⟨.st [(0,333),(3,335),(4,22)],5,56,[.int .u32 0,.int .i32 0,.int .u32 0,.nilIface,.slice none 0 0]⟩),
 (337,⟨.st [(0,333),(3,335),(4,22)],5,56,[.int .u32 0,.int .i32 0,.int .u32 0,.nilIface,.slice none 0 0]⟩),
 (338,⟨.ot,1,8,[.nilFunc]⟩),
 (339,⟨.pt 5,1,8,[.pointer none]⟩),
 (340,⟨.ot,1,8,[.nilFunc]⟩),
 (341,⟨.ot,1,8,[.nilFunc]⟩),
 (343,⟨.ot,1,8,[.nilFunc]⟩),
 (345,⟨.ot,1,8,[.nilFunc]⟩),
 (346,⟨.pt 333,1,8,[.pointer none]⟩),
 (347,⟨.ot,1,8,[.nilFunc]⟩),
 (348,⟨.in_ .i64,1,8,[.int .i64 0]⟩),
 (349,⟨.ot,1,8,[.nilFunc]⟩),
 (350,⟨.pt 371,1,8,[.pointer none]⟩),
 (351,⟨.ot,1,8,[.nilFunc]⟩),
 (352,⟨.ot,1,8,[.nilFunc]⟩),
 (353,⟨.ot,1,8,[.nilFunc]⟩),
 (355,⟨.ot,1,8,[.nilFunc]⟩),
 (356,⟨.pt 327,1,8,[.pointer none]⟩),
 (357,⟨.ot,1,8,[.nilFunc]⟩),
 (358,⟨.pt 183,1,8,[.pointer none]⟩),
 (359,⟨.ot,1,8,[.nilFunc]⟩),
 (360,⟨.pt 380,1,8,[.pointer none]⟩),
 (361,⟨.ot,1,8,[.nilFunc]⟩),
 (362,⟨.pt 386,1,8,[.pointer none]⟩),
 (363,⟨.ot,1,8,[.nilFunc]⟩),
 (365,⟨.pt 364,1,8,[.pointer none]⟩),
 (369,⟨.pt 368,1,8,[.pointer none]⟩),
 (370,⟨.st [(0,9),(1,9),(2,305)],3,48,[.string ⟨#[]⟩,.string ⟨#[]⟩,.nilIface]⟩),
 (371,⟨.st [(0,9),(1,9),(2,305)],3,48,[.string ⟨#[]⟩,.string ⟨#[]⟩,.nilIface]⟩),
 (372,⟨.ot,1,8,[.nilFunc]⟩),
 (373,⟨.ot,1,8,[.nilFunc]⟩),
 (374,⟨.pt 331,1,8,[.pointer none]⟩),
 (375,⟨.ot,1,8,[.nilFunc]⟩),
 (376,⟨.ot,1,8,[.nilFunc]⟩),
 (377,⟨.pt 399,1,8,[.pointer none]⟩),
 (378,⟨.ot,1,8,[.nilFunc]⟩),
 (379,⟨.st [(0,377),(1,9)],2,24,[.pointer none,.string ⟨#[]⟩]⟩),
 (380,⟨.st [(0,377),(1,9)],2,24,[.pointer none,.string ⟨#[]⟩]⟩),
 (381,⟨.pt 384,1,8,[.pointer none]⟩),
 (382,⟨.sl 381,1,24,[.slice none 0 0]⟩),
 (383,⟨.st [(0,9),(1,3),(2,9),(3,381),(4,382)],5,72,[.string ⟨#[]⟩,.int .i64 0,.string ⟨#[]⟩,.pointer none,.slice none 0 0]⟩),
 (384,⟨.st [(0,9),(1,3),(2,9),(3,381),(4,382)],5,72,[.string ⟨#[]⟩,.int .i64 0,.string ⟨#[]⟩,.pointer none,.slice none 0 0]⟩),
 (387,⟨.ot,1,8,[.nilFunc]⟩),
 (388,⟨.pt 390,1,8,[.pointer none]⟩),
 (389,⟨.st [(0,9)],1,16,[.string ⟨#[]⟩]⟩),
 (390,⟨.st [(0,9)],1,16,[.string ⟨#[]⟩]⟩),
 (391,⟨.pt 329,1,8,[.pointer none]⟩),
 (392,⟨.ot,1,8,[.nilFunc]⟩),
 (393,⟨.pt 21,1,8,[.pointer none]⟩),
 (394,⟨.ot,1,8,[.nilFunc]⟩),
 (395,⟨.ot,1,8,[.nilFunc]⟩),
 (396,⟨.ot,1,8,[.nilFunc]⟩),
 (400,⟨.ot,1,8,[.nilFunc]⟩),
 (401,⟨.ot,1,8,[.nilFunc]⟩),
 (402,⟨.st [(0,17),(1,17),(2,17),(3,9)],4,40,[.pointer none,.pointer none,.pointer none,.string ⟨#[]⟩]⟩),
 (403,⟨.st [(0,17),(1,17),(2,17),(3,9)],4,40,[.pointer none,.pointer none,.pointer none,.string ⟨#[]⟩]⟩),
 (404,⟨.ar 0 16,0,0,[]⟩),
 (405,⟨.st [(0,404)],0,0,[]⟩),
 (406,⟨.st [(0,404)],0,0,[]⟩),
 (407,⟨.in_ .u8,1,1,[.int .u8 0]⟩),
 (408,⟨.in_ .u8,1,1,[.int .u8 0]⟩),
 (409,⟨.ot,1,8,[.nilFunc]⟩),
 (410,⟨.in_ .i32,1,4,[.int .i32 0]⟩),
 (411,⟨.in_ .i32,1,4,[.int .i32 0]⟩),
 (412,⟨.st [(0,12),(1,12),(2,183),(3,407),(4,5),(5,5),(6,408),(7,409),(8,339),(9,410),(10,411)],11,48,[.int .u64 0,.int .u64 0,.int .u32 0,.int .u8 0,.int .u8 0,.int .u8 0,.int .u8 0,.nilFunc,.pointer none,.int .i32 0,.int .i32 0]⟩),
 (413,⟨.st [(0,12),(1,12),(2,183),(3,407),(4,5),(5,5),(6,408),(7,409),(8,339),(9,410),(10,411)],11,48,[.int .u64 0,.int .u64 0,.int .u32 0,.int .u8 0,.int .u8 0,.int .u8 0,.int .u8 0,.nilFunc,.pointer none,.int .i32 0,.int .i32 0]⟩),
 (414,⟨.ot,1,8,[.nilFunc]⟩),
 (415,⟨.sl 5,1,24,[.slice none 0 0]⟩),
 (416,⟨.pt 415,1,8,[.pointer none]⟩),
 (417,⟨.ot,1,16,[.nilIface]⟩),
 (418,⟨.ot,1,16,[.nilIface]⟩),
 (419,⟨.ot,1,16,[.nilIface]⟩),
 (420,⟨.ot,1,16,[.nilIface]⟩),
 (421,⟨.ot,1,8,[.nilFunc]⟩),
 (423,⟨.ot,1,8,[.nilFunc]⟩),
 (425,⟨.st [(0,418)],1,16,[.nilIface]⟩),
 (426,⟨.st [(0,418)],1,16,[.nilIface]⟩),
 (427,⟨.ot,1,8,[.nilFunc]⟩)]
instance tys : Tys Tryz.prog tt := tys_of (by kernel_rfl) (by kernel_rfl)
end Go.Proofs.YtjpaaaecbgmcgaaGreatDoor
namespace Go.Proofs.YtjpaaaecbgmcgaaGreatDoor
open Go.RowKit
abbrev di (n : Int) : SV := .d (.u (.int .i64 n))
abbrev db (b : Bool) : SV := .d (.u (.bool b))
abbrev dby (n : Int) : SV := .d (.u (.int .u8 n))
abbrev dsr (s : ByteArray) : SV := .d (.u (.str s))
end Go.Proofs.YtjpaaaecbgmcgaaGreatDoor
namespace Go.Proofs.YtjpaaaecbgmcgaaGreatDoor
open Go.RowKit
def digB (c : Int) : Bool := decide (48 ≤ c) && decide (c ≤ 57)
theorem digit_R (c : Int) : CallsA Tryz.prog 41 [dby c] [] (Is (db (digB c))) := by
 by_cases h1 : 48 ≤ c
 ·have e : digB c = decide (c ≤ 57) := by simp [digB,h1]
  rw [e]
  refine callsA_of_vc (T := tt) Tryz.func41 rfl rfl rfl rfl rfl ?_
  repeat' ((conv => whnf);first | refine Gs.id ?_ | refine Brn.T (by (try simp only [smT]);first | rfl | assumption | fail) ?_ | fail)
  all_goals (conv => whnf)
  all_goals exact Ret.is rfl
 ·have e : digB c = false := by simp [digB,h1]
  rw [e]
  refine callsA_of_vc (T := tt) Tryz.func41 rfl rfl rfl rfl rfl ?_
  repeat' ((conv => whnf);first | refine Gs.id ?_ | refine Brn.F (by (try simp only [smT]);first | rfl | omega | fail) ?_ | fail)
  all_goals (conv => whnf)
  all_goals exact Ret.is rfl
def splitB (s : ByteArray) (c : UInt8) : Nat → List ByteArray × Nat
 | 0 => ([],0)
 | i + 1 => if i = s.size ∨ s.data[i]? = some c then ((splitB s c i).1 ++ [s.extract (splitB s c i).2 i],i + 1) else splitB s c i
theorem splitB_le (s : ByteArray) (c : UInt8) : ∀ i,(splitB s c i).1.length ≤ i ∧ (splitB s c i).2 ≤ i
 | 0 => by simp [splitB]
 | i + 1 => by
  have := splitB_le s c i
  rw [splitB]
  split
  ·simp;omega
  ·omega
abbrev strs (l : List ByteArray) : List (List V) := l.map fun s => [V.str s]
theorem splitB_ne (s : ByteArray) (c : UInt8) : (splitB s c (s.size + 1)).1 ≠ [] := by
 rw [splitB,if_pos (.inl rfl)];simp
set_option maxHeartbeats 1000000 in
theorem split_R (s : ByteArray) (c : UInt8) (hs : s.size ≤ 1000000000000) : CallsA Tryz.prog 37 [dsr s,dby c.toNat] [] (Is (.d (.u (.sl 1 (strs (splitB s c (s.size + 1)).1))))) := by
 refine callsA_of_vc (T := tt) Tryz.func37 rfl rfl rfl rfl rfl ?_
 repeat' ((conv => whnf);first | refine Gs.id ?_ | fail)
 all_goals (conv => whnf)
 refine ⟨⟨Nat,fun i => i ≤ s.size + 1,fun i => s.size + 1 - i,fun i => match (splitB s c i).1 with
  | [] => ⟨[(0,dsr s),(1,dby c.toNat),(5,.d (.u .nl)),(6,di (splitB s c i).2),(7,di i)],[]⟩
  | x :: r => ⟨[(0,dsr s),(1,dby c.toNat),(5,.d (.ow 900 (x :: r).length)),(6,di (splitB s c i).2),(7,di i)],[(900,.ar 9 1 (strs (x :: r)))]⟩,0,Nat.zero_le _,⟨[],⟨by (try dsimp only);(repeat (refine LeT.cons rfl (by first | exact LeS.d (by first | exact LeD.u rfl | fail) | fail) ?_));exact LeT.nil,by (try dsimp only);repeat (first | exact LeO.nil | fail)⟩⟩,fun i hi => ?_⟩⟩
 dsimp only at hi ⊢
 obtain ⟨q1,q2⟩ := splitB_le s c i
 have hst := splitB.eq_2 s c i
 have hne := splitB_ne s c
 obtain ⟨L,fr,hL⟩ : ∃ L fr,splitB s c i = (L,fr) := ⟨_,_,rfl⟩
 rw [hL] at q1 q2 hst ⊢
 dsimp only at q1 q2 hst ⊢
 by_cases h9 : i < s.size
 ·have hget : s.data[i]? = some s[i] := by simp [ByteArray.getElem_eq_getElem_data,h9]
  by_cases hc : s[i] = c
  ·rw [if_pos (.inr (by rw [hget,hc]))] at hst
   cases L with
   | nil =>
    dsimp only
    repeat' ((conv => whnf);first | refine Sbx.mk ⟨i,h9,rfl,?_⟩ | refine Slc.mk ⟨fr,i,rfl,rfl,by omega,by omega,?_⟩ | refine Gs.id ?_ | refine Brn.T (by (try simp only [smT]);first | rfl | omega | (simp only [*];done) | fail) ?_ | refine Brn.F (by (try simp only [smT]);first | rfl | omega | fail) ?_ | (refine Bnd.mk (fun hm => ?_);(try simp only [smT] at hm)) | refine Rng.mk (by (try simp only [smT]);omega) ?_ | refine Apd.mk (by first | rfl | fail) (by first | rfl | fail) (by (try simp only [smT]);first | omega | fail) (by unfold maxLen;first | (simp;done) | fail) ?_ | fail)
    all_goals (conv => whnf)
    all_goals
     refine ⟨i + 1,by omega,by omega,[(900,.k 31)],?_⟩
     rw [hst]
     exact ⟨by (try dsimp only);(repeat (refine LeT.cons rfl (by first | exact LeS.d (by first | exact LeD.u rfl | exact LeD.ow rfl rfl | fail) | fail) ?_));exact LeT.nil,by (try dsimp only);repeat (first | exact LeO.nil | refine LeO.ar rfl rfl (by first | rfl | fail) ?_ | fail)⟩
   | cons x r =>
    simp only [List.length_cons] at q1
    dsimp only
    repeat' ((conv => whnf);first | refine Sbx.mk ⟨i,h9,rfl,?_⟩ | refine Slc.mk ⟨fr,i,rfl,rfl,by omega,by omega,?_⟩ | refine Gs.id ?_ | refine Brn.T (by (try simp only [smT]);first | rfl | omega | (simp only [*];done) | fail) ?_ | refine Brn.F (by (try simp only [smT]);first | rfl | omega | fail) ?_ | (refine Bnd.mk (fun hm => ?_);(try simp only [smT] at hm)) | refine Rng.mk (by (try simp only [smT]);omega) ?_ | refine Apd.mk (by first | rfl | simp) (by first | rfl | fail) (by (try simp only [smT]);first | omega | fail) (by unfold maxLen;first | (simp;omega) | fail) ?_ | fail)
    all_goals (conv => whnf)
    all_goals
     refine ⟨i + 1,by omega,by omega,[(900,.k 31)],?_⟩
     rw [hst]
     exact ⟨by (try dsimp only);(repeat (refine LeT.cons rfl (by first | exact LeS.d (by first | exact LeD.u rfl | exact LeD.ow rfl (by simp) | fail) | fail) ?_));exact LeT.nil,by (try dsimp only);repeat (first | exact LeO.nil | refine LeO.ar rfl rfl (by first | simp) ?_ | fail)⟩
  ·have hcn : ¬ (s[i].toNat : Int) = (c.toNat : Int) := fun e => hc (UInt8.toNat_inj.1 (by omega))
   rw [if_neg (by rw [hget];simp;exact ⟨by omega,hc⟩)] at hst
   cases L with
   | nil =>
    dsimp only
    repeat' ((conv => whnf);first | refine Sbx.mk ⟨i,h9,rfl,?_⟩ | refine Gs.id ?_ | refine Brn.T (by (try simp only [smT]);first | rfl | omega | fail) ?_ | refine Brn.F (by (try simp only [smT]);first | rfl | assumption | omega | fail) ?_ | (refine Bnd.mk (fun hm => ?_);(try simp only [smT] at hm)) | refine Rng.mk (by (try simp only [smT]);omega) ?_ | fail)
    all_goals (conv => whnf)
    all_goals
     refine ⟨i + 1,by omega,by omega,[],?_⟩
     rw [hst]
     exact ⟨by (try dsimp only);(repeat (refine LeT.cons rfl (by first | exact LeS.d (by first | exact LeD.u rfl | fail) | fail) ?_));exact LeT.nil,by (try dsimp only);repeat (first | exact LeO.nil | fail)⟩
   | cons x r =>
    dsimp only
    repeat' ((conv => whnf);first | refine Sbx.mk ⟨i,h9,rfl,?_⟩ | refine Gs.id ?_ | refine Brn.T (by (try simp only [smT]);first | rfl | omega | fail) ?_ | refine Brn.F (by (try simp only [smT]);first | rfl | assumption | omega | fail) ?_ | (refine Bnd.mk (fun hm => ?_);(try simp only [smT] at hm)) | refine Rng.mk (by (try simp only [smT]);omega) ?_ | fail)
    all_goals (conv => whnf)
    all_goals
     refine ⟨i + 1,by omega,by omega,[(900,.k 900)],?_⟩
     rw [hst]
     exact ⟨by (try dsimp only);(repeat (refine LeT.cons rfl (by first | exact LeS.d (by first | exact LeD.u rfl | exact LeD.ow rfl rfl | fail) | fail) ?_));exact LeT.nil,by (try dsimp only);repeat (first | exact LeO.nil | refine LeO.ar rfl rfl (by first | rfl | fail) ?_ | fail)⟩
 ·by_cases h10 : i = s.size
  ·subst h10
   rw [if_pos (.inl rfl)] at hst
   cases L with
   | nil =>
    dsimp only
    repeat' ((conv => whnf);first | refine Slc.mk ⟨fr,s.size,rfl,rfl,by omega,by omega,?_⟩ | refine Gs.id ?_ | with_reducible refine Brn.T rfl ?_ | refine Brn.T (by (try simp only [smT]);first | rfl | omega | fail) ?_ | (refine Brn.mk (fun hb => ?_) (fun hb => ?_) <;> (try simp only [smT] at hb) <;> (try (exact absurd trivial hb)) <;> (try (exfalso;omega))) | (refine Bnd.mk (fun hm => ?_);(try simp only [smT] at hm)) | refine Rng.mk (by (try simp only [smT]);omega) ?_ | refine Apd.mk (by first | rfl | fail) (by first | rfl | fail) (by (try simp only [smT]);first | omega | fail) (by unfold maxLen;first | (simp;done) | fail) ?_ | fail)
    all_goals (conv => whnf)
    all_goals
     refine ⟨s.size + 1,by omega,by omega,[(900,.k 31)],?_⟩
     rw [hst]
     exact ⟨by (try dsimp only);(repeat (refine LeT.cons rfl (by first | exact LeS.d (by first | exact LeD.u rfl | exact LeD.ow rfl rfl | fail) | fail) ?_));exact LeT.nil,by (try dsimp only);repeat (first | exact LeO.nil | refine LeO.ar rfl rfl (by first | rfl | fail) ?_ | fail)⟩
   | cons x r =>
    simp only [List.length_cons] at q1
    dsimp only
    repeat' ((conv => whnf);first | refine Slc.mk ⟨fr,s.size,rfl,rfl,by omega,by omega,?_⟩ | refine Gs.id ?_ | with_reducible refine Brn.T rfl ?_ | refine Brn.T (by (try simp only [smT]);first | rfl | omega | fail) ?_ | (refine Brn.mk (fun hb => ?_) (fun hb => ?_) <;> (try simp only [smT] at hb) <;> (try (exact absurd trivial hb)) <;> (try (exfalso;omega))) | (refine Bnd.mk (fun hm => ?_);(try simp only [smT] at hm)) | refine Rng.mk (by (try simp only [smT]);omega) ?_ | refine Apd.mk (by first | rfl | simp) (by first | rfl | fail) (by (try simp only [smT]);first | omega | fail) (by unfold maxLen;first | (simp;omega) | fail) ?_ | fail)
    all_goals (conv => whnf)
    all_goals
     refine ⟨s.size + 1,by omega,by omega,[(900,.k 31)],?_⟩
     rw [hst]
     exact ⟨by (try dsimp only);(repeat (refine LeT.cons rfl (by first | exact LeS.d (by first | exact LeD.u rfl | exact LeD.ow rfl (by simp) | fail) | fail) ?_));exact LeT.nil,by (try dsimp only);repeat (first | exact LeO.nil | refine LeO.ar rfl rfl (by first | simp) ?_ | fail)⟩
  ·obtain rfl : i = s.size + 1 := by omega
   rw [hL] at hne ⊢
   dsimp only at hne ⊢
   cases L with
   | nil => exact absurd rfl hne
   | cons x r =>
    dsimp only
    repeat' ((conv => whnf);first | refine Gs.id ?_ | refine Brn.F (by (try simp only [smT]);first | rfl | omega | fail) ?_ | (refine Bnd.mk (fun hm => ?_);(try simp only [smT] at hm)) | refine Len.mk (by first | rfl | (simp;done) | fail) ?_ | fail)
    all_goals (conv => whnf)
    all_goals exact Ret.is rfl
end Go.Proofs.YtjpaaaecbgmcgaaGreatDoor
namespace Go.Proofs.YtjpaaaecbgmcgaaGreatDoor
open Go.RowKit
section
variable {c : Cx} {st : St} {tm : List (Nat × Value)} {F : Nat → Prop} {w0 w w' : World} {hp : List (Nat × Hb)} {ρ : Rho} {G : FG}
theorem Below.sameF (hw : Hp ⟨F,w0,hp⟩ w) (hb : Below w.heap.size w w') : Same F w0 w' :=
 hw.same.trans ⟨hb.os,hb.tape,hb.output,hb.size,fun k hk => hb.block k (hw.Flt hk)⟩
theorem Gd.newF (g : Gd c st tm ⟨F,w0,hp⟩ ρ G) (hw : Hp ⟨F,w0,hp⟩ w) (hb : Below w.heap.size w w') (hl : w.heap.size < w'.heap.size) : Gd c st tm ⟨fun x => F x ∨ x = w.heap.size,w',hp⟩ ρ (G.or fun x => x = w.heap.size) ∧ Hp ⟨fun x => F x ∨ x = w.heap.size,w',hp⟩ w' := by
 have s1 := Below.sameF hw hb
 have hz : Mz ⟨G,w0⟩ ⟨G.or fun x => x = w.heap.size,w'⟩ := ⟨fun _ h => .inl h,fun b hb => s1.block b (g.gF b hb),fun _ _ _ h => h⟩
 refine ⟨⟨fun b hb => .inl (g.fF b hb),g.fw.trans (s1.mono g.fF),fun b hb => hb.imp (g.gF b) id,fun b h2 => ?_,g.fm.or,fun j s hj => ?_,g.ob.mono hz .refl⟩,⟨Same.refl _ _,fun b h2 => ?_,fun b x hx => ?_,hw.nd,fun b x hx h2 => ?_⟩⟩
 ·rcases h2 with h2 | rfl
  ·exact g.gx b h2
  ·exact .inr fun h0 => Nat.lt_irrefl _ (hw.Flt (g.fF _ h0))
 ·obtain ⟨v,v1,v2⟩ := g.tm j s hj
  exact ⟨v,v1,v2.mono hz .refl⟩
 ·rcases h2 with h2 | rfl
  ·exact Nat.lt_of_lt_of_le (hw.Flt h2) hb.size
  ·exact hl
 ·have h1 := hw.blk b x hx
  exact h1.of_block (hb.block b h1.lt)
 ·rcases h2 with h2 | rfl
  ·exact hw.out b x hx h2
  ·exact Nat.lt_irrefl _ (hw.blk _ x hx).lt
end
theorem bytes_flat (l : List UInt8) : (l.map fun b => [V.int .u8 (b.toNat : Int)]).flatten = l.map fun b => V.int .u8 (b.toNat : Int) := by
 induction l with
 | nil => rfl
 | cons x r ih => simp [ih]
section
variable {P : Program} {T : List (Nat × Ty)} [hT : Tys P T] {nt : Nt} {ty : TypeId} {pos : String} {af : Array Edge} {gd : Option (Nat × Bool)} {K : Kt}
theorem Raw.convBytes {x : Operand} {t t2 d e : Nat} {s : ByteArray} {tmT : List (Nat × SV)} {ob : List (Nat × Ob)} {i i2 i3 : Ty} (hx : evT tmT x = some (.d (.u (.str s)))) (ht : lk t T = some i) (hk : i.k = .sr) (ht2 : lk t2 T = some i2) (hk2 : i2.k = .sl e) (ht3 : lk e T = some i3) (hk3 : i3.k = .in_ .u8) (hd : Nat.blt d nt = true) (k : K ((d,.d (.u (.sl 1 (s.data.toList.map fun b => [V.int .u8 (b.toNat : Int)])))) :: tmT) ob) : Raw P nt ⟨some d,.convert t t2 x,ty,pos,af,gd⟩ tmT ob K := ⟨fun Q c tm h ρ G g => by
 obtain ⟨vx,x1,x2⟩ := g.ev hx
 cases x2 with | d x2 => cases x2 with | u x2 => cases x2 with | str _ hs =>
 have ku := (hT.ok t i ht).kind
 rw [hk] at ku
 have ku : P.underlying t = some .string := ku
 have ku2 := (hT.ok t2 i2 ht2).kind
 rw [hk2] at ku2
 have ku2 : P.underlying t2 = some (.slice e) := ku2
 have ku3 := (hT.ok e i3 ht3).kind
 rw [hk3] at ku3
 have ku3 : P.underlying e = some (.int .u8) := ku3
 obtain ⟨F,w0,hp⟩ := h
 refine OpS.of_run hd fun a w ha hw => ?_
 have hrun := Go.Lib.run_convert_string_bytes w t t2 e s ku ku2 ku3
 have hsz := Go.Lib.bytesWorld_size w e s
 have hbel : Below w.heap.size w (Go.Lib.bytesWorld w e s) := ⟨by simp [Go.Lib.bytesWorld,World.freeze];rfl,by simp [Go.Lib.bytesWorld,World.freeze],by simp [Go.Lib.bytesWorld,World.freeze];rfl,by omega,fun j hj => Go.Lib.bytesWorld_at_old w e s j hj⟩
 obtain ⟨g2,hw2⟩ := Gd.newF g hw hbel (by omega)
 have hcap := grownCap_ge w s.size 0 e
 refine ⟨_,_,_,by simp [execOp,ha.ev x1,hrun],hw2,.of (g2.put (d := d) (s := .d (.u (.sl 1 (s.data.toList.map fun b => [V.int .u8 (b.toNat : Int)])))) (.d (.u (.sl (b := w.heap.size) (o := 0) (s.data.toList.map fun b => Value.int .u8 (b.toNat : Int)) (by simp) hcap hs (fun r hr => ?_) (fun _ => ⟨rfl,.inr rfl⟩) (by rw [bytes_flat];simp) (fun j u hu => ?_) ?_ (fun j y u hy hu => ?_))))) k⟩
 ·obtain ⟨b,_,rfl⟩ := List.mem_map.1 hr
  rfl
 ·rw [List.getElem?_map] at hu
  cases hb : s.data.toList[j]? with
  | none => rw [hb] at hu;simp at hu
  | some b =>
   rw [hb] at hu
   simp only [Option.map_some,Option.some.injEq] at hu
   subst hu
   have hj : j < s.size := by have := (List.getElem?_eq_some_iff.1 hb).1;simpa using this
   have := Go.Lib.bytesWorld_cell w e s j hj
   rw [List.getD_eq_getElem?_getD,hb] at this
   simpa using this
 ·refine List.all_eq_true.2 fun v hv => ?_
  obtain ⟨b,_,rfl⟩ := List.mem_map.1 hv
  rfl
 ·rw [bytes_flat,List.getElem?_map] at hy
  rw [List.getElem?_map] at hu
  cases hb : s.data.toList[j]? with
  | none => rw [hb] at hu;simp at hu
  | some b =>
   rw [hb] at hu hy
   simp only [Option.map_some,Option.some.injEq] at hu hy
   subst hu hy
   exact .int _ _⟩
end
end Go.Proofs.YtjpaaaecbgmcgaaGreatDoor
namespace Go.Proofs.YtjpaaaecbgmcgaaGreatDoor
open Go.RowKit
def chB (c : Int) : Bool := (decide (97 ≤ c) && decide (c ≤ 122)) || (decide (65 ≤ c) && decide (c ≤ 90)) || c == 95 || digB c
def okFrom (s : ByteArray) (i : Nat) : Bool := (s.data.toList.drop i).all fun b => chB (b.toNat : Int)
def nameB (s : ByteArray) : Bool := decide (0 < s.size) && decide (s.size ≤ 24) && !digB ((s.data[0]?.getD 0).toNat : Int) && okFrom s 0
theorem okFrom_step {s : ByteArray} {i : Nat} (h : i < s.size) : okFrom s i = (chB (s[i].toNat : Int) && okFrom s (i + 1)) := by
 have h' : i < s.data.toList.length := by simpa using h
 rw [okFrom,List.drop_eq_getElem_cons h',List.all_cons]
 rfl
theorem okFrom_end {s : ByteArray} : okFrom s s.size = true := by
 rw [okFrom,List.drop_eq_nil_of_le (by simp)];rfl
theorem toList_beq (a b : ByteArray) : (a.toList == b.toList) = decide (a = b) := by
 rw [ByteArray.toList_eq,ByteArray.toList_eq]
 by_cases h : a = b
 ·subst h;simp
 ·rw [decide_eq_false h]
  refine Bool.eq_false_iff.2 fun e => h ?_
  have e2 : a.data.toList = b.data.toList := by simpa using e
  obtain ⟨x⟩ := a
  obtain ⟨y⟩ := b
  have : x = y := Array.toList_inj.1 e2
  rw [this]
theorem str_nil {s : ByteArray} : (s.toList == (ByteArray.mk #[]).toList) = decide (s.size = 0) := by
 rw [toList_beq]
 by_cases h : s.size = 0
 ·obtain ⟨d⟩ := s
  have : d = #[] := Array.size_eq_zero_iff.1 h
  subst this;rfl
 ·rw [decide_eq_false h,decide_eq_false]
  intro e
  subst e
  exact h rfl
set_option maxHeartbeats 2000000 in
theorem name_R (s : ByteArray) : CallsA Tryz.prog 24 [dsr s] [] (Is (db (nameB s))) := by
 have hs0 := str_nil (s := s)
 by_cases h0 : s.size = 0
 ·have e : nameB s = false := by simp [nameB,h0]
  rw [decide_eq_true h0] at hs0
  rw [e]
  refine callsA_of_vc (T := tt) Tryz.func24 rfl rfl rfl rfl rfl ?_
  repeat' ((conv => whnf);first | refine Gs.id ?_ | with_reducible refine Brn.T rfl ?_ | refine Brn.T (by (try simp only [smT]);first | rfl | assumption | fail) ?_ | fail)
  all_goals (conv => whnf)
  all_goals exact Ret.is rfl
 ·rw [decide_eq_false h0] at hs0
  have hp : 0 < s.size := by omega
  have hg : s.data[0]?.getD 0 = s[0] := by simp [ByteArray.getElem_eq_getElem_data,hp]
  by_cases h1 : s.size ≤ 24
  ·have hd := digit_R (s[0].toNat : Int)
   by_cases h2 : digB (s[0].toNat : Int) = true
   ·have e : nameB s = false := by simp [nameB,hg,h2]
    rw [e]
    rw [h2] at hd
    refine callsA_of_vc (T := tt) Tryz.func24 rfl rfl rfl rfl rfl ?_
    repeat' ((conv => whnf);first | refine Sbx.mk ⟨0,hp,rfl,?_⟩ | refine Gs.id ?_ | with_reducible refine Brn.T rfl ?_ | refine Brn.F (by (try simp only [smT]);first | rfl | assumption | omega | fail) ?_ | (refine Bnd.mk (fun hm => ?_);(try simp only [smT] at hm)) | (refine CL.mk (Or.inl ?_);(conv => whnf);refine Cl.is (hd) rfl (by first | exact fun _ => rfl | fail) ?_) | fail)
    all_goals (conv => whnf)
    all_goals exact Ret.is rfl
   ·have h2 : digB (s[0].toNat : Int) = false := by simpa using h2
    have e : nameB s = okFrom s 0 := by rw [nameB,hg,h2,decide_eq_true hp,decide_eq_true h1];rfl
    rw [e]
    rw [h2] at hd
    refine callsA_of_vc (T := tt) Tryz.func24 rfl rfl rfl rfl rfl ?_
    repeat' ((conv => whnf);first | refine Sbx.mk ⟨0,hp,rfl,?_⟩ | refine Gs.id ?_ | with_reducible refine Brn.F rfl ?_ | refine Brn.F (by (try simp only [smT]);first | rfl | assumption | omega | fail) ?_ | (refine Bnd.mk (fun hm => ?_);(try simp only [smT] at hm)) | (refine CL.mk (Or.inl ?_);(conv => whnf);refine Cl.is (hd) rfl (by first | exact fun _ => rfl | fail) ?_) | fail)
    all_goals (conv => whnf)
    refine ⟨⟨Nat,fun i => i ≤ s.size ∧ okFrom s 0 = okFrom s i,fun i => s.size - i,fun i => ⟨[(0,dsr s),(3,di i)],[]⟩,0,⟨Nat.zero_le _,rfl⟩,⟨[],⟨by (try dsimp only);(repeat (refine LeT.cons rfl (by first | exact LeS.d (by first | exact LeD.u rfl | fail) | fail) ?_));exact LeT.nil,by (try dsimp only);repeat (first | exact LeO.nil | fail)⟩⟩,fun i hi => ?_⟩⟩
    obtain ⟨hi,he⟩ := hi
    dsimp only
    by_cases h9 : i < s.size
    ·rw [okFrom_step h9] at he
     have hdi := digit_R (s[i].toNat : Int)
     rw [he]
     clear he e hd hg h2
     generalize hx : (s[i].toNat : Int) = x at *
     by_cases hc : chB x = true
     ·rw [hc,Bool.true_and]
      repeat' ((conv => whnf);first | (refine Sbx.mk ⟨i,h9,rfl,?_⟩;rw [hx]) | refine Gs.id ?_ | with_reducible refine Brn.T rfl ?_ | with_reducible refine Brn.F rfl ?_ | refine Brn.T (by (try simp only [smT]);first | rfl | assumption | omega | fail) ?_ | refine Brn.F (by (try simp only [smT]);first | rfl | assumption | omega | fail) ?_ | (refine Brn.mk (fun hb => ?_) (fun hb => ?_) <;> (try simp only [smT] at hb) <;> (try (exact absurd trivial hb)) <;> (try (exfalso;omega))) | (refine Bnd.mk (fun hm => ?_);(try simp only [smT] at hm)) | refine Rng.mk (by (try simp only [smT]);omega) ?_ | (refine CL.mk (Or.inl ?_);(conv => whnf);refine Cl.is (hdi) rfl (by first | exact fun _ => rfl | fail) ?_) | fail)
      all_goals (conv => whnf)
      all_goals first
       | exact ⟨i + 1,⟨by omega,rfl⟩,by omega,[],⟨by (try dsimp only);(repeat (refine LeT.cons rfl (by first | exact LeS.d (by first | exact LeD.u rfl | fail) | fail) ?_));exact LeT.nil,by (try dsimp only);repeat (first | exact LeO.nil | fail)⟩⟩
       | (exfalso;simp [chB] at hc;simp_all;done)
       | (exfalso;simp [chB] at hc;simp_all;omega)
     ·have hc : chB x = false := by simpa using hc
      rw [hc,Bool.false_and]
      repeat' ((conv => whnf);first | (refine Sbx.mk ⟨i,h9,rfl,?_⟩;rw [hx]) | refine Gs.id ?_ | with_reducible refine Brn.T rfl ?_ | with_reducible refine Brn.F rfl ?_ | refine Brn.T (by (try simp only [smT]);first | rfl | assumption | omega | fail) ?_ | refine Brn.F (by (try simp only [smT]);first | rfl | assumption | omega | fail) ?_ | (refine Brn.mk (fun hb => ?_) (fun hb => ?_) <;> (try simp only [smT] at hb) <;> (try (exact absurd trivial hb)) <;> (try (exfalso;omega))) | (refine Bnd.mk (fun hm => ?_);(try simp only [smT] at hm)) | refine Rng.mk (by (try simp only [smT]);omega) ?_ | (refine CL.mk (Or.inl ?_);(conv => whnf);refine Cl.is (hdi) rfl (by first | exact fun _ => rfl | fail) ?_) | fail)
      all_goals (conv => whnf)
      all_goals first
       | exact Ret.is rfl
       | (exfalso;simp [chB] at hc;simp_all;done)
       | (exfalso;simp [chB] at hc;simp_all;omega)
    ·obtain rfl : i = s.size := by omega
     rw [he,okFrom_end]
     repeat' ((conv => whnf);first | refine Gs.id ?_ | refine Brn.F (by (try simp only [smT]);first | rfl | omega | fail) ?_ | (refine Bnd.mk (fun hm => ?_);(try simp only [smT] at hm)) | fail)
     all_goals (conv => whnf)
     all_goals exact Ret.is rfl
  ·have e : nameB s = false := by simp [nameB,h1]
   rw [e]
   refine callsA_of_vc (T := tt) Tryz.func24 rfl rfl rfl rfl rfl ?_
   repeat' ((conv => whnf);first | refine Gs.id ?_ | with_reducible refine Brn.T rfl ?_ | refine Brn.T (by (try simp only [smT]);first | rfl | omega | fail) ?_ | refine Brn.F (by (try simp only [smT]);first | rfl | assumption | fail) ?_ | (refine Bnd.mk (fun hm => ?_);(try simp only [smT] at hm)) | fail)
   all_goals (conv => whnf)
   all_goals exact Ret.is rfl
abbrev strs' (l : List ByteArray) : V := .sl 1 (strs l)
abbrev byR (s : ByteArray) : List (List V) := s.data.toList.map fun b => [V.int .u8 (b.toNat : Int)]
set_option maxHeartbeats 2000000 in
theorem isName_T (s : ByteArray) : CallsA Tryz.prog 38 [dsr s] [] (Is (db (nameB s))) := by
 have hs0 := str_nil (s := s)
 by_cases h0 : s.size = 0
 ·have e : nameB s = false := by simp [nameB,h0]
  rw [decide_eq_true h0] at hs0
  rw [e]
  refine callsA_of_vc (T := tt) Tryz.func38 rfl rfl rfl rfl rfl ?_
  repeat' ((conv => whnf);first | refine Gs.id ?_ | with_reducible refine Brn.T rfl ?_ | refine Brn.T (by (try simp only [smT]);first | rfl | assumption | fail) ?_ | fail)
  all_goals (conv => whnf)
  all_goals exact Ret.is rfl
 ·rw [decide_eq_false h0] at hs0
  have hp : 0 < s.size := by omega
  have hg : s.data[0]?.getD 0 = s[0] := by simp [ByteArray.getElem_eq_getElem_data,hp]
  by_cases h1 : s.size ≤ 24
  ·by_cases h2 : digB (s[0].toNat : Int) = true
   ·have e : nameB s = false := by simp [nameB,hg,h2]
    rw [e]
    simp only [digB,Bool.and_eq_true,decide_eq_true_eq] at h2
    obtain ⟨h2,h3⟩ := h2
    refine callsA_of_vc (T := tt) Tryz.func38 rfl rfl rfl rfl rfl ?_
    repeat' ((conv => whnf);first | refine Sbx.mk ⟨0,hp,rfl,?_⟩ | refine Gs.id ?_ | refine Brn.T (by (try simp only [smT]);first | rfl | assumption | fail) ?_ | refine Brn.F (by (try simp only [smT]);first | rfl | assumption | omega | fail) ?_ | (refine Bnd.mk (fun hm => ?_);(try simp only [smT] at hm)) | fail)
    all_goals (conv => whnf)
    all_goals exact Ret.is rfl
   ·have h2 : digB (s[0].toNat : Int) = false := by simpa using h2
    have e : nameB s = okFrom s 0 := by rw [nameB,hg,h2,decide_eq_true hp,decide_eq_true h1];rfl
    rw [e]
    have h3 : 48 ≤ (s[0].toNat : Int) → ¬ (s[0].toNat : Int) ≤ 57 := fun a b => by simp [digB] at h2;omega
    clear h2
    have key : ∀ (_ : True),True := fun _ => trivial
    have hc48 : (s[0].toNat : Int) < 48 ∨ 57 < (s[0].toNat : Int) := by
     by_cases q : 48 ≤ (s[0].toNat : Int)
     ·right;have := h3 q;omega
     ·left;omega
    clear h3 key
    generalize hx0 : (s[0].toNat : Int) = x0 at hc48
    refine callsA_of_vc (T := tt) Tryz.func38 rfl rfl rfl rfl rfl ?_
    repeat' ((conv => whnf);first | (refine Sbx.mk ⟨0,hp,rfl,?_⟩;rw [hx0]) | refine Raw.convBytes (T := tt) rfl rfl rfl rfl rfl rfl rfl rfl ?_ | refine Gs.id ?_ | with_reducible refine Brn.F rfl ?_ | refine Brn.T (by (try simp only [smT]);first | rfl | assumption | fail) ?_ | refine Brn.F (by (try simp only [smT]);first | rfl | assumption | omega | fail) ?_ | (refine Brn.mk (fun hb => ?_) (fun hb => ?_) <;> (try simp only [smT] at hb) <;> (try (exact absurd trivial hb)) <;> (try (exfalso;omega))) | (refine Bnd.mk (fun hm => ?_);(try simp only [smT] at hm)) | fail)
    all_goals (conv => whnf)
    all_goals
     refine ⟨⟨Nat,fun i => i ≤ s.size ∧ okFrom s 0 = okFrom s i,fun i => s.size - i,fun i => ⟨[(23,.d (.u (.sl 1 (byR s)))),(24,di s.size),(25,di i)],[]⟩,0,⟨Nat.zero_le _,rfl⟩,⟨[],⟨by (try dsimp only);(repeat (refine LeT.cons rfl (by first | exact LeS.d (by first | exact LeD.u rfl | exact LeD.u (by simp;done) | fail) | fail) ?_));exact LeT.nil,by (try dsimp only);repeat (first | exact LeO.nil | fail)⟩⟩,fun i hi => ?_⟩⟩
     obtain ⟨hi,he⟩ := hi
     dsimp only
     by_cases h9 : i < s.size
     ·rw [okFrom_step h9] at he
      rw [he]
      clear he e hg
      have hrow : ∀ {K : List V → Prop},K [V.int .u8 (s[i].toNat : Int)] → Ix (byR s) (i : Int) K := fun k => Ix.map rfl (by simpa using h9) k
      generalize hx : (s[i].toNat : Int) = x at *
      by_cases hc : chB x = true
      ·rw [hc,Bool.true_and]
       repeat' ((conv => whnf);first | refine hrow ?_ | refine Gs.id ?_ | with_reducible refine Brn.T rfl ?_ | with_reducible refine Brn.F rfl ?_ | refine Brn.T (by (try simp only [smT]);first | rfl | assumption | omega | fail) ?_ | refine Brn.F (by (try simp only [smT]);first | rfl | assumption | omega | fail) ?_ | (refine Brn.mk (fun hb => ?_) (fun hb => ?_) <;> (try simp only [smT] at hb) <;> (try (exact absurd trivial hb)) <;> (try (exfalso;omega))) | refine Rng.mk (by (try simp only [smT]);omega) ?_ | fail)
       all_goals (conv => whnf)
       all_goals first
        | exact ⟨i + 1,⟨by omega,rfl⟩,by omega,[],⟨by (try dsimp only);(repeat (refine LeT.cons rfl (by first | exact LeS.d (by first | exact LeD.u rfl | fail) | fail) ?_));exact LeT.nil,by (try dsimp only);repeat (first | exact LeO.nil | fail)⟩⟩
        | (exfalso;simp [chB,digB] at hc;simp_all;done)
        | (exfalso;simp [chB,digB] at hc;simp_all;omega)
      ·have hc : chB x = false := by simpa using hc
       rw [hc,Bool.false_and]
       repeat' ((conv => whnf);first | refine hrow ?_ | refine Gs.id ?_ | with_reducible refine Brn.T rfl ?_ | with_reducible refine Brn.F rfl ?_ | refine Brn.T (by (try simp only [smT]);first | rfl | assumption | omega | fail) ?_ | refine Brn.F (by (try simp only [smT]);first | rfl | assumption | omega | fail) ?_ | (refine Brn.mk (fun hb => ?_) (fun hb => ?_) <;> (try simp only [smT] at hb) <;> (try (exact absurd trivial hb)) <;> (try (exfalso;omega))) | refine Rng.mk (by (try simp only [smT]);omega) ?_ | fail)
       all_goals (conv => whnf)
       all_goals first
        | exact Ret.is rfl
        | (exfalso;simp [chB,digB] at hc;simp_all;done)
        | (exfalso;simp [chB,digB] at hc;simp_all;omega)
     ·obtain rfl : i = s.size := by omega
      rw [he,okFrom_end]
      repeat' ((conv => whnf);first | refine Gs.id ?_ | refine Brn.F (by (try simp only [smT]);first | rfl | omega | fail) ?_ | fail)
      all_goals (conv => whnf)
      all_goals exact Ret.is rfl
  ·have e : nameB s = false := by simp [nameB,h1]
   rw [e]
   refine callsA_of_vc (T := tt) Tryz.func38 rfl rfl rfl rfl rfl ?_
   repeat' ((conv => whnf);first | refine Gs.id ?_ | with_reducible refine Brn.T rfl ?_ | refine Brn.T (by (try simp only [smT]);first | rfl | omega | fail) ?_ | refine Brn.F (by (try simp only [smT]);first | rfl | assumption | fail) ?_ | (refine Bnd.mk (fun hm => ?_);(try simp only [smT] at hm)) | fail)
   all_goals (conv => whnf)
   all_goals exact Ret.is rfl
theorem isName_T' (s : ByteArray) : CallsA Tryz.prog 20 [dsr s] [] (Is (db (nameB s))) := by
 have h := isName_T s
 refine callsA_of_vc (T := tt) Tryz.func20 rfl rfl rfl rfl rfl ?_
 repeat' ((conv => whnf);first | refine Gs.id ?_ | (refine CL.mk (Or.inl ?_);(conv => whnf);refine Cl.is (h) rfl (by first | exact fun _ => rfl | fail) ?_) | fail)
 all_goals (conv => whnf)
 all_goals exact Ret.is rfl
end Go.Proofs.YtjpaaaecbgmcgaaGreatDoor
namespace Go.Proofs.YtjpaaaecbgmcgaaGreatDoor
open Go.RowKit
def mfV : V → Bool
 | .sl _ _ => false
 | .cl _ _ => false
 | .fz _ _ => false
 | _ => true
def MfE : E → Prop
 | .v x => mfV x = true
 | .os _ _ rs => ∀ r ∈ rs,∀ x ∈ r,mfV x = true
 | .hl => True
def MfO (ob : List (Nat × Ob)) : Prop := ∀ p ∈ ob,∃ t rs,p.2 = .fm t rs ∧ ∀ row ∈ rs,∀ e ∈ row,MfE e
def MfS (s : SV) : Prop := ∃ x,s = .d (.u x) ∧ mfV x = true
theorem DenV.mf {z z' : Fz} (hG : z'.G.fam = z.G.fam) {x : V} {v : Value} (hf : mfV x = true) (h : DenV z x v) : DenV z' x v := by
 cases h with
 | sl => cases hf
 | cl => cases hf
 | fz => cases hf
 | int => exact .int _ _
 | bool => exact .bool _
 | str _ hs => exact .str _ hs
 | nl => exact .nl
 | pn => exact .pn
 | fn => exact .fn
 | v h => exact .v h
 | m h => exact .m (by rw [hG];exact h)
theorem DenVL.mf {z z' : Fz} (hG : z'.G.fam = z.G.fam) {cs : List V} {us : List Value} (hf : ∀ x ∈ cs,mfV x = true) (h : DenVL z cs us) : DenVL z' cs us :=
 ⟨h.len,h.one,fun j d u e1 e2 => (h.den j d u e1 e2).mf hG (hf d (List.mem_of_getElem? e1))⟩
theorem CellOk.mf {ρ : Rho} {z z' : Fz} (hG : z'.G.fam = z.G.fam) {k i o : Nat} {e : E} {u : Value} {X : List (Nat × Hb)} (hf : MfE e) (h : CellOk ρ z k i o e u X) : CellOk ρ z' k i o e u X := by
 cases e with
 | v x => exact ⟨h.1,h.2.mf hG hf⟩
 | os ty sz rs =>
  obtain ⟨A,c,us,h1,h2,h3,h4,h5,h6⟩ := h
  refine ⟨A,c,us,h1,h2,h3,h4,h5.mf hG fun x hx => ?_,h6⟩
  obtain ⟨r,q1,q2⟩ := List.mem_flatten.1 hx
  exact hf r q1 x q2
 | hl => exact h
theorem CellsOk.mf {ρ : Rho} {z z' : Fz} (hG : z'.G.fam = z.G.fam) {k i o : Nat} {es : List E} {us : List Value} {X : List (Nat × Hb)} (h : CellsOk ρ z k i o es us X) : (∀ e ∈ es,MfE e) → CellsOk ρ z' k i o es us X := by
 induction h with
 | nil => exact fun _ => .nil
 | cons h1 _ ih => exact fun hf => .cons (h1.mf hG (hf _ (by simp))) (ih fun e he => hf e (by simp [he]))
theorem FamOk.mf {ρ : Rho} {z z' : Fz} (hG : z'.G.fam = z.G.fam) {k : Nat} {ty : TypeId} {i : Nat} {bs : List Nat} {rs : List (List E)} {X : List (Nat × Hb)} (h : FamOk ρ z k ty i bs rs X) : (∀ row ∈ rs,∀ e ∈ row,MfE e) → FamOk ρ z' k ty i bs rs X := by
 induction h with
 | nil => exact fun _ => .nil
 | cons h1 _ ih => exact fun hf => .cons (h1.mf hG (hf _ (by simp))) (ih fun row hr => hf row (by simp [hr]))
theorem ObsOk.mf {ρ : Rho} {z z' : Fz} (hG : z'.G.fam = z.G.fam) (hO : z'.G.own = z.G.own) : ∀ {ob : List (Nat × Ob)} {hp : List (Nat × Hb)},MfO ob → ObsOk ρ z ob hp → ObsOk ρ z' ob hp
 | [],_,_,h => h
 | (k,o) :: r,hp,hf,⟨X,hp',h1,h2,h3⟩ => by
  refine ⟨X,hp',h1,?_,h3.mf hG hO fun p hp => hf p (by simp [hp])⟩
  obtain ⟨t,rs,e,q⟩ := hf (k,o) (by simp)
  dsimp only at e
  subst e
  obtain ⟨a1,a2⟩ := h2
  exact ⟨by rw [hG];exact a1.mf hG q,by rw [hO];exact a2⟩
section
variable {P : Program} {T : List (Nat × Ty)} {nt : Nt} {Q : Exit → Act → World → Prop} {c : Cx} {st : St} {tm : List (Nat × Value)} {h : Hs} {ρ : Rho} {G : FG} {ty : TypeId} {pos : String} {af : Array Edge} {gd : Option (Nat × Bool)} {K : Kt}
theorem callB_vals {f : FuncId} {ss : List SV} {obP obF : List (Nat × Ob)} {tmS tmK : List (Nat × SV)} {ns : List Nat} {QS : SV → List (Nat × Ob) → Prop} {F : Nat → Prop} {w0 : World} {hpP hpF : List (Nat × Hb)} (g : Gd c ⟨tmS,obP ++ obF⟩ tm ⟨F,w0,hpP ++ hpF⟩ ρ G) (oP : ObsOk ρ ⟨G,w0⟩ obP hpP) (oF : ObsOk ρ ⟨G,w0⟩ obF hpF) {vs : List Value} (a2 : vs.length = ss.length) (a3 : ∀ w,Hp ⟨F,w0,hpF⟩ w → ∀ (j : Nat) s v,ss[j]? = some s → vs[j]? = some v → DenS ρ ⟨G.or (Bl hpF),w⟩ s v) (hk : ∀ k s,lk k tmK = some s → lk k tmS = some s)
  (h1 : okTm (fun k => !inN ns k) tmK = true) (h2 : okO (fun k => !inN ns k) obF = true) (h3 : okO (inN ns) obP = true) (hc : CallsA P f ss obP QS) (hmf : ∀ s ob',QS s ob' → MfS s ∧ MfO ob') :
  ∀ w,Hp ⟨F,w0,hpP ++ hpF⟩ w → Calls P f vs.toArray w fun e w' => ∃ v h' s ob' ρ' G',e = .returned v ∧ Hp h' w' ∧ QS s ob' ∧ (s.okP (inN ns) = true → okO (inN ns) ob' = true → DenS ρ' ⟨G',h'.w0⟩ s v ∧ Gd c ⟨tmK,ob' ++ obF⟩ tm h' ρ' G') := by
 intro w hw
 have hwF : Hp ⟨F,w0,hpF⟩ w := hw.sub (List.sublist_append_right _ _)
 have hnd := hw.nd
 rw [List.map_append,List.nodup_append] at hnd
 have hbF : ∀ b,Bl hpF b → ¬ F b := fun b ⟨x,hx⟩ => hw.out b x (List.mem_append_right _ hx)
 have hPF : ∀ b x,(b,x) ∈ hpP → ¬ Bl hpF b := fun b x hx ⟨y,hy⟩ => hnd.2.2 b (List.mem_map_of_mem (f := Prod.fst) hx) b (List.mem_map_of_mem (f := Prod.fst) hy) rfl
 have hm0 : Mz ⟨G,w0⟩ ⟨⟨fun b => G b ∨ Bl hpF b,G.fam,famIn obP⟩,w⟩ := ⟨fun _ h => .inl h,fun b hb => hw.same.block b (g.gF b hb),fun _ _ _ h => h⟩
 have hm1 : Mz ⟨G.or (Bl hpF),w⟩ ⟨⟨fun b => G b ∨ Bl hpF b,G.fam,famIn obP⟩,w⟩ := ⟨fun _ h => h,fun b hb => rfl,fun _ _ _ h => h⟩
 refine (hc.out ⟨fun b => F b ∨ Bl hpF b,w,⟨fun b => G b ∨ Bl hpF b,G.fam,famIn obP⟩⟩ ρ hpP vs w ⟨Same.refl _ _,fun b hb => ?_,fun b x hx => hw.blk b x (List.mem_append_left _ hx),hnd.1,fun b x hx hb => ?_⟩ a2 ⟨fun _ h => h,Same.refl _ _,fun b hb => hb.imp (g.gF b) id,fun b hb => .inl hb,.refl _,fun k s hk => ?_,?_⟩).mono ?_
 ·rcases hb with hb | ⟨x,hx⟩
  ·exact hw.Flt hb
  ·exact (hw.blk b x (List.mem_append_right _ hx)).lt
 ·rcases hb with hb | hb
  ·exact hw.out b x (List.mem_append_left _ hx) hb
  ·exact hPF b x hx hb
 ·obtain ⟨q1,q2⟩ := lk_slT hk
  have hlt : k - 0 < vs.length := by rw [a2];exact (List.getElem?_eq_some_iff.1 q2).1
  exact ⟨vs[k - 0],lk_slots q1 (List.getElem?_eq_getElem hlt),(a3 w hwF _ s _ q2 (List.getElem?_eq_getElem hlt)).mono hm1 .refl⟩
 ·refine oP.monoF hm0 .refl fun k o hm => ?_
  refine Fms.of fun t rs e => ?_
  subst e
  exact ⟨rfl,fun _ => ⟨_,_,hm⟩⟩
 ·rintro e w' ⟨v,h',s,ob',ρ',G',rfl,hw',g',hq⟩
  obtain ⟨⟨x0,rfl,hx0⟩,hmo⟩ := hmf s ob' hq
  obtain ⟨v',e1,e2⟩ := g'.tm 0 _ rfl
  simp only [lk,Nat.beq_refl,cond_true,Option.some.injEq] at e1
  subst e1
  have hkeep : ∀ b,F b ∨ Bl hpF b → w'.heap[b]? = w.heap[b]? := fun b hb => (hw'.same.block b (g'.fF b hb)).trans (g'.fw.block b hb)
  let ρ2 : Rho := ⟨fun k => if inN ns k = true then ρ' k else ρ k,fun k => if inN ns k = true then ρ'.os k else ρ.os k⟩
  let GN : FG := ⟨fun b => G' b ∧ ¬ Bl hpF b,G'.fam,G'.own⟩
  let G2 : FG := ⟨fun b => G b ∨ (G' b ∧ ¬ Bl hpF b),G'.fam,G.own⟩
  have hob' : ObsOk ρ' ⟨GN,h'.w0⟩ ob' h'.hp := ObsOk.mf (z := ⟨G',h'.w0⟩) (z' := ⟨GN,h'.w0⟩) rfl rfl hmo g'.ob
  have hsv : DenS ρ' ⟨GN,h'.w0⟩ (.d (.u x0)) v := by
   cases e2 with | d e2 => cases e2 with | u e2 => exact .d (.u (DenV.mf (z := ⟨G',h'.w0⟩) (z' := ⟨GN,h'.w0⟩) rfl hx0 e2))
  refine ⟨v,⟨fun b => h'.F b ∧ ¬ Bl hpF b,h'.w0,h'.hp ++ hpF⟩,_,ob',ρ2,G2,rfl,⟨hw'.same.mono fun _ hb => hb.1,fun b hb => hw'.inF b hb.1,fun b x hx => ?_,?_,fun b x hx hb => ?_⟩,hq,fun hs ho => ⟨?_,?_⟩⟩
  ·rcases List.mem_append.1 hx with hx | hx
   ·exact hw'.blk b x hx
   ·exact (hw.blk b x (List.mem_append_right _ hx)).of_block (hkeep b (.inr ⟨x,hx⟩))
  ·rw [List.map_append,List.nodup_append]
   refine ⟨hw'.nd,hnd.2.1,fun a ha b hb hab => ?_⟩
   subst hab
   obtain ⟨⟨_,x⟩,hx,rfl⟩ := List.mem_map.1 ha
   obtain ⟨⟨_,y⟩,hy,hxy⟩ := List.mem_map.1 hb
   dsimp only at hxy
   subst hxy
   exact hw'.out _ x hx (g'.fF _ (.inr ⟨y,hy⟩))
  ·rcases List.mem_append.1 hx with hx | hx
   ·exact hw'.out b x hx hb.1
   ·exact hb.2 ⟨x,hx⟩
  ·refine DenS.okP (p := inN ns) (fun k hk => ?_) (fun k hk i o => ?_) hs (DenS.mono (z := ⟨GN,h'.w0⟩) (z' := ⟨G2,h'.w0⟩) ⟨fun _ hb => Or.inr hb,fun _ _ => rfl,fun _ _ _ h => h⟩ .refl hsv)
   ·simp only [ρ2,hk,if_true]
   ·simp only [ρ2,hk,if_true]
  ·have hm : Mz ⟨G,w0⟩ ⟨G2,h'.w0⟩ := ⟨fun _ hb => .inl hb,fun b hb => (g'.fw.block b (.inl (g.gF b hb))).trans (hw.same.block b (g.gF b hb)),fun k i b hb => g'.fm.gr k i b hb⟩
   have hno : ∀ k,(!inN ns k) = true → ¬ inN ns k = true := fun k hk => by simpa using hk
   have ee : ∀ k,(!inN ns k) = true → ρ2 k = ρ k := fun k hk => by show (if inN ns k = true then ρ' k else ρ k) = _;rw [if_neg (hno k hk)]
   have eo : ∀ k,(!inN ns k) = true → ∀ i o,ρ2.os k i o = ρ.os k i o := fun k hk i o => by show (if inN ns k = true then ρ'.os k else ρ.os k) i o = _;rw [if_neg (hno k hk)]
   have hfp : ∀ k,¬ famIn obP k → G'.fam k = G.fam k := fun k hk => g'.fm.eq k hk
   refine ⟨fun b hb => ⟨g'.fF b (.inl (g.fF b hb)),fun hbl => hbF b hbl (g.fF b hb)⟩,(g.fw.trans (hw.same.mono g.fF)).trans (g'.fw.mono fun b hb => .inl (g.fF b hb)),fun b hb => ?_,fun b hb => ?_,⟨g.fm.own,fun k hk => ?_,fun k i b hb => g'.fm.gr k i b (g.fm.gr k i b hb)⟩,fun k s0 hk0 => ?_,ObsOk.append ?_ ?_⟩
   ·rcases hb with hb | hb
    ·exact ⟨g'.fF b (.inl (g.gF b hb)),fun hbl => hbF b hbl (g.gF b hb)⟩
    ·exact ⟨g'.gF b hb.1,hb.2⟩
   ·rcases hb with hb | hb
    ·exact g.gx b hb
    ·rcases g'.gx b hb.1 with (q | q) | q
     ·exact g.gx b q
     ·exact absurd q hb.2
     ·exact .inr fun h0 => q (.inl (g.fF b h0))
   ·refine (hfp k fun hf => hk ?_).trans (g.fm.eq k hk)
    rw [← g.fm.own]
    exact oP.fam k hf
   ·obtain ⟨u,u1,u2⟩ := g.tm k s0 (hk k s0 hk0)
    exact ⟨u,u1,(u2.mono hm .refl).okP ee eo (okTm_get h1 k s0 hk0)⟩
   ·refine ObsOk.okP (p := inN ns) (fun k hk => ?_) (fun k hk i o => ?_) ho (ObsOk.monoF (z := ⟨GN,h'.w0⟩) (z' := ⟨G2,h'.w0⟩) ⟨fun _ hb => Or.inr hb,fun _ _ => rfl,fun _ _ _ h => h⟩ .refl (fun k o hm' => ?_) hob')
    ·simp only [ρ2,hk,if_true]
    ·simp only [ρ2,hk,if_true]
    ·cases o <;> simp only [Fms]
     refine ⟨rfl,fun hown => ?_⟩
     have hown' : famIn obP k := by have := hown;rwa [show GN.own = G'.own from rfl,g'.fm.own] at this
     exact oP.fam k hown'
   ·refine ObsOk.okP ee eo h2 (oF.monoF hm .refl fun k o hm' => ?_)
    refine Fms.of fun t rs e => ?_
    subst e
    refine ⟨hfp k fun ⟨t,rs,hf⟩ => ?_,id⟩
    have q1 := okO_mem h3 k _ hf
    have q2 := okO_mem h2 k _ hm'
    rw [q1] at q2
    cases q2
end
end Go.Proofs.YtjpaaaecbgmcgaaGreatDoor
namespace Go.Proofs.YtjpaaaecbgmcgaaGreatDoor
open Go.RowKit
section
variable {P : Program} {T : List (Nat × Ty)} [hT : Tys P T] {nt : Nt} {ty : TypeId} {pos : String} {af : Array Edge} {gd : Option (Nat × Bool)} {K : Kt}
omit hT in
theorem Raw.extSB {f : FuncId} {fn : Func} {e : Array Value → Sem Value} {x y : Operand} {ts : Array TypeId} {d : Nat} {st : ByteArray} {b r : Int} {tmT : List (Nat × SV)} {ob : List (Nat × Ob)} (hx : evT tmT x = some (.d (.u (.str st)))) (hy : evT tmT y = some (.d (.u (.int .u8 b)))) (hf : P.funcs[f]? = some fn) (hname : (fn.name == "runtime.NumGoroutine") = false) (hb : fn.body.isNone = true) (hn : Extern.findNext fn = none) (he : Extern.find fn = some e) (hr : ∀ w, (e #[.string st, .int .u8 b]).run P w = .ok (.int .i64 r) w) (hd : Nat.blt d nt = true) (k : K ((d, .d (.u (.int .i64 r))) :: tmT) ob) : Raw P nt ⟨some d, .call ⟨.value (.func f), #[x, y], ts⟩, ty, pos, af, gd⟩ tmT ob K := ⟨fun Q c tm h ρ G g => by
 obtain ⟨vx,x1,x2⟩ := g.ev hx
 cases x2 with | d x2 => cases x2 with | u x2 => cases x2 with | str _ hs =>
 have y1 := evT_int g hy
 refine OpS.yd (v := .int .i64 r) ⟨fun a w ha hw => ?_⟩ hd (.of (g.put (.d (.u (.int _ _)))) k)
 have hargs : #[x,y].map a.eval = #[.string st,.int .u8 b] := by simp [ha.ev x1,ha.ev y1]
 simp only [execOp,resolve,Sem.run_bind,hargs,Deferred.ofValue,Act.eval,invoke]
 simp [run_callFunc_extern hf hname hb hn he,hr]⟩
end
end Go.Proofs.YtjpaaaecbgmcgaaGreatDoor
namespace Go.Proofs.YtjpaaaecbgmcgaaGreatDoor
open Go.RowKit
section
variable {P : Program} {T : List (Nat × Ty)} [hT : Tys P T] {nt : Nt} {ty : TypeId} {pos : String} {af : Array Edge} {gd : Option (Nat × Bool)} {K : Kt}
end
end Go.Proofs.YtjpaaaecbgmcgaaGreatDoor
namespace Go.Proofs.YtjpaaaecbgmcgaaGreatDoor
open Go.RowKit
section
variable {P : Program} {T : List (Nat × Ty)} [hT : Tys P T] {nt : Nt} {Q : Exit → Act → World → Prop} {ty : TypeId} {pos : String} {af : Array Edge} {gd : Option (Nat × Bool)} {K : Kt}
end
end Go.Proofs.YtjpaaaecbgmcgaaGreatDoor
namespace Go.Proofs.YtjpaaaecbgmcgaaGreatDoor
open Go.RowKit
abbrev yv (l : Nat) : SV := .d (.u (.v (.func (.yield l) #[] #[])))
section
variable {P : Program} {T : List (Nat × Ty)} {nt : Nt} {ty : TypeId} {pos : String} {af : Array Edge} {gd : Option (Nat × Bool)} {K : Kt}
end
end Go.Proofs.YtjpaaaecbgmcgaaGreatDoor
namespace Go.Proofs.YtjpaaaecbgmcgaaGreatDoor
open Go.RowKit
section
variable {ρ ρ' : Rho} {z z' : Fz}
end
section
variable {ρ : Rho} {z z' : Fz}
end
instance : PanicOk (fun _ _ _ => False) := ⟨fun _ _ _ _ _ h => h,fun ⟨_,_,h⟩ => h⟩
instance {P : Program} {l : Nat} {R : Ending → World → Prop} : PanicOk (roundPost P l R) := ⟨fun _ _ _ _ _ h => h,fun ⟨_,_,h⟩ => h⟩
section
variable {P : Program} {T : List (Nat × Ty)} [hT : Tys P T]
end
end Go.Proofs.YtjpaaaecbgmcgaaGreatDoor
namespace Go.Proofs.YtjpaaaecbgmcgaaGreatDoor
open Go.RowKit
def runs (F : Fence) (n : Nat) (P : Program) : List Code → (Exit → Act → World → Prop) → Act → World → Prop
 | [],Q,a,w => Q .normal a w
 | b :: bs,Q,a,w => b.wpIn F n P (Exit.then (runs F n P bs Q) Q) a w
theorem runs_seq {F : Fence} {n : Nat} {P : Program} {x y : Code} {bs : List Code} {Q : Exit → Act → World → Prop} {a : Act} {w : World} (h : runs F n P (x :: y :: bs) Q a w) : runs F n P (.seq x y :: bs) Q a w := by
 refine wpIn_seq (wpIn_mono h fun e a w hq => ?_)
 cases e <;> exact hq
section
variable {P : Program} {T : List (Nat × Ty)} [hT : Tys P T]
def bodyQ (P : Program) (fn : Func) (R : Ending → World → Prop) : Exit → Act → World → Prop
 | .normal,a,w => LeavesInM (RF none) 0 P fn a.tmps R a.defers .returning w
 | .ret,a,w => LeavesInM (RF none) 0 P fn a.tmps R a.defers .returning w
 | _,_,_ => False
instance {P : Program} {fn : Func} {R : Ending → World → Prop} : PanicOk (bodyQ P fn R) := ⟨fun _ _ _ _ _ h => h,fun ⟨_,_,h⟩ => h⟩
end
end Go.Proofs.YtjpaaaecbgmcgaaGreatDoor
namespace Go.Proofs.YtjpaaaecbgmcgaaGreatDoor
open Go.RowKit
section
variable {P : Program} {T : List (Nat × Ty)} [hT : Tys P T] {nt : Nt} {Q : Exit → Act → World → Prop} {ty : TypeId} {pos : String} {af : Array Edge} {gd : Option (Nat × Bool)} {K : Kt}
end
end Go.Proofs.YtjpaaaecbgmcgaaGreatDoor
namespace Go.Proofs.YtjpaaaecbgmcgaaGreatDoor
open Go.RowKit
end Go.Proofs.YtjpaaaecbgmcgaaGreatDoor
namespace Go.Proofs.YtjpaaaecbgmcgaaGreatDoor
open Go.RowKit
section
variable {P : Program} {T : List (Nat × Ty)} [hT : Tys P T] {nt : Nt} {Q : Exit → Act → World → Prop} {ty : TypeId} {pos : String} {af : Array Edge} {gd : Option (Nat × Bool)} {K : Kt}
end
end Go.Proofs.YtjpaaaecbgmcgaaGreatDoor
namespace Go.Proofs.YtjpaaaecbgmcgaaGreatDoor
open Go.RowKit
theorem mem_inN : ∀ {ks : List Nat} {k : Nat},inN ks k = true → k ∈ ks
 | [],k,h => by cases h
 | j :: r,k,h => by
  simp only [inN] at h
  cases hb : Nat.beq k j
  ·rw [hb] at h;exact List.mem_cons_of_mem _ (mem_inN h)
  ·rw [Nat.eq_of_beq_eq_true hb];exact List.mem_cons_self
def noKey (ks : List Nat) : List (Nat × Ob) → Bool
 | [] => true
 | (k,_) :: r => bif inN ks k then false else noKey ks r
theorem noKey_mem {ks : List Nat} : ∀ {ob : List (Nat × Ob)},noKey ks ob = true → ∀ k o,(k,o) ∈ ob → inN ks k = false
 | [],_,k,o,hm => by cases hm
 | (j,x) :: r,h,k,o,hm => by
  simp only [noKey] at h
  cases hj : inN ks j <;> rw [hj] at h
  ·rcases List.mem_cons.1 hm with hm | hm
   ·cases hm;exact hj
   ·exact noKey_mem h k o hm
  ·cases h
structure CallsP (P : Program) (f : FuncId) (ss : List SV) (ob : List (Nat × Ob)) (ks : List Nat) (Q : SV → List (Nat × Ob) → Prop) : Prop where
 fn : FnOk P f
 out : ∀ (c : Cx) (ρ : Rho) (hp : List (Nat × Hb)) (vs : List Value) (w : World),Hp ⟨c.F,c.w,hp⟩ w → vs.length = ss.length → Gd c ⟨slT 0 ss,ob⟩ (slots 0 vs) ⟨c.F,c.w,hp⟩ ρ c.G →
  Calls P f vs.toArray w fun e w' => ∃ v h' s ob' ρ' G',e = .returned v ∧ Hp h' w' ∧ Gd c ⟨[(0,s)],ob'⟩ [(0,v)] h' ρ' G' ∧ Q s ob' ∧ ∀ k,inN ks k = true → ρ' k = ρ k ∧ ρ'.os k = ρ.os k
structure BkP (d : Option Tmp) (ns ks : List Nat) (tmK : List (Nat × SV)) (obF : List (Nat × Ob)) (K : Kt) (s : SV) (ob' : List (Nat × Ob)) : Prop where
 a : s.okP (fun k => bif inN ns k then true else inN ks k) = true
 b : okO (fun k => bif inN ns k then true else inN ks k) ob' = true
 k : K (match d with | some d => (d,s) :: tmK | none => tmK) (ob' ++ obF)
def norD : D → Bool
 | .r _ _ _ _ _ => false
 | .re _ _ _ _ _ => false
 | _ => true
section
variable {ρ ρ' : Rho} {z : Fz}
theorem Den.nor (e : ∀ k,ρ' k = ρ k) {d : D} {v : Value} (hd : norD d = true) (h : Den ρ z d v) : Den ρ' z d v := by
 cases h with
 | u h => exact .u h
 | ow h hA hc => exact .ow (by rw [e];exact h) hA hc
 | p h => exact .p (by rw [e];exact h)
 | e h => exact .e (by rw [e];exact h)
 | q hb hu hd' => exact .q hb hu hd'
 | fn us hl hu =>
  refine .fn us hl fun j i u h1 h2 => ?_
  obtain ⟨b,c,sz,h3,h4⟩ := hu j i u h1 h2
  exact ⟨b,c,sz,by rw [e];exact h3,h4⟩
 | mp h hA => exact .mp (by rw [e];exact h) hA
 | r => cases hd
 | re => cases hd
 | ows h hc => exact .ows (by rw [e];exact h) hc
 | any h1 => exact .any h1
theorem DenL.nor (e : ∀ k,ρ' k = ρ k) {cs : List D} {us : List Value} (hd : ∀ x ∈ cs,norD x = true) (h : DenL ρ z cs us) : DenL ρ' z cs us :=
 ⟨h.len,h.one,fun j d u h1 h2 => (h.den j d u h1 h2).nor e (hd d (List.mem_of_getElem? h1))⟩
theorem CellsOk.nor {k i o : Nat} {es : List E} {us : List Value} {X : List (Nat × Hb)} (h : CellsOk ρ z k i o es us X) : (∀ e ∈ es,∃ x,e = .v x) → CellsOk ρ' z k i o es us X := by
 induction h with
 | nil => exact fun _ => .nil
 | @cons o e u X es us Y h1 _ ih => exact fun hv => .cons (by obtain ⟨x,hx⟩ := hv e List.mem_cons_self;subst hx;exact h1) (ih fun e he => hv e (List.mem_cons_of_mem _ he))
theorem FamOk.nor {k : Nat} {ty : TypeId} {i : Nat} {bs : List Nat} {rs : List (List E)} {X : List (Nat × Hb)} (h : FamOk ρ z k ty i bs rs X) : (∀ row ∈ rs,∀ e ∈ row,∃ x,e = .v x) → FamOk ρ' z k ty i bs rs X := by
 induction h with
 | nil => exact fun _ => .nil
 | cons h1 _ ih => exact fun hv => .cons (h1.nor (hv _ List.mem_cons_self)) (ih fun r hr => hv r (List.mem_cons_of_mem _ hr))
end
theorem ObsOk.bx {ρ : Rho} {z : Fz} {ob : List (Nat × Ob)} {hp : List (Nat × Hb)} {k t : Nat} {cs : List D} (h : ObsOk ρ z ob hp) (hk : lk k ob = some (.bx t cs)) : ∃ b,ρ k = some ⟨some ⟨b,0,none⟩,1,cs.length⟩ := by
 obtain ⟨X,f,⟨b,us,_,h2,_⟩,_⟩ := h.at_ hk
 exact ⟨b,h2⟩
section
variable {P : Program} {nt : Nt} {Q : Exit → Act → World → Prop} {c : Cx} {st : St} {tm : List (Nat × Value)} {h : Hs} {ρ : Rho} {G : FG} {ty : TypeId} {pos : String} {af : Array Edge} {gd : Option (Nat × Bool)} {K : Kt}
theorem callP_vals {f : FuncId} {ss : List SV} {obP obF : List (Nat × Ob)} {tmS tmK : List (Nat × SV)} {ns ks : List Nat} {QS : SV → List (Nat × Ob) → Prop} (g : Gd c ⟨tmS,obP ++ obF⟩ tm h ρ G) {vs : List Value} (a2 : vs.length = ss.length) (a3 : ∀ (j : Nat) s v,ss[j]? = some s → vs[j]? = some v → DenS ρ ⟨G,h.w0⟩ s v) (hk : ∀ k s,lk k tmK = some s → lk k tmS = some s)
  (h1 : okTm (fun k => !inN ns k) tmK = true) (h2 : okO (fun k => !inN ns k) obF = true) (h3 : okO (fun k => bif inN ns k then true else inN ks k) obP = true) (h4 : noKey ks obF = true) (hc : CallsP P f ss obP ks QS) :
  ∀ w,Hp h w → Calls P f vs.toArray w fun e w' => ∃ v h' s ob' ρ' G',e = .returned v ∧ Hp h' w' ∧ QS s ob' ∧ (s.okP (fun k => bif inN ns k then true else inN ks k) = true → okO (fun k => bif inN ns k then true else inN ks k) ob' = true → DenS ρ' ⟨G',h'.w0⟩ s v ∧ Gd c ⟨tmK,ob' ++ obF⟩ tm h' ρ' G') := by
 intro w hw
 obtain ⟨F,w0,hp⟩ := h
 obtain ⟨hpP,hpF,e0,oP,oF⟩ := ObsOk.split g.ob
 dsimp only at e0 oP oF
 subst e0
 have hnd := hw.nd
 rw [List.map_append,List.nodup_append] at hnd
 have hbF : ∀ b,Bl hpF b → ¬ F b := fun b ⟨x,hx⟩ => hw.out b x (List.mem_append_right _ hx)
 have hPF : ∀ b x,(b,x) ∈ hpP → ¬ Bl hpF b := fun b x hx ⟨y,hy⟩ => hnd.2.2 b (List.mem_map_of_mem (f := Prod.fst) hx) b (List.mem_map_of_mem (f := Prod.fst) hy) rfl
 have hm0 : Mz ⟨G,w0⟩ ⟨⟨G.on,G.fam,famIn obP⟩,w⟩ := ⟨fun _ h => h,fun b hb => hw.same.block b (g.gF b hb),fun _ _ _ h => h⟩
 refine (hc.out ⟨fun b => F b ∨ Bl hpF b,w,⟨G.on,G.fam,famIn obP⟩⟩ ρ hpP vs w ⟨Same.refl _ _,fun b hb => ?_,fun b x hx => hw.blk b x (List.mem_append_left _ hx),hnd.1,fun b x hx hb => ?_⟩ a2 ⟨fun _ h => h,Same.refl _ _,fun b hb => .inl (g.gF b hb),fun b hb => .inl hb,.refl _,fun k s hk => ?_,?_⟩).mono ?_
 ·rcases hb with hb | ⟨x,hx⟩
  ·exact hw.Flt hb
  ·exact (hw.blk b x (List.mem_append_right _ hx)).lt
 ·rcases hb with hb | hb
  ·exact hw.out b x (List.mem_append_left _ hx) hb
  ·exact hPF b x hx hb
 ·obtain ⟨q1,q2⟩ := lk_slT hk
  have hlt : k - 0 < vs.length := by rw [a2];exact (List.getElem?_eq_some_iff.1 q2).1
  exact ⟨vs[k - 0],lk_slots q1 (List.getElem?_eq_getElem hlt),(a3 _ s _ q2 (List.getElem?_eq_getElem hlt)).mono hm0 .refl⟩
 ·refine oP.monoF hm0 .refl fun k o hm => ?_
  refine Fms.of fun t rs e => ?_
  subst e
  exact ⟨rfl,fun _ => ⟨_,_,hm⟩⟩
 ·rintro e w' ⟨v,h',s,ob',ρ',G',rfl,hw',g',hq,hks⟩
  obtain ⟨v',e1,e2⟩ := g'.tm 0 s rfl
  simp only [lk,Nat.beq_refl,cond_true,Option.some.injEq] at e1
  subst e1
  have hkeep : ∀ b,F b ∨ Bl hpF b → w'.heap[b]? = w.heap[b]? := fun b hb => (hw'.same.block b (g'.fF b hb)).trans (g'.fw.block b hb)
  let ρ2 : Rho := ⟨fun k => if inN ns k = true then ρ' k else ρ k,fun k => if inN ns k = true then ρ'.os k else ρ.os k⟩
  have hrr : ∀ k,(bif inN ns k then true else inN ks k) = true → ρ2 k = ρ' k ∧ ρ2.os k = ρ'.os k := fun k hk => by
   show (if inN ns k = true then ρ' k else ρ k) = _ ∧ (if inN ns k = true then ρ'.os k else ρ.os k) = _
   cases hn : inN ns k
   ·rw [hn] at hk
    simp only [cond_false] at hk
    obtain ⟨q1,q2⟩ := hks k hk
    exact ⟨by rw [q1];simp,by rw [q2];simp⟩
   ·simp
  let G2 : FG := ⟨fun b => G b ∨ G' b,G'.fam,G.own⟩
  have hgn : ∀ b,G' b → ¬ Bl hpF b := fun b hb hbl => by
   rcases g'.gx b hb with q | q
   ·exact hbF b hbl (g.gF b q)
   ·exact q (.inr hbl)
  refine ⟨v,⟨fun b => h'.F b ∧ ¬ Bl hpF b,h'.w0,h'.hp ++ hpF⟩,s,ob',ρ2,G2,rfl,⟨hw'.same.mono fun _ hb => hb.1,fun b hb => hw'.inF b hb.1,fun b x hx => ?_,?_,fun b x hx hb => ?_⟩,hq,fun hs ho => ⟨?_,?_⟩⟩
  ·rcases List.mem_append.1 hx with hx | hx
   ·exact hw'.blk b x hx
   ·exact (hw.blk b x (List.mem_append_right _ hx)).of_block (hkeep b (.inr ⟨x,hx⟩))
  ·rw [List.map_append,List.nodup_append]
   refine ⟨hw'.nd,hnd.2.1,fun a ha b hb hab => ?_⟩
   subst hab
   obtain ⟨⟨_,x⟩,hx,rfl⟩ := List.mem_map.1 ha
   obtain ⟨⟨_,y⟩,hy,hxy⟩ := List.mem_map.1 hb
   dsimp only at hxy
   subst hxy
   exact hw'.out _ x hx (g'.fF _ (.inr ⟨y,hy⟩))
  ·rcases List.mem_append.1 hx with hx | hx
   ·exact hw'.out b x hx hb.1
   ·exact hb.2 ⟨x,hx⟩
  ·refine DenS.okP (p := fun k => bif inN ns k then true else inN ks k) (fun k hk => (hrr k hk).1) (fun k hk i o => by rw [(hrr k hk).2]) hs (DenS.mono (z := ⟨G',h'.w0⟩) (z' := ⟨G2,h'.w0⟩) ⟨fun _ hb => Or.inr hb,fun _ _ => rfl,fun _ _ _ h => h⟩ .refl e2)
  ·have hm : Mz ⟨G,w0⟩ ⟨G2,h'.w0⟩ := ⟨fun _ hb => .inl hb,fun b hb => (g'.fw.block b (.inl (g.gF b hb))).trans (hw.same.block b (g.gF b hb)),fun k i b hb => g'.fm.gr k i b hb⟩
   have hno : ∀ k,(!inN ns k) = true → ¬ inN ns k = true := fun k hk => by simpa using hk
   have ee : ∀ k,(!inN ns k) = true → ρ2 k = ρ k := fun k hk => by show (if inN ns k = true then ρ' k else ρ k) = _;rw [if_neg (hno k hk)]
   have eo : ∀ k,(!inN ns k) = true → ∀ i o,ρ2.os k i o = ρ.os k i o := fun k hk i o => by show (if inN ns k = true then ρ'.os k else ρ.os k) i o = _;rw [if_neg (hno k hk)]
   have hfp : ∀ k,¬ famIn obP k → G'.fam k = G.fam k := fun k hk => g'.fm.eq k hk
   refine ⟨fun b hb => ⟨g'.fF b (.inl (g.fF b hb)),fun hbl => hbF b hbl (g.fF b hb)⟩,(g.fw.trans (hw.same.mono g.fF)).trans (g'.fw.mono fun b hb => .inl (g.fF b hb)),fun b hb => ?_,fun b hb => ?_,⟨g.fm.own,fun k hk => ?_,fun k i b hb => g'.fm.gr k i b (g.fm.gr k i b hb)⟩,fun k s0 hk0 => ?_,ObsOk.append ?_ ?_⟩
   ·rcases hb with hb | hb
    ·exact ⟨g'.fF b (.inl (g.gF b hb)),fun hbl => hbF b hbl (g.gF b hb)⟩
    ·exact ⟨g'.gF b hb,hgn b hb⟩
   ·rcases hb with hb | hb
    ·exact g.gx b hb
    ·rcases g'.gx b hb with q | q
     ·exact g.gx b q
     ·exact .inr fun h0 => q (.inl (g.fF b h0))
   ·refine (hfp k fun hf => hk ?_).trans (g.fm.eq k hk)
    rw [← g.fm.own]
    exact oP.fam k hf
   ·obtain ⟨u,u1,u2⟩ := g.tm k s0 (hk k s0 hk0)
    exact ⟨u,u1,(u2.mono hm .refl).okP ee eo (okTm_get h1 k s0 hk0)⟩
   ·refine ObsOk.okP (p := fun k => bif inN ns k then true else inN ks k) (fun k hk => (hrr k hk).1) (fun k hk i o => by rw [(hrr k hk).2]) ho (ObsOk.monoF (z := ⟨G',h'.w0⟩) (z' := ⟨G2,h'.w0⟩) ⟨fun _ hb => Or.inr hb,fun _ _ => rfl,fun _ _ _ h => h⟩ .refl (fun k o hm' => ?_) g'.ob)
    cases o <;> simp only [Fms]
    refine ⟨rfl,fun hown => ?_⟩
    have hown' : famIn obP k := by have := hown;rwa [g'.fm.own] at this
    exact oP.fam k hown'
   ·refine ObsOk.okP ee eo h2 (oF.monoF hm .refl fun k o hm' => ?_)
    refine Fms.of fun t rs e => ?_
    subst e
    refine ⟨hfp k fun ⟨t,rs,hf⟩ => ?_,id⟩
    have q1 := okO_mem h3 k _ hf
    have q2 := okO_mem h2 k _ hm'
    have q3 := noKey_mem h4 k _ hm'
    cases hn : inN ns k
    ·rw [hn] at q1
     simp only [cond_false] at q1
     rw [q1] at q3
     cases q3
    ·rw [hn] at q2
     cases q2
theorem Raw.callFP {x : Operand} {f : FuncId} {ks : List SV} (kk : List Nat) {xs : Array Operand} {ts : Array TypeId} {d : Option Tmp} {tmT tmK : List (Nat × SV)} {ob obP obF : List (Nat × Ob)} (ps ns : List Nat) {ss : List SV} {QS : SV → List (Nat × Ob) → Prop} (hf : fnT (evT tmT x) = some (f,ks)) (hT : keepTm (fun k => !inN ns k) [] tmT = tmK) (hO : (splitOb ps ob).1 = obP) (hO' : cleanOb (fun k => !inN ns k) (splitOb ps ob).2 = obF) (hx : evLT tmT xs.toList = some ss)
  (h2 : okO (fun k => !inN ns k) obF = true) (h3 : okO (fun k => bif inN ns k then true else inN kk k) obP = true) (h4 : noKey kk obF = true) (hd : (match d with | some d => Nat.blt d nt | none => true) = true) (hc : CallsP P f (ss ++ ks) obP kk QS) (k : ∀ s ob',QS s ob' → BkP d ns kk tmK obF K s ob') : Raw P nt ⟨d,.call ⟨.value x,xs,ts⟩,ty,pos,af,gd⟩ tmT ob K := ⟨fun Q c tm h ρ G g => by
 obtain ⟨F,w0,hp⟩ := h
 obtain ⟨ha,hb,o1,o2,o3⟩ := splitOb_ok (ps := ps) g.ob
 rw [hO] at o1
 replace o2 := cleanOb_ok (p := fun k => !inN ns k) o2
 rw [hO'] at o2
 have g2 : Gd c ⟨tmT,obP ++ obF⟩ tm ⟨F,w0,ha ++ hb⟩ ρ G := ⟨g.fF,g.fw,g.gF,g.gx,g.fm,g.tm,o1.append o2⟩
 have hh : ∀ w,Hp ⟨F,w0,hp⟩ w → Hp ⟨F,w0,ha ++ hb⟩ w := fun w hw => hw.perm o3
 subst hT
 obtain ⟨us,u1,u2,u3⟩ := fnT_ev g2 hf
 obtain ⟨vs,a1,a2,a3⟩ := evLT_ev g2 hx
 have hlen : (vs ++ us).length = (ss ++ ks).length := by simp [a2,u2]
 have hden : ∀ (j : Nat) s v,(ss ++ ks)[j]? = some s → (vs ++ us)[j]? = some v → DenS ρ ⟨G,w0⟩ s v := by
  intro j s v h1 h2
  by_cases hj : j < ss.length
  ·rw [List.getElem?_append_left hj] at h1
   rw [List.getElem?_append_left (by rw [a2];exact hj)] at h2
   exact a3 j s v h1 h2
  ·rw [List.getElem?_append_right (by omega)] at h1
   rw [List.getElem?_append_right (by rw [a2];omega),a2] at h2
   exact u3 _ s v h1 h2
 have hcall := callP_vals (tmK := keepTm (fun k => !inN ns k) [] tmT) g2 hlen hden (fun k s h => (keepTm_get h).2) keepTm_ok h2 h3 h4 hc
 obtain ⟨fn,cd,f1,f2,f3⟩ := hc.fn
 have hxs : xs = xs.toList.toArray := by simp
 rw [hxs]
 refine OpS.callV (P := P) (nt := nt) (Q := Q) (fun v h2 => Kd c K (putD d v tm) h2) u1 f1 f2 f3 a1 hd (fun w hw => (hcall w (hh w hw)).mono ?_) fun _ _ hk => hk
 rintro e w' ⟨v,h3,s,ob',ρ',G',rfl,hw3,hq,hg⟩
 obtain ⟨b1,b2,b3⟩ := k s ob' hq
 obtain ⟨q1,q2⟩ := hg b1 b2
 cases d with
 | some d => exact ⟨v,h3,rfl,hw3,.of (q2.put q1) b3⟩
 | none => exact ⟨v,h3,rfl,hw3,.of q2 b3⟩⟩
end
end Go.Proofs.YtjpaaaecbgmcgaaGreatDoor
namespace Go.Proofs.YtjpaaaecbgmcgaaGreatDoor.Ev
open Go.RowKit
noncomputable section
inductive S where
 | v (x : Value)
 | p (id off : Nat)
 | sl (id off len ce : Nat)
 | m (id : Nat)
 | f (fn : Fn) (fi cs : List S)
 | fc (t : TypeId) (x : S)
 | a (l : List S)
 | t (l : List S)
abbrev Env := List (Nat × Nat)
mutual
def Den (ρ : Env) : S → Value → Prop
 | .v x,u => u = x
 | .p id off,u => ∃ e,ρ[id]? = some e ∧ u = .pointer (some ⟨e.1,off,none⟩)
 | .sl id off len ce,u => ∃ e,ρ[id]? = some e ∧ ce + len ≤ e.2 ∧ e.2 ≤ maxLen ∧ u = .slice (some ⟨e.1,off,none⟩) len (e.2 - ce)
 | .m id,u => ∃ e,ρ[id]? = some e ∧ u = .map (some e.1)
 | .f fn fi cs,u => ∃ ws us,DenL ρ fi ws ∧ DenL ρ cs us ∧ u = .func fn ws.toArray us.toArray
 | .fc t x,u => ∃ y,Den ρ x y ∧ u = .iface t y
 | .a l,u => ∃ us,DenL ρ l us ∧ u = .agg us.toArray
 | .t l,u => ∃ us,DenL ρ l us ∧ u = .tuple us.toArray
def DenL (ρ : Env) : List S → List Value → Prop
 | [],us => us = []
 | x :: xs,us => ∃ u r,Den ρ x u ∧ DenL ρ xs r ∧ us = u :: r
end
theorem ext_get {ρ e : Env} {id : Nat} {x : Nat × Nat} (h : ρ[id]? = some x) : (ρ ++ e)[id]? = some x := by
 rw [List.getElem?_append_left (List.getElem?_eq_some_iff.1 h).1];exact h
mutual
theorem Den.ext {ρ : Env} (e : Env) : ∀ {s : S} {u : Value},Den ρ s u → Den (ρ ++ e) s u
 | .v x,u,h => h
 | .p id off,u,⟨x,h1,h2⟩ => ⟨x,ext_get h1,h2⟩
 | .sl id off len ce,u,⟨x,h1,h2⟩ => ⟨x,ext_get h1,h2⟩
 | .m id,u,⟨x,h1,h2⟩ => ⟨x,ext_get h1,h2⟩
 | .f fn fi cs,u,⟨ws,us,h0,h1,h2⟩ => ⟨ws,us,DenL.ext e h0,DenL.ext e h1,h2⟩
 | .fc t x,u,⟨y,h1,h2⟩ => ⟨y,Den.ext e h1,h2⟩
 | .a l,u,⟨us,h1,h2⟩ => ⟨us,DenL.ext e h1,h2⟩
 | .t l,u,⟨us,h1,h2⟩ => ⟨us,DenL.ext e h1,h2⟩
theorem DenL.ext {ρ : Env} (e : Env) : ∀ {s : List S} {u : List Value},DenL ρ s u → DenL (ρ ++ e) s u
 | [],u,h => h
 | x :: xs,u,⟨a,r,h1,h2,h3⟩ => ⟨a,r,Den.ext e h1,DenL.ext e h2,h3⟩
end
theorem DenL.len {ρ : Env} : ∀ {s : List S} {u : List Value},DenL ρ s u → u.length = s.length
 | [],u,h => by have h : u = [] := h;subst h;rfl
 | x :: xs,u,⟨a,r,_,h2,h3⟩ => by subst h3;simp [h2.len]
theorem DenL.get {ρ : Env} : ∀ {s : List S} {u : List Value} {n : Nat} {x : S},DenL ρ s u → nth s n = some x → ∃ y,u[n]? = some y ∧ Den ρ x y
 | [],u,n,x,h,hn => by simp [nth] at hn
 | x :: xs,u,0,y,⟨a,r,h1,h2,h3⟩,hn => by
  simp only [nth,Option.some.injEq] at hn;subst hn h3;exact ⟨a,rfl,h1⟩
 | x :: xs,u,n + 1,y,⟨a,r,h1,h2,h3⟩,hn => by
  subst h3
  obtain ⟨z,q1,q2⟩ := h2.get (n := n) (by simpa [nth] using hn)
  exact ⟨z,by simpa using q1,q2⟩
theorem DenL.app {ρ : Env} : ∀ {s t : List S} {u v : List Value},DenL ρ s u → DenL ρ t v → DenL ρ (s ++ t) (u ++ v)
 | [],t,u,v,h,k => by have h : u = [] := h;subst h;exact k
 | x :: xs,t,u,v,⟨a,r,h1,h2,h3⟩,k => by subst h3;exact ⟨a,r ++ v,h1,h2.app k,rfl⟩
def cutS : List S → Nat → Nat → Option (List S)
 | _,0,0 => some []
 | [],0,_ + 1 => none
 | x :: l,0,n + 1 => match cutS l 0 n with
  | some r => some (x :: r)
  | none => none
 | [],_ + 1,_ => none
 | _ :: l,o + 1,n => cutS l o n
theorem DenL.cut {ρ : Env} : ∀ {s : List S} {u : List Value} {o n : Nat} {r : List S},DenL ρ s u → cutS s o n = some r → ∃ vs,DenL ρ r vs ∧ r.length = n ∧ (∀ j x,vs[j]? = some x → u[o + j]? = some x) ∧ o + n ≤ u.length
 | s,u,0,0,r,h,hc => by simp only [cutS,Option.some.injEq] at hc;subst hc;exact ⟨[],rfl,rfl,by simp,by omega⟩
 | [],u,0,n + 1,r,h,hc => by simp [cutS] at hc
 | [],u,o + 1,n,r,h,hc => by simp [cutS] at hc
 | x :: l,u,0,n + 1,r,⟨a,q,h1,h2,h3⟩,hc => by
  simp only [cutS] at hc
  split at hc
  ·rename_i r' hr
   simp only [Option.some.injEq] at hc
   subst hc h3
   obtain ⟨vs,q1,q2,q3,q4⟩ := h2.cut hr
   refine ⟨a :: vs,⟨a,vs,h1,q1,rfl⟩,by simp [q2],fun j y hy => ?_,by simp;omega⟩
   cases j with
   | zero => simpa using hy
   | succ j => have := q3 j y (by simpa using hy);simp at this ⊢;exact this
  ·cases hc
 | x :: l,u,o + 1,n,r,⟨a,q,h1,h2,h3⟩,hc => by
  simp only [cutS] at hc
  subst h3
  obtain ⟨vs,q1,q2,q3,q4⟩ := h2.cut hc
  refine ⟨vs,q1,q2,fun j y hy => ?_,by simp;omega⟩
  have := q3 j y hy
  rw [show o + 1 + j = (o + j) + 1 by omega]
  simpa using this
def splS : List S → Nat → List S → List S
 | cs,_,[] => cs
 | [],_,_ => []
 | _ :: cs,0,v :: vs => v :: splS cs 0 vs
 | c :: cs,o + 1,vs => c :: splS cs o vs
theorem splS_nil (cs : List S) (o : Nat) : splS cs o [] = cs := by cases cs <;> cases o <;> rfl
theorem DenL.over {ρ : Env} : ∀ {s t : List S} {u v : List Value} {o : Nat},DenL ρ s u → DenL ρ t v → DenL ρ (splS s o t) (spl u o v)
 | s,[],u,v,o,h,k => by have k : v = [] := k;subst k;rw [splS_nil,spl_nil];exact h
 | [],y :: t,u,v,o,h,k => by
  have h : u = [] := h
  subst h
  obtain ⟨a,r,k1,k2,k3⟩ := k
  subst k3
  exact rfl
 | x :: s,y :: t,u,v,0,⟨a,r,h1,h2,h3⟩,⟨b,q,k1,k2,k3⟩ => by
  subst h3 k3
  exact ⟨b,spl r 0 q,k1,h2.over k2,rfl⟩
 | x :: s,y :: t,u,v,o + 1,⟨a,r,h1,h2,h3⟩,k => by
  subst h3
  obtain ⟨b,q,k1,k2,k3⟩ := id k
  have e : spl (a :: r) (o + 1) v = a :: spl r o v := by subst k3;rfl
  rw [e]
  exact ⟨a,spl r o v,h1,h2.over k,rfl⟩
mutual
theorem Den.uniq {ρ : Env} : ∀ {s : S} {u v : Value},Den ρ s u → Den ρ s v → u = v
 | .v x,u,v,h,k => (show u = x from h).trans (show v = x from k).symm
 | .p id off,u,v,⟨x,h1,h2⟩,⟨y,k1,k2⟩ => by rw [h1] at k1;injection k1 with k1;subst k1;rw [h2,k2]
 | .sl id off len ce,u,v,⟨x,h1,_,_,h2⟩,⟨y,k1,_,_,k2⟩ => by rw [h1] at k1;injection k1 with k1;subst k1;rw [h2,k2]
 | .m id,u,v,⟨x,h1,h2⟩,⟨y,k1,k2⟩ => by rw [h1] at k1;injection k1 with k1;subst k1;rw [h2,k2]
 | .f fn fi cs,u,v,⟨ws,us,h0,h1,h2⟩,⟨xs,vs,k0,k1,k2⟩ => by rw [h2,k2,DenL.uniq h0 k0,DenL.uniq h1 k1]
 | .fc t x,u,v,⟨y,h1,h2⟩,⟨z,k1,k2⟩ => by rw [h2,k2,Den.uniq h1 k1]
 | .a l,u,v,⟨us,h1,h2⟩,⟨vs,k1,k2⟩ => by rw [h2,k2,DenL.uniq h1 k1]
 | .t l,u,v,⟨us,h1,h2⟩,⟨vs,k1,k2⟩ => by rw [h2,k2,DenL.uniq h1 k1]
theorem DenL.uniq {ρ : Env} : ∀ {s : List S} {u v : List Value},DenL ρ s u → DenL ρ s v → u = v
 | [],u,v,h,k => (show u = [] from h).trans (show v = [] from k).symm
 | x :: xs,u,v,⟨a,r,h1,h2,h3⟩,⟨b,q,k1,k2,k3⟩ => by rw [h3,k3,Den.uniq h1 k1,DenL.uniq h2 k2]
end
mutual
def toV : S → Option Value
 | .v x => some x
 | .a l => match toVL l with
  | some r => some (.agg r.toArray)
  | none => none
 | .t l => match toVL l with
  | some r => some (.tuple r.toArray)
  | none => none
 | .f fn fi l => match toVL fi,toVL l with
  | some q,some r => some (.func fn q.toArray r.toArray)
  | _,_ => none
 | .fc t x => match toV x with
  | some r => some (.iface t r)
  | none => none
 | .p _ _ | .sl _ _ _ _ | .m _ => none
def toVL : List S → Option (List Value)
 | [] => some []
 | x :: l => match toV x,toVL l with
  | some y,some r => some (y :: r)
  | _,_ => none
end
mutual
theorem toV_den {ρ : Env} : ∀ {s : S} {x u : Value},toV s = some x → Den ρ s u → u = x
 | .v y,x,u,h,k => by simp only [toV,Option.some.injEq] at h;subst h;exact k
 | .a l,x,u,h,⟨us,k1,k2⟩ => by
  simp only [toV] at h
  split at h
  ·rename_i r hr;injection h with h;rw [k2,toVL_den hr k1,← h]
  ·cases h
 | .t l,x,u,h,⟨us,k1,k2⟩ => by
  simp only [toV] at h
  split at h
  ·rename_i r hr;injection h with h;rw [k2,toVL_den hr k1,← h]
  ·cases h
 | .f fn fi l,x,u,h,⟨ws,us,k0,k1,k2⟩ => by
  simp only [toV] at h
  split at h
  ·rename_i q r hq hr;injection h with h;rw [k2,toVL_den hq k0,toVL_den hr k1,← h]
  ·cases h
 | .fc t y,x,u,h,⟨z,k1,k2⟩ => by
  simp only [toV] at h
  split at h
  ·rename_i r hr;injection h with h;rw [k2,toV_den hr k1,← h]
  ·cases h
 | .p _ _,x,u,h,_ => by simp [toV] at h
 | .sl _ _ _ _,x,u,h,_ => by simp [toV] at h
 | .m _,x,u,h,_ => by simp [toV] at h
theorem toVL_den {ρ : Env} : ∀ {s : List S} {x u : List Value},toVL s = some x → DenL ρ s u → u = x
 | [],x,u,h,k => by simp only [toVL,Option.some.injEq] at h;subst h;exact k
 | y :: l,x,u,h,⟨a,r,k1,k2,k3⟩ => by
  simp only [toVL] at h
  split at h
  ·rename_i b q hb hq;injection h with h;rw [k3,toV_den hb k1,toVL_den hq k2,← h]
  ·cases h
end
def cellsS : S → Option (List S)
 | .a l => some l
 | .v (.agg cs) => some (cs.toList.map .v)
 | .t _ | .v (.tuple _) => none
 | s => some [s]
theorem denL_v {ρ : Env} : ∀ (l : List Value),DenL ρ (l.map .v) l
 | [] => rfl
 | x :: l => ⟨x,l,rfl,denL_v l,rfl⟩
theorem denL_one {ρ : Env} {s : S} {u : Value} (h : Den ρ s u) : DenL ρ [s] [u] := ⟨u,[],h,rfl,rfl⟩
theorem cellsS_den {ρ : Env} {s : S} {u : Value} {l : List S} (hc : cellsS s = some l) (h : Den ρ s u) : DenL ρ l (vcells u) := by
 unfold cellsS at hc
 split at hc
 ·injection hc with hc;subst hc
  obtain ⟨us,h1,rfl⟩ := h
  simpa [vcells] using h1
 ·injection hc with hc;subst hc
  have h : u = _ := h
  subst h
  exact denL_v _
 ·cases hc
 ·cases hc
 ·rename_i n1 n2 n3 n4
  injection hc with hc;subst hc
  have hv : vcells u = [u] := by
   cases s with
   | v x =>
    have h : u = x := h
    subst h
    cases u <;> first | rfl | exact absurd rfl (n2 _) | exact absurd rfl (n4 _)
   | p _ _ => obtain ⟨e,_,rfl⟩ := h;rfl
   | sl _ _ _ _ => obtain ⟨e,_,_,_,rfl⟩ := h;rfl
   | m _ => obtain ⟨e,_,rfl⟩ := h;rfl
   | f _ _ _ => obtain ⟨e,e',_,_,rfl⟩ := h;rfl
   | fc _ _ => obtain ⟨e,_,rfl⟩ := h;rfl
   | a l => exact absurd rfl (n1 _)
   | t l => exact absurd rfl (n3 _)
  rw [hv]
  exact denL_one h
def oneS : S → Bool
 | .a _ | .t _ => false
 | .v x => x.oneCell'
 | _ => true
theorem oneS_den {ρ : Env} {s : S} {u : Value} (ho : oneS s = true) (h : Den ρ s u) : u.oneCell' = true := by
 cases s with
 | v x => have h : u = x := h;subst h;exact ho
 | p _ _ => obtain ⟨e,_,rfl⟩ := h;rfl
 | sl _ _ _ _ => obtain ⟨e,_,_,_,rfl⟩ := h;rfl
 | m _ => obtain ⟨e,_,rfl⟩ := h;rfl
 | f _ _ _ => obtain ⟨e,e',_,_,rfl⟩ := h;rfl
 | fc _ _ => obtain ⟨e,_,rfl⟩ := h;rfl
 | a l => cases ho
 | t l => cases ho
theorem oneL_den {ρ : Env} : ∀ {s : List S} {u : List Value},s.all oneS = true → DenL ρ s u → u.all Value.oneCell' = true
 | [],u,_,h => by have h : u = [] := h;subst h;rfl
 | x :: xs,u,ho,⟨a,r,h1,h2,h3⟩ => by
  subst h3
  simp only [List.all_cons,Bool.and_eq_true] at ho ⊢
  exact ⟨oneS_den ho.1 h1,oneL_den ho.2 h2⟩
inductive Tr where
 | l
 | n (a : Tr) (v : Option S) (b : Tr)
def gt : Tr → Nat → Option S := fun t => Tr.rec (motive := fun _ => Nat → Option S) (fun _ => none) (fun _ v _ ia ib k => Bool.rec (motive := fun _ => Option S) (Bool.rec (motive := fun _ => Option S) (ib (Nat.sub (Nat.div k 2) 1)) (ia (Nat.div k 2)) (Nat.beq (Nat.mod k 2) 1)) v (Nat.beq k 0)) t
def pt (s : S) : Nat → Nat → Tr → Tr := fun f => Nat.rec (motive := fun _ => Nat → Tr → Tr) (fun _ t => t) (fun _ ih k t => Tr.rec (motive := fun _ => Tr) (Bool.rec (motive := fun _ => Tr) (Bool.rec (motive := fun _ => Tr) (.n .l none (ih (Nat.sub (Nat.div k 2) 1) .l)) (.n (ih (Nat.div k 2) .l) none .l) (Nat.beq (Nat.mod k 2) 1)) (.n .l (some s) .l) (Nat.beq k 0)) (fun a v b _ _ => Bool.rec (motive := fun _ => Tr) (Bool.rec (motive := fun _ => Tr) (.n a v (ih (Nat.sub (Nat.div k 2) 1) b)) (.n (ih (Nat.div k 2) a) v b) (Nat.beq (Nat.mod k 2) 1)) (.n a (some s) b) (Nat.beq k 0)) t) f
theorem gt_l (k : Nat) : gt .l k = none := rfl
theorem gt_n (a b : Tr) (v : Option S) (k : Nat) : gt (.n a v b) k = bif Nat.beq k 0 then v else bif Nat.beq (Nat.mod k 2) 1 then gt a (Nat.div k 2) else gt b (Nat.sub (Nat.div k 2) 1) := by
 show Bool.rec (motive := fun _ => Option S) (Bool.rec (motive := fun _ => Option S) (gt b (Nat.sub (Nat.div k 2) 1)) (gt a (Nat.div k 2)) (Nat.beq (Nat.mod k 2) 1)) v (Nat.beq k 0) = _
 cases Nat.beq k 0 <;> cases Nat.beq (Nat.mod k 2) 1 <;> rfl
theorem pt_l (s : S) (f k : Nat) : pt s (f + 1) k .l = bif Nat.beq k 0 then .n .l (some s) .l else bif Nat.beq (Nat.mod k 2) 1 then .n (pt s f (Nat.div k 2) .l) none .l else .n .l none (pt s f (Nat.sub (Nat.div k 2) 1) .l) := by
 show Bool.rec (motive := fun _ => Tr) (Bool.rec (motive := fun _ => Tr) (.n .l none (pt s f (Nat.sub (Nat.div k 2) 1) .l)) (.n (pt s f (Nat.div k 2) .l) none .l) (Nat.beq (Nat.mod k 2) 1)) (.n .l (some s) .l) (Nat.beq k 0) = _
 cases Nat.beq k 0 <;> cases Nat.beq (Nat.mod k 2) 1 <;> rfl
theorem pt_n (s : S) (f k : Nat) (a b : Tr) (v : Option S) : pt s (f + 1) k (.n a v b) = bif Nat.beq k 0 then .n a (some s) b else bif Nat.beq (Nat.mod k 2) 1 then .n (pt s f (Nat.div k 2) a) v b else .n a v (pt s f (Nat.sub (Nat.div k 2) 1) b) := by
 show Bool.rec (motive := fun _ => Tr) (Bool.rec (motive := fun _ => Tr) (.n a v (pt s f (Nat.sub (Nat.div k 2) 1) b)) (.n (pt s f (Nat.div k 2) a) v b) (Nat.beq (Nat.mod k 2) 1)) (.n a (some s) b) (Nat.beq k 0) = _
 cases Nat.beq k 0 <;> cases Nat.beq (Nat.mod k 2) 1 <;> rfl
theorem beq_ff {a b : Nat} (h : a ≠ b) : Nat.beq a b = false := by
 cases hb : Nat.beq a b
 ·rfl
 ·exact absurd (Nat.eq_of_beq_eq_true hb) h
theorem beq_tt (a : Nat) : Nat.beq a a = true := Nat.beq_refl a
theorem tr_key {j k : Nat} (hj : j ≠ 0) (hk : k ≠ 0) (hm : j % 2 = k % 2) (hd : (if j % 2 = 1 then j / 2 else j / 2 - 1) = (if k % 2 = 1 then k / 2 else k / 2 - 1)) : j = k := by
 split at hd <;> split at hd <;> omega
theorem gt_pt (s : S) : ∀ (f d k : Nat) (t : Tr),gt (pt s f d t) k = some s ∧ k = d ∨ gt (pt s f d t) k = gt t k
 | 0,d,k,t => .inr rfl
 | f + 1,d,k,t => by
  by_cases hd : d = 0
  ·subst hd
   by_cases hk : k = 0
   ·subst hk
    cases t <;> exact .inl ⟨rfl,rfl⟩
   ·right
    cases t with
    | l =>
     rw [pt_l,beq_tt,cond_true,gt_n,beq_ff hk,cond_false,gt_l,gt_l,gt_l]
     cases Nat.beq (Nat.mod k 2) 1 <;> rfl
    | n a v b => rw [pt_n,beq_tt,cond_true,gt_n,gt_n,beq_ff hk,cond_false,cond_false]
  ·have hd0 := beq_ff hd
   by_cases hk : k = 0
   ·subst hk
    right
    cases t with
    | l => rw [pt_l,hd0,cond_false];cases Nat.beq (Nat.mod d 2) 1 <;> rfl
    | n a v b => rw [pt_n,hd0,cond_false];cases Nat.beq (Nat.mod d 2) 1 <;> rfl
   ·have hk0 := beq_ff hk
    cases hd1 : Nat.beq (Nat.mod d 2) 1 <;> cases hk1 : Nat.beq (Nat.mod k 2) 1
    ·have e1 : d % 2 ≠ 1 := fun e => by rw [show Nat.mod d 2 = d % 2 from rfl,e] at hd1;cases hd1
     have e2 : k % 2 ≠ 1 := fun e => by rw [show Nat.mod k 2 = k % 2 from rfl,e] at hk1;cases hk1
     have key : Nat.sub (Nat.div k 2) 1 = Nat.sub (Nat.div d 2) 1 → k = d := fun e => tr_key hk hd (by omega) (by rw [if_neg e2,if_neg e1];exact e)
     cases t with
     | l =>
      rw [pt_l,hd0,cond_false,hd1,cond_false,gt_n,hk0,cond_false,hk1,cond_false]
      rcases gt_pt s f (Nat.sub (Nat.div d 2) 1) (Nat.sub (Nat.div k 2) 1) .l with ⟨h1,h2⟩ | h
      ·exact .inl ⟨h1,key h2⟩
      ·exact .inr (h.trans rfl)
     | n a v b =>
      rw [pt_n,hd0,cond_false,hd1,cond_false,gt_n,hk0,cond_false,hk1,cond_false,gt_n,hk0,cond_false,hk1,cond_false]
      rcases gt_pt s f (Nat.sub (Nat.div d 2) 1) (Nat.sub (Nat.div k 2) 1) b with ⟨h1,h2⟩ | h
      ·exact .inl ⟨h1,key h2⟩
      ·exact .inr h
    ·right
     cases t with
     | l => rw [pt_l,hd0,cond_false,hd1,cond_false,gt_n,hk0,cond_false,hk1];rfl
     | n a v b => rw [pt_n,hd0,cond_false,hd1,cond_false,gt_n,gt_n,hk0,cond_false,cond_false,hk1,cond_true,cond_true]
    ·right
     cases t with
     | l => rw [pt_l,hd0,cond_false,hd1,cond_true,gt_n,hk0,cond_false,hk1];rfl
     | n a v b => rw [pt_n,hd0,cond_false,hd1,cond_true,gt_n,gt_n,hk0,cond_false,cond_false,hk1,cond_false,cond_false]
    ·have e1 : d % 2 = 1 := Nat.eq_of_beq_eq_true hd1
     have e2 : k % 2 = 1 := Nat.eq_of_beq_eq_true hk1
     have key : Nat.div k 2 = Nat.div d 2 → k = d := fun e => tr_key hk hd (by omega) (by rw [if_pos e2,if_pos e1];exact e)
     cases t with
     | l =>
      rw [pt_l,hd0,cond_false,hd1,cond_true,gt_n,hk0,cond_false,hk1,cond_true]
      rcases gt_pt s f (Nat.div d 2) (Nat.div k 2) .l with ⟨h1,h2⟩ | h
      ·exact .inl ⟨h1,key h2⟩
      ·exact .inr (h.trans rfl)
     | n a v b =>
      rw [pt_n,hd0,cond_false,hd1,cond_true,gt_n,hk0,cond_false,hk1,cond_true,gt_n,hk0,cond_false,hk1,cond_true]
      rcases gt_pt s f (Nat.div d 2) (Nat.div k 2) a with ⟨h1,h2⟩ | h
      ·exact .inl ⟨h1,key h2⟩
      ·exact .inr h
inductive O where
 | c (ty : TypeId) (es : Nat) (cs : List S)
 | m (l : List (ByteArray × Value))
 | it (s : ByteArray) (pos : Nat)
def strL (l : List (ByteArray × Value)) : List (Value × Value) := l.map fun p => (.string p.1,p.2)
def ORel (ρ : Env) (cap : Nat) : O → Hb → Prop
 | .c ty es cs,hb => ∃ us,DenL ρ cs us ∧ us.all Value.oneCell' = true ∧ hb = ⟨ty,us,.n (if es = 0 then cap else cap * es)⟩ ∧ (0 < es → cap ≤ maxLen)
 | .m l,hb => hb = ⟨0,[],.m (strL l)⟩
 | .it s pos,hb => hb = ⟨0,[],.x (.stringIter s pos)⟩
theorem ORel.ext {ρ : Env} (e : Env) {cap : Nat} {o : O} {hb : Hb} (h : ORel ρ cap o hb) : ORel (ρ ++ e) cap o hb := by
 cases o with
 | c ty es cs => obtain ⟨us,h1,h2⟩ := h;exact ⟨us,h1.ext e,h2⟩
 | m l => exact h
 | it s pos => exact h
def HRel (ρ : Env) : List (Nat × O) → List (Nat × Hb) → Prop
 | [],hp => hp = []
 | (id,o) :: r,hp => ∃ e hb r',ρ[id]? = some e ∧ ORel ρ e.2 o hb ∧ HRel ρ r r' ∧ hp = (e.1,hb) :: r'
theorem HRel.ext {ρ : Env} (e : Env) : ∀ {l : List (Nat × O)} {hp : List (Nat × Hb)},HRel ρ l hp → HRel (ρ ++ e) l hp
 | [],_,h => h
 | (id,o) :: r,_,⟨x,hb,r',h1,h2,h3,h4⟩ => ⟨x,hb,r',ext_get h1,h2.ext e,h3.ext e,h4⟩
def hk {α : Type} (n : Nat) : List (Nat × α) → Option α := fun l => List.rec (motive := fun _ => Option α) none (fun p _ ih => Bool.rec (motive := fun _ => Option α) ih (some p.2) (Nat.beq n p.1)) l
theorem hk_eq {α : Type} (n : Nat) : ∀ (l : List (Nat × α)),hk n l = lk n l
 | [] => rfl
 | (k,v) :: r => by
  have ih := hk_eq n r
  show Bool.rec (motive := fun _ => Option α) (hk n r) (some v) (Nat.beq n k) = (bif Nat.beq n k then some v else lk n r)
  rw [ih]
  cases Nat.beq n k <;> rfl
theorem HRel.at_ {ρ : Env} {id : Nat} {o : O} : ∀ {l : List (Nat × O)} {hp : List (Nat × Hb)},HRel ρ l hp → hk id l = some o → ∃ e hb,ρ[id]? = some e ∧ ORel ρ e.2 o hb ∧ MemB e.1 hb hp
 | [],_,_,hl => by rw [hk_eq] at hl;simp [lk] at hl
 | (k,q) :: r,_,⟨x,hb,r',h1,h2,h3,h4⟩,hl => by
  subst h4
  rw [hk_eq] at hl
  simp only [lk] at hl
  rw [← hk_eq] at hl
  cases hk : Nat.beq id k
  ·rw [hk] at hl
   obtain ⟨e,b,q1,q2,q3⟩ := h3.at_ hl
   exact ⟨e,b,q1,q2,.there q3⟩
  ·rw [hk] at hl
   have := Nat.eq_of_beq_eq_true hk
   subst this
   simp only [cond_true,Option.some.injEq] at hl
   subst hl
   exact ⟨x,hb,h1,h2,.here⟩
theorem ORel.uniq {ρ : Env} {cap : Nat} {o : O} {x y : Hb} (h : ORel ρ cap o x) (k : ORel ρ cap o y) : x = y := by
 cases o with
 | c ty es cs => obtain ⟨us,h1,_,h2,_⟩ := h;obtain ⟨vs,k1,_,k2,_⟩ := k;rw [h2,k2,h1.uniq k1]
 | m l => exact (show x = _ from h).trans (show y = _ from k).symm
 | it s pos => exact (show x = _ from h).trans (show y = _ from k).symm
def updH (id : Nat) (o : O) : List (Nat × O) → List (Nat × O) := fun l => List.rec (motive := fun _ => List (Nat × O)) [] (fun p r ih => Bool.rec (motive := fun _ => List (Nat × O)) (p :: ih) ((p.1,o) :: r) (Nat.beq id p.1)) l
theorem updH_cons (id : Nat) (o : O) (k : Nat) (q : O) (r : List (Nat × O)) : updH id o ((k,q) :: r) = bif Nat.beq id k then (k,o) :: r else (k,q) :: updH id o r := by
 show Bool.rec (motive := fun _ => List (Nat × O)) ((k,q) :: updH id o r) ((k,o) :: r) (Nat.beq id k) = _
 cases Nat.beq id k <;> rfl
theorem HRel.upd {ρ : Env} {id : Nat} {o o' : O} : ∀ {l : List (Nat × O)} {hp : List (Nat × Hb)},HRel ρ l hp → hk id l = some o → ∃ e hb,ρ[id]? = some e ∧ ORel ρ e.2 o hb ∧ ∀ hb',ORel ρ e.2 o' hb' → ∃ hp',UpdB e.1 hb hb' hp hp' ∧ HRel ρ (updH id o' l) hp'
 | [],_,_,hl => by rw [hk_eq] at hl;simp [lk] at hl
 | (k,q) :: r,_,⟨x,hb,r',h1,h2,h3,h4⟩,hl => by
  subst h4
  rw [hk_eq] at hl
  simp only [lk] at hl
  rw [← hk_eq] at hl
  cases hk : Nat.beq id k
  ·rw [hk] at hl
   obtain ⟨e,b,q1,q2,q3⟩ := h3.upd (o' := o') hl
   refine ⟨e,b,q1,q2,fun hb' hr => ?_⟩
   obtain ⟨hp',u1,u2⟩ := q3 hb' hr
   refine ⟨_,.there u1,?_⟩
   rw [updH_cons,hk,cond_false]
   exact ⟨x,hb,hp',h1,h2,u2,rfl⟩
  ·rw [hk] at hl
   have := Nat.eq_of_beq_eq_true hk
   subst this
   simp only [cond_true,Option.some.injEq] at hl
   subst hl
   refine ⟨x,hb,h1,h2,fun hb' hr => ⟨_,.here,?_⟩⟩
   rw [updH_cons,hk,cond_true]
   exact ⟨x,hb',r',h1,hr,h3,rfl⟩
def remH (id : Nat) : List (Nat × O) → List (Nat × O) := fun l => List.rec (motive := fun _ => List (Nat × O)) [] (fun p r ih => Bool.rec (motive := fun _ => List (Nat × O)) (p :: ih) r (Nat.beq id p.1)) l
theorem remH_cons (id : Nat) (k : Nat) (q : O) (r : List (Nat × O)) : remH id ((k,q) :: r) = bif Nat.beq id k then r else (k,q) :: remH id r := by
 show Bool.rec (motive := fun _ => List (Nat × O)) ((k,q) :: remH id r) r (Nat.beq id k) = _
 cases Nat.beq id k <;> rfl
theorem HRel.rem {ρ : Env} {id : Nat} {o : O} : ∀ {l : List (Nat × O)} {hp : List (Nat × Hb)},HRel ρ l hp → hk id l = some o → ∃ e hb hp',ρ[id]? = some e ∧ ORel ρ e.2 o hb ∧ RemB e.1 hb hp hp' ∧ HRel ρ (remH id l) hp'
 | [],_,_,hl => by rw [hk_eq] at hl;simp [lk] at hl
 | (k,q) :: r,_,⟨x,hb,r',h1,h2,h3,h4⟩,hl => by
  subst h4
  rw [hk_eq] at hl
  simp only [lk] at hl
  rw [← hk_eq] at hl
  cases hk : Nat.beq id k
  ·rw [hk] at hl
   obtain ⟨e,b,hp',q1,q2,q3,q4⟩ := h3.rem hl
   refine ⟨e,b,_,q1,q2,.there q3,?_⟩
   rw [remH_cons,hk,cond_false]
   exact ⟨x,hb,hp',h1,h2,q4,rfl⟩
  ·rw [hk] at hl
   have := Nat.eq_of_beq_eq_true hk
   subst this
   simp only [cond_true,Option.some.injEq] at hl
   subst hl
   refine ⟨x,hb,r',h1,h2,.here,?_⟩
   rw [remH_cons,hk,cond_true]
   exact h3
theorem HRel.filter {ρ : Env} (p : Nat × O → Bool) : ∀ {l : List (Nat × O)} {hp : List (Nat × Hb)},HRel ρ l hp → ∃ hp',HRel ρ (l.filter p) hp' ∧ hp'.Sublist hp
 | [],_,h => ⟨[],rfl,by have h : _ = [] := h;subst h;exact .slnil⟩
 | (k,q) :: r,_,⟨x,hb,r',h1,h2,h3,h4⟩ => by
  subst h4
  obtain ⟨hp',q1,q2⟩ := h3.filter p
  cases hk : p (k,q)
  ·exact ⟨hp',by rw [List.filter_cons_of_neg (by simp [hk])];exact q1,.cons _ q2⟩
  ·exact ⟨_,by rw [List.filter_cons_of_pos (by simp [hk])];exact ⟨x,hb,hp',h1,h2,q1,rfl⟩,.cons_cons _ q2⟩
structure St where
 tm : Tr
 hp : List (Nat × O)
 n : Nat
def mkS (tm : Tr) (hp : List (Nat × O)) (n : Nat) : St := List.rec (motive := fun _ => St) (Nat.rec (motive := fun _ => St) ⟨tm,[],0⟩ (fun m _ => ⟨tm,[],m + 1⟩) n) (fun x r _ => Nat.rec (motive := fun _ => St) ⟨tm,x :: r,0⟩ (fun m _ => ⟨tm,x :: r,m + 1⟩) n) hp
theorem mkS_eq (tm : Tr) (hp : List (Nat × O)) (n : Nat) : mkS tm hp n = ⟨tm,hp,n⟩ := by cases hp <;> cases n <;> rfl
structure Fz where
 F : Nat → Prop
 w0 : World
def FzOk (z : Fz) (fz : List (Nat × List Value)) : Prop := ∀ g cs,lk g fz = some cs → z.F g ∧ ∀ j v,cs[j]? = some v → z.w0.cell? ⟨g,j,none⟩ = some v
structure G (st : St) (tm : List (Nat × Value)) (hp : List (Nat × Hb)) (ρ : Env) : Prop where
 tm : ∀ k s,gt st.tm k = some s → ∃ v,lk k tm = some v ∧ Den ρ s v
 hp : HRel ρ st.hp hp
 n : ρ.length = st.n
def evS (tm : Tr) (x : Operand) : Option S := Operand.rec (motive := fun _ => Option S) (fun t => gt tm t) (fun v => some (.v v)) (fun g => some (.v (.pointer (some ⟨g,0,none⟩)))) (fun f => some (.v (.func (.func f) #[] #[]))) x
theorem G.ev {st : St} {tm : List (Nat × Value)} {hp : List (Nat × Hb)} {ρ : Env} (g : G st tm hp ρ) {x : Operand} {s : S} (h : evS st.tm x = some s) : ∃ v,Go.Proofs.YtjpaaaecbgmcgaaGreatDoor.ev tm x = some v ∧ Den ρ s v := by
 cases x with
 | tmp t => exact g.tm t s h
 | const v => have h : some (S.v v) = some s := h;injection h with h;subst h;exact ⟨v,rfl,rfl⟩
 | global k => have h : some (S.v (.pointer (some ⟨k,0,none⟩))) = some s := h;injection h with h;subst h;exact ⟨_,rfl,rfl⟩
 | func f => have h : some (S.v (.func (.func f) #[] #[])) = some s := h;injection h with h;subst h;exact ⟨_,rfl,rfl⟩
def putS (d : Nat) (s : S) (t : Tr) : Tr := pt s 20 d t
theorem pt_self (s : S) : ∀ (f d : Nat) (t : Tr),d + 1 < 2 ^ f → gt (pt s f d t) d = some s
 | 0,d,t,h => by simp at h
 | f + 1,d,t,h => by
  by_cases hd : d = 0
  ·subst hd;cases t <;> rfl
  ·have hd0 := beq_ff hd
   have h1 : Nat.div d 2 = d / 2 := rfl
   cases hd1 : Nat.beq (Nat.mod d 2) 1
   ·have e1 : d % 2 ≠ 1 := fun e => by rw [show Nat.mod d 2 = d % 2 from rfl,e] at hd1;cases hd1
    have ih : ∀ t,gt (pt s f (Nat.sub (Nat.div d 2) 1) t) (Nat.sub (Nat.div d 2) 1) = some s := fun t => pt_self s f _ t (by
     have : Nat.sub (Nat.div d 2) 1 = d / 2 - 1 := rfl
     rw [this];rw [Nat.pow_succ] at h;omega)
    cases t with
    | l => rw [pt_l,hd0,cond_false,hd1,cond_false,gt_n,hd0,cond_false,hd1,cond_false];exact ih _
    | n a v b => rw [pt_n,hd0,cond_false,hd1,cond_false,gt_n,hd0,cond_false,hd1,cond_false];exact ih _
   ·have e1 : d % 2 = 1 := Nat.eq_of_beq_eq_true hd1
    have ih : ∀ t,gt (pt s f (Nat.div d 2) t) (Nat.div d 2) = some s := fun t => pt_self s f _ t (by
     rw [h1];rw [Nat.pow_succ] at h;omega)
    cases t with
    | l => rw [pt_l,hd0,cond_false,hd1,cond_true,gt_n,hd0,cond_false,hd1,cond_true];exact ih _
    | n a v b => rw [pt_n,hd0,cond_false,hd1,cond_true,gt_n,hd0,cond_false,hd1,cond_true];exact ih _
theorem G.put {st : St} {tm : List (Nat × Value)} {hp : List (Nat × Hb)} {ρ : Env} (g : G st tm hp ρ) {d : Nat} {s : S} {v : Value} (hd : Nat.blt d 1000000 = true) (h : Den ρ s v) : G ⟨putS d s st.tm,st.hp,st.n⟩ ((d,v) :: tm) hp ρ := by
 refine ⟨fun k x hk => ?_,g.hp,g.n⟩
 simp only [lk]
 by_cases hkd : k = d
 ·subst hkd
  have hd : k < 1000000 := by simpa using hd
  have := pt_self s 20 k st.tm (by omega)
  rw [putS,this] at hk
  injection hk with hk
  subst hk
  rw [beq_tt]
  exact ⟨v,rfl,h⟩
 ·rw [beq_ff hkd]
  rcases gt_pt s 20 d k st.tm with ⟨_,h2⟩ | h2
  ·exact absurd h2 hkd
  ·rw [putS,h2] at hk
   exact g.tm k x hk
theorem G.new {st : St} {tm : List (Nat × Value)} {hp : List (Nat × Hb)} {ρ : Env} (g : G st tm hp ρ) {o : O} {hb : Hb} (b cap : Nat) (h : ORel ρ cap o hb) : G ⟨st.tm,(st.n,o) :: st.hp,st.n + 1⟩ tm ((b,hb) :: hp) (ρ ++ [(b,cap)]) := by
 refine ⟨fun k s hk => ?_,?_,by simp [g.n]⟩
 ·obtain ⟨v,h1,h2⟩ := g.tm k s hk
  exact ⟨v,h1,h2.ext _⟩
 ·exact ⟨(b,cap),hb,hp,by rw [← g.n];simp,h.ext _,g.hp.ext _,rfl⟩
theorem G.newId {st : St} {tm : List (Nat × Value)} {hp : List (Nat × Hb)} {ρ : Env} (g : G st tm hp ρ) (e : Nat × Nat) : (ρ ++ [e])[st.n]? = some e := by rw [← g.n];simp
end
end Go.Proofs.YtjpaaaecbgmcgaaGreatDoor.Ev
