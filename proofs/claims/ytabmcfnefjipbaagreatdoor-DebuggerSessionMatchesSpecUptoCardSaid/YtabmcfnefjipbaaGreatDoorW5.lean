/-
  Part 5 of the proofs of dsession_holds: laws and contracts that they need.
-/
import Derived.Test.YtabmcfnefjipbaaGreatDoorW4
import Derived.Lib.AppendZeros
import Derived.Lib.ConvBytes
import Derived.Laws.Externs
import Derived.Lib.Bytealg
import Derived.Lib.Builder
import Derived.Lib.UnsafeStr
import Derived.Lib.AppendStr
import Derived.RangeFuncRecord
import Derived.Maps.RangeRun
import Derived.Laws.Runes
import Derived.WideLaws
import Derived.Test.YtabmcfnefjipbaaGreatDoorRows
set_option linter.unusedVariables false
set_option linter.unusedSimpArgs false
namespace Go.Proofs.YtabmcfnefjipbaaGreatDoor
open Go.RowKit
section
variable {P : Program} {T : List (Nat × Ty)} {nt : Nt} {Q : Exit → Act → World → Prop} {c : Cx} {st : St} {tm : List (Nat × Value)} {h : Hs} {ρ : Rho} {G : FG} {ty : TypeId} {pos : String} {af : Array Edge} {gd : Option (Nat × Bool)} {K : Kt}
def putD (d : Option Tmp) (v : Value) (tm : List (Nat × Value)) : List (Nat × Value) := match d with
 | some d => (d,v) :: tm
 | none => tm
theorem OpS.callV {d : Option Tmp} {x : Operand} {f : FuncId} {fn : Func} {cd : Code} {xs : List Operand} {ts : Array TypeId} {vs us : List Value} {K : List (Nat × Value) → Hs → Prop} (M : Value → Hs → Prop) (hx0 : ev tm x = some (.func (.func f) #[] us.toArray)) (hf : P.funcs[f]? = some fn) (hb : fn.body = some cd) (hnm : (fn.name == "runtime.NumGoroutine") = false) (hx : ArgsL tm xs vs)
  (hd : (match d with | some d => Nat.blt d nt | none => true) = true)
  (hC : ∀ w,Hp h w → Calls P f (vs ++ us).toArray w fun e w' => ∃ v h',e = .returned v ∧ Hp h' w' ∧ M v h') (k : ∀ v h',M v h' → K (putD d v tm) h') : OpS P nt Q ⟨d,.call ⟨.value x,xs.toArray,ts⟩,ty,pos,af,gd⟩ tm h K :=
 ⟨fun a w ha hw => by
  have hargs : xs.toArray.map a.eval = vs.toArray := by rw [List.map_toArray,hx.eq ha]
  have hrun : (execOp a.eval ⟨d,.call ⟨.value x,xs.toArray,ts⟩,ty,pos,af,gd⟩).run P w = .ok (.enter f (vs ++ us).toArray) w := by
   have hnm' : ¬ fn.name = "runtime.NumGoroutine" := by simpa using hnm
   simp only [execOp,resolve,Sem.run_bind,hargs,Deferred.ofValue,ha.ev hx0,invoke,callFunc]
   simp [hf,hb,hnm']
  unfold Oper.wp
  rw [hrun]
  refine (hC w hw).mono ?_
  rintro e w' ⟨v,h',rfl,h1,h2⟩
  cases d with
  | some d => exact ⟨_,h',ha.put (by simpa using hd) v,h1,k v h' h2⟩
  | none => exact ⟨_,h',ha,h1,k v h' h2⟩⟩
def fnT : Option SV → Option (FuncId × List SV)
 | some (.d (.fn f ks)) => some (f,ks.map fun k => SV.d (.p k 0))
 | some (.d (.u (.fn f))) => some (f,[])
 | some (.d (.u (.cl f cs))) => some (f,cs.map fun c => SV.d (.q c 0))
 | _ => none
theorem fnT_ev (g : Gd c st tm h ρ G) {x : Operand} {f : FuncId} {ks : List SV} (hx : fnT (evT st.tm x) = some (f,ks)) : ∃ us : List Value,ev tm x = some (.func (.func f) #[] us.toArray) ∧ us.length = ks.length ∧ ∀ (j : Nat) s v,ks[j]? = some s → us[j]? = some v → DenS ρ ⟨G,h.w0⟩ s v := by
 unfold fnT at hx
 split at hx
 ·rename_i f' ks' e
  injection hx with hx
  injection hx with e1 e2
  subst e1 e2
  obtain ⟨v,hv,hs⟩ := g.ev e
  cases hs with | d hs => cases hs with | fn us hl hd =>
  refine ⟨us,hv,by simp [hl],fun j s v h1 h2 => ?_⟩
  rw [List.getElem?_map] at h1
  cases hj : ks'[j]? with
  | none => rw [hj] at h1;cases h1
  | some k =>
   rw [hj] at h1
   simp only [Option.map_some,Option.some.injEq] at h1
   subst h1
   obtain ⟨b,cc,sz,q1,rfl⟩ := hd j k v hj h2
   exact .d (.p q1)
 ·rename_i f' e
  injection hx with hx
  injection hx with e1 e2
  subst e1 e2
  obtain ⟨v,hv,hs⟩ := g.ev e
  cases hs with | d hs => cases hs with | u hs => cases hs with | fn =>
  exact ⟨[],hv,rfl,fun j s v h1 h2 => by simp at h2⟩
 ·rename_i f' cs e
  injection hx with hx
  injection hx with e1 e2
  subst e1 e2
  obtain ⟨v,hv,hs⟩ := g.ev e
  cases hs with | d hs => cases hs with | u hs =>
  obtain ⟨us,rfl,q2,q3⟩ := DenV.cl_inv (ρ := ρ) hs
  refine ⟨us,hv,by simp [q2],fun j s v h1 h2 => ?_⟩
  rw [List.getElem?_map] at h1
  cases hj : cs[j]? with
  | none => rw [hj] at h1;cases h1
  | some k =>
   rw [hj] at h1
   simp only [Option.map_some,Option.some.injEq] at h1
   subst h1
   exact .d (q3 j k v hj h2)
 ·cases hx
theorem Raw.callF {x : Operand} {f : FuncId} {ks : List SV} {xs : Array Operand} {ts : Array TypeId} {d : Option Tmp} {tmT tmK : List (Nat × SV)} {ob obP obF : List (Nat × Ob)} (ps ns : List Nat) {ss : List SV} {QS : SV → List (Nat × Ob) → Prop} (hf : fnT (evT tmT x) = some (f,ks)) (hT : keepTm (fun k => !inN ns k) [] tmT = tmK) (hO : (splitOb ps ob).1 = obP) (hO' : cleanOb (fun k => !inN ns k) (splitOb ps ob).2 = obF) (hx : evLT tmT xs.toList = some ss)
  (h2 : okO (fun k => !inN ns k) obF = true) (h3 : okO (inN ns) obP = true) (hd : (match d with | some d => Nat.blt d nt | none => true) = true) (hc : CallsA P f (ss ++ ks) obP QS) (k : ∀ s ob',QS s ob' → Bk d ns tmK obF K s ob') : Raw P nt ⟨d,.call ⟨.value x,xs,ts⟩,ty,pos,af,gd⟩ tmT ob K := ⟨fun Q c tm h ρ G g => by
 obtain ⟨F,w0,hp⟩ := h
 obtain ⟨ha,hb,o1,o2,o3⟩ := splitOb_ok (ps := ps) g.ob
 rw [hO] at o1
 replace o2 := cleanOb_ok (p := fun k => !inN ns k) o2
 rw [hO'] at o2
 have g2 : Gd c ⟨tmT,obP ++ obF⟩ tm ⟨F,w0,ha ++ hb⟩ ρ G := ⟨g.fF,g.fw,g.gF,g.gx,g.fm,g.tm,o1.append o2⟩
 have hh : ∀ w,Hp ⟨F,w0,hp⟩ w → Hp ⟨F,w0,ha ++ hb⟩ w := fun w hw => hw.perm o3
 subst hT
 obtain ⟨us,u1,u2,u3⟩ := fnT_ev g2 hf
 obtain ⟨vs,a1,a2,a3⟩ := evLT_ev g2 hx
 have hlen : (vs ++ us).length = (ss ++ ks).length := by simp [a2,u2]
 have hden : ∀ (j : Nat) s v,(ss ++ ks)[j]? = some s → (vs ++ us)[j]? = some v → DenS ρ ⟨G,w0⟩ s v := by
  intro j s v h1 h2
  by_cases hj : j < ss.length
  ·rw [List.getElem?_append_left hj] at h1
   rw [List.getElem?_append_left (by rw [a2];exact hj)] at h2
   exact a3 j s v h1 h2
  ·rw [List.getElem?_append_right (by omega)] at h1
   rw [List.getElem?_append_right (by rw [a2];omega),a2] at h2
   exact u3 _ s v h1 h2
 have hcall := callO_vals (tmK := keepTm (fun k => !inN ns k) [] tmT) g2 hlen hden (fun k s h => (keepTm_get h).2) keepTm_ok h2 h3 hc
 obtain ⟨fn,cd,f1,f2,f3⟩ := hc.fn
 have hxs : xs = xs.toList.toArray := by simp
 rw [hxs]
 refine OpS.callV (P := P) (nt := nt) (Q := Q) (fun v h2 => Kd c K (putD d v tm) h2) u1 f1 f2 f3 a1 hd (fun w hw => (hcall w (hh w hw)).mono ?_) fun _ _ hk => hk
 rintro e w' ⟨v,h3,s,ob',ρ',G',rfl,hw3,hq,hg,_⟩
 obtain ⟨b1,b2,b3⟩ := k s ob' hq
 obtain ⟨q1,q2⟩ := hg b1 b2
 cases d with
 | some d => exact ⟨v,h3,rfl,hw3,.of (q2.put q1) b3⟩
 | none => exact ⟨v,h3,rfl,hw3,.of q2 b3⟩⟩
end
def qD (k : Nat) (ys : List V) : D → D
 | .p j o => bif Nat.beq j k then .q ys o else .p j o
 | d => d
def qL (f : D → D) : List D → List D
 | [] => []
 | x :: r => f x :: qL f r
def qC (f : D → D) : List SC → List SC
 | [] => []
 | .d x :: r => .d (f x) :: qC f r
 | .a xs :: r => .a (qL f xs) :: qC f r
def qS (f : D → D) : SV → SV
 | .d x => .d (f x)
 | .a xs => .a (qL f xs)
 | .t vs => .t (qC f vs)
def qTm (f : D → D) : List (Nat × SV) → List (Nat × SV)
 | [] => []
 | (j,s) :: r => (j,qS f s) :: qTm f r
def qOb (f : D → D) : List (Nat × Ob) → List (Nat × Ob)
 | [] => []
 | (j,.bx t cs) :: r => (j,.bx t (qL f cs)) :: qOb f r
 | (j,.ar t m ss) :: r => (j,.ar t m ss) :: qOb f r
 | (j,.fm t ss) :: r => (j,.fm t ss) :: qOb f r
 | (j,.mp a b es) :: r => (j,.mp a b es) :: qOb f r
 | (j,.fa t m ss) :: r => (j,.fa t m ss) :: qOb f r
 | (j,.ab cs us zb φ) :: r => (j,.ab (qL f cs) us zb φ) :: qOb f r
section
variable {ρ : Rho} {z : Fz} {k : Nat} {ys : List V} {f : D → D}
theorem qD_den (fz : ∀ o v,Den ρ z (.p k o) v → Den ρ z (.q ys o) v) {d : D} {v : Value} (h : Den ρ z d v) : Den ρ z (qD k ys d) v := by
 cases d <;> simp only [qD] <;> first | exact h | skip
 rename_i j o
 cases hb : Nat.beq j k <;> simp only [cond_false,cond_true]
 ·exact h
 ·have := Nat.eq_of_beq_eq_true hb
  subst this
  exact fz o v h
theorem qL_den (fz : ∀ d v,Den ρ z d v → Den ρ z (f d) v) : ∀ {ds : List D} {us : List Value},DenL ρ z ds us → DenL ρ z (qL f ds) us
 | [],us,h => h
 | d :: r,us,h => by
  have hl := h.len
  cases us with
  | nil => simp at hl
  | cons x us => exact (qL_den fz (ds := r) (us := us) ⟨by simpa using hl,by have := h.one;simp at this;simpa using this.2,fun j d v e1 e2 => h.den (j + 1) d v (by simpa using e1) (by simpa using e2)⟩).cons (fz _ _ (h.den 0 d x rfl rfl))
theorem qL_len : ∀ {ds : List D},(qL f ds).length = ds.length
 | [] => rfl
 | _ :: r => by simp [qL,qL_len (ds := r)]
theorem qC_get : ∀ {ss : List SC} {j : Nat} {s' : SC},(qC f ss)[j]? = some s' → ∃ s,ss[j]? = some s ∧ ((∃ x,s = .d x ∧ s' = .d (f x)) ∨ ∃ xs,s = .a xs ∧ s' = .a (qL f xs))
 | [],j,s',h => by simp [qC] at h
 | s :: r,0,s',h => by
  cases s with
  | d x => simp [qC] at h;subst h;exact ⟨_,rfl,.inl ⟨x,rfl,rfl⟩⟩
  | a xs => simp [qC] at h;subst h;exact ⟨_,rfl,.inr ⟨xs,rfl,rfl⟩⟩
 | s :: r,j + 1,s',h => by
  have : (qC f r)[j]? = some s' := by cases s <;> simpa [qC] using h
  obtain ⟨s0,q1,q2⟩ := qC_get this
  exact ⟨s0,by simpa using q1,q2⟩
theorem qC_len : ∀ {ss : List SC},(qC f ss).length = ss.length
 | [] => rfl
 | s :: r => by cases s <;> simp [qC,qC_len (ss := r)]
theorem qS_den (fz : ∀ d v,Den ρ z d v → Den ρ z (f d) v) {s : SV} {v : Value} (h : DenS ρ z s v) : DenS ρ z (qS f s) v := by
 cases h with
 | d h => exact .d (fz _ _ h)
 | a h => exact .a (qL_den fz h)
 | t hl hd =>
  refine .t (by rw [qC_len];exact hl) fun j s v e1 e2 => ?_
  obtain ⟨s0,q1,q2⟩ := qC_get e1
  have h0 := hd j s0 v q1 e2
  rcases q2 with ⟨x,rfl,rfl⟩ | ⟨xs,rfl,rfl⟩
  ·cases h0 with | d h0 => exact .d (fz _ _ h0)
  ·cases h0 with | a h0 => exact .a (qL_den fz h0)
theorem qTm_lk : ∀ {tm : List (Nat × SV)} {j : Nat} {s' : SV},lk j (qTm f tm) = some s' → ∃ s,lk j tm = some s ∧ s' = qS f s
 | [],j,s',h => by simp [qTm,lk] at h
 | (i,s) :: r,j,s',h => by
  simp only [qTm,lk] at h ⊢
  cases hb : Nat.beq j i <;> rw [hb] at h
  ·exact qTm_lk (tm := r) h
  ·simp only [cond_true,Option.some.injEq] at h
   exact ⟨s,rfl,h.symm⟩
theorem qOb_den (fz : ∀ d v,Den ρ z d v → Den ρ z (f d) v) : ∀ {ob : List (Nat × Ob)} {hp : List (Nat × Hb)},ObsOk ρ z ob hp → ObsOk ρ z (qOb f ob) hp
 | [],_,h => h
 | (j,.bx t cs) :: r,hp,⟨Y,hp',h1,⟨b,us,h2,h3,h4⟩,h5⟩ => ⟨Y,hp',h1,⟨b,us,by rw [qL_len];exact h2,by rw [qL_len];exact h3,qL_den fz h4⟩,qOb_den fz h5⟩
 | (j,.ar t m ss) :: r,hp,⟨Y,hp',h1,h2,h5⟩ => ⟨Y,hp',h1,h2,qOb_den fz h5⟩
 | (j,.fm t ss) :: r,hp,⟨Y,hp',h1,h2,h5⟩ => ⟨Y,hp',h1,h2,qOb_den fz h5⟩
 | (j,.mp a b es) :: r,hp,⟨Y,hp',h1,h2,h5⟩ => ⟨Y,hp',h1,h2,qOb_den fz h5⟩
 | (j,.fa t m ss) :: r,hp,⟨Y,hp',h1,h2,h5⟩ => ⟨Y,hp',h1,h2,qOb_den fz h5⟩
 | (j,.ab cs us zb φ) :: r,hp,⟨Y,hp',h1,⟨h2,h3,h4⟩,h5⟩ => ⟨Y,hp',h1,⟨h2,h3,qL_den fz h4⟩,qOb_den fz h5⟩
end
theorem Ghost.frzB {tmT : List (Nat × SV)} {ob : List (Nat × Ob)} (k : Nat) {t : TypeId} {cs : List D} {ys : List V} (hk : lk k ob = some (.bx t cs)) (hb : borL [] cs = some ys) : Ghost tmT ob (qTm (qD k ys) tmT) (qOb (qD k ys) (obr k ob)) := ⟨fun c tm h ρ G w g hw => by
 obtain ⟨F,w0,hp⟩ := h
 obtain ⟨Y,f,⟨b,us,rfl,g2,g3⟩,g6,_,g8⟩ := g.ob.set hk
 have g4 := borL_nil_den hb g3
 have hperm : hp.Perm ([(b,⟨t,us,cs.length⟩)] ++ f []) := by have := g6.perm [(b,(⟨t,us,cs.length⟩ : Hb))];rwa [g6.eq] at this
 have hnd : (([(b,(⟨t,us,cs.length⟩ : Hb))] ++ f []).map Prod.fst).Nodup := (hperm.map _).nodup_iff.1 hw.nd
 have hmem : ∀ p,p ∈ hp ↔ p ∈ [(b,(⟨t,us,cs.length⟩ : Hb))] ∨ p ∈ f [] := fun p => by rw [hperm.mem_iff,List.mem_append]
 have hmb : (b,(⟨t,us,cs.length⟩ : Hb)) ∈ hp := (hmem _).2 (.inl (by simp))
 have hB : ¬ F b := hw.out b _ hmb
 have hz : Mz ⟨G,w0⟩ ⟨G.or (· = b),w⟩ := ⟨fun _ h => .inl h,fun b hb => hw.same.block b (g.gF b hb),fun _ _ _ h => h⟩
 have g4' := g4.mono hz
 have fz : ∀ o v,Den ρ ⟨G.or (· = b),w⟩ (.p k o) v → Den ρ ⟨G.or (· = b),w⟩ (.q ys o) v := fun o v h => by
  cases h with | @p _ _ b' _ _ h0 =>
  rw [g2] at h0
  injection h0 with h0
  injection h0 with e1 _ _
  injection e1 with e1
  injection e1 with e1 _ _
  subst e1
  have := Den.q (ρ := ρ) (z := ⟨G.or (· = b),w⟩) (cs := ys) (o := o) (b := b) (o' := 0) (us := us) (.inr rfl) (fun j u hj => by rw [Nat.zero_add];exact (hw.blk b _ hmb).cell (x := ⟨t,us,_⟩) hj) g4'
  rwa [Nat.zero_add] at this
 refine ⟨⟨fun x => F x ∨ x = b,w,f []⟩,ρ,G.or (· = b),⟨fun b hb => .inl (g.fF b hb),g.fw.trans (hw.same.mono g.fF),fun b hb => hb.imp (g.gF b) id,fun x hx => ?_,g.fm.or,fun j s' hj => ?_,qOb_den (fun _ _ => qD_den fz) (g8.mono hz .refl)⟩,⟨Same.refl _ _,fun x hx => ?_,fun x y hx => hw.blk x y ((hmem _).2 (.inr hx)),?_,fun x y hx hb => ?_⟩⟩
 ·rcases hx with hx | rfl
  ·exact g.gx x hx
  ·exact .inr fun h0 => hB (g.fF _ h0)
 ·obtain ⟨s,e1,rfl⟩ := qTm_lk hj
  obtain ⟨v,v1,v2⟩ := g.tm j s e1
  exact ⟨v,v1,qS_den (fun _ _ => qD_den fz) (v2.mono hz .refl)⟩
 ·rcases hx with hx | rfl
  ·exact hw.Flt hx
  ·exact (hw.blk _ _ hmb).lt
 ·rw [List.map_append,List.nodup_append] at hnd;exact hnd.2.1
 ·rcases hb with hb | rfl
  ·exact hw.out x y ((hmem _).2 (.inr hx)) hb
  ·rw [List.map_append,List.nodup_append] at hnd
   exact hnd.2.2 x (by simp) x (List.mem_map_of_mem (f := Prod.fst) hx) rfl⟩
end Go.Proofs.YtabmcfnefjipbaaGreatDoor
/-
 The layer of trees: a call that has families of its own. Of no program.
-/
namespace Go.Proofs.YtabmcfnefjipbaaGreatDoor
open Go.RowKit
inductive Nm : V → Prop
 | int {k : IntKind} {n : Int} : Nm (.int k n)
 | bool {b : Bool} : Nm (.bool b)
 | str {s : ByteArray} : Nm (.str s)
 | nl : Nm .nl
 | pn : Nm .pn
 | fn {f : FuncId} : Nm (.fn f)
 | v {x : Value} : Nm (.v x)
 | cl {f : FuncId} {cs : List (List V)} (h : ∀ r ∈ cs,∀ x ∈ r,Nm x) : Nm (.cl f cs)
 | sl {sz : Nat} {rs : List (List V)} (h : ∀ r ∈ rs,∀ x ∈ r,Nm x) : Nm (.sl sz rs)
 | fz {vg : Bool} {es : List (List V × List V)} (h : ∀ e ∈ es,∀ x ∈ e.1 ++ e.2,Nm x) : Nm (.fz vg es)
def NmD (d : D) : Prop := ∃ x,d = .u x ∧ Nm x
def NmC : SC → Prop
 | .d x => NmD x
 | .a xs => ∀ x ∈ xs,NmD x
def NmS : SV → Prop
 | .d x => NmD x
 | .a xs => ∀ x ∈ xs,NmD x
 | .t vs => ∀ s ∈ vs,NmC s
section
variable {ρ ρ' : Rho} {z z' : Fz}
theorem DenV.nm {d : V} {v : Value} (h : DenV z d v) (hG : z'.G.on = z.G.on) (hw : z'.w0 = z.w0) : Nm d → DenV z' d v := by
 induction h with
 | int k n => exact fun _ => .int k n
 | bool b => exact fun _ => .bool b
 | str s hs => exact fun _ => .str s hs
 | nl => exact fun _ => .nl
 | @sl sz rs A n c b o us hn hc hm hr hA hl hu h1 hd ih =>
  intro hN
  cases hN with | sl hN =>
  refine .sl (b := b) (o := o) us hn hc hm hr (fun h => ⟨(hA h).1,by rw [hG];exact (hA h).2⟩) hl (fun j u h => by rw [hw];exact hu j u h) h1 fun j d u e1 e2 => ih j d u e1 e2 ?_
  obtain ⟨r,hr1,hr2⟩ := List.mem_flatten.1 (List.mem_of_getElem? e1)
  exact hN r hr1 d hr2
 | pn => exact fun _ => .pn
 | fn => exact fun _ => .fn
 | v h1 => exact fun _ => .v h1
 | m h => exact fun hN => by cases hN
 | cl us B O X hl hu hG' hX h1 hc hd ih =>
  intro hN
  cases hN with | cl hN =>
  exact .cl us B O X hl hu (fun j hj => by rw [hG];exact hG' j hj) hX h1 (fun j hj i x hx => by rw [hw];exact hc j hj i x hx) fun j c i d x e1 e2 e3 => ih j c i d x e1 e2 e3 (hN c (List.mem_of_getElem? e1) d (List.mem_of_getElem? e2))
 | fz hG' hb hl hs hk ih =>
  intro hN
  cases hN with | fz hN =>
  exact .fz (by rw [hG];exact hG') (by rw [hw];exact hb) hl hs fun j e m i d u e1 e2 e3 e4 => ih j e m i d u e1 e2 e3 e4 (hN e (List.mem_of_getElem? e1) d (List.mem_of_getElem? e3))
theorem Den.nm {d : D} {v : Value} (h : Den ρ z d v) (hG : z'.G.on = z.G.on) (hw : z'.w0 = z.w0) (hN : NmD d) : Den ρ' z' d v := by
 obtain ⟨x,rfl,hx⟩ := hN
 cases h with | u h => exact .u (h.nm hG hw hx)
theorem DenL.nm {cs : List D} {us : List Value} (h : DenL ρ z cs us) (hG : z'.G.on = z.G.on) (hw : z'.w0 = z.w0) (hN : ∀ x ∈ cs,NmD x) : DenL ρ' z' cs us :=
 ⟨h.len,h.one,fun j d u h1 h2 => (h.den j d u h1 h2).nm hG hw (hN d (List.mem_of_getElem? h1))⟩
theorem DenS.nm {s : SV} {v : Value} (h : DenS ρ z s v) (hG : z'.G.on = z.G.on) (hw : z'.w0 = z.w0) (hN : NmS s) : DenS ρ' z' s v := by
 cases h with
 | d h => exact .d (h.nm hG hw hN)
 | a h => exact .a (h.nm hG hw hN)
 | t hl hd =>
  refine .t hl fun j s v h1 h2 => ?_
  have hs := hN s (List.mem_of_getElem? h1)
  cases hd j s v h1 h2 with
  | d h => exact .d (h.nm hG hw hs)
  | a h => exact .a (h.nm hG hw hs)
end
section
variable {ρ : Rho} {z z' : Fz}
end
end Go.Proofs.YtabmcfnefjipbaaGreatDoor
/-
 The layer of trees: rows of zeros: append(nil,make(..)),make. Of no program.
-/
namespace Go.Proofs.YtabmcfnefjipbaaGreatDoor
open Go.RowKit
inductive NlE : E → E → Prop
 | refl {e : E} : NlE e e
 | v {x y : V} : NlV x y → NlE (.v x) (.v y)
inductive NlEs : List E → List E → Prop
 | nil : NlEs [] []
 | cons {x y : E} {r s : List E} : NlE x y → NlEs r s → NlEs (x :: r) (y :: s)
inductive NlRs : List (List E) → List (List E) → Prop
 | nil : NlRs [] []
 | cons {x y : List E} {r s : List (List E)} : NlEs x y → NlRs r s → NlRs (x :: r) (y :: s)
inductive NlO : List (Nat × Ob) → List (Nat × Ob) → Prop
 | nil : NlO [] []
 | keep {p : Nat × Ob} {r s : List (Nat × Ob)} : NlO r s → NlO (p :: r) (p :: s)
 | fm {k : Nat} {t : TypeId} {rs ss : List (List E)} {r s : List (Nat × Ob)} : NlRs rs ss → NlO r s → NlO ((k,.fm t rs) :: r) ((k,.fm t ss) :: s)
section
variable {ρ : Rho} {z : Fz}
end
section
variable {P : Program} {T : List (Nat × Ty)} [hT : Tys P T] {nt : Nt} {Q : Exit → Act → World → Prop} {c : Cx} {tm : List (Nat × Value)} {h : Hs} {ρ : Rho} {G : FG} {ty : TypeId} {pos : String} {af : Array Edge} {gd : Option (Nat × Bool)} {K : Kt}
omit hT in
theorem rep_den {z : Fz} {zs : List V} {jz : List Value} (hz : vzT jz = some zs) : ∀ n,DenVL z (List.replicate n zs).flatten (zrepT jz n) := fun n => by
 induction n with
 | zero => exact .nil
 | succ n ih => simp only [List.replicate_succ,List.flatten_cons,zrepT];exact (vzT_den hz).app ih
omit hT in
theorem Kd.newAr {tmT : List (Nat × SV)} {ob : List (Nat × Ob)} {F : Nat → Prop} {w0 w w' : World} {hp : List (Nat × Hb)} (g : Gd c ⟨tmT,ob⟩ tm ⟨F,w0,hp⟩ ρ G) (hw : Hp ⟨F,w0,hp⟩ w) {d e sz n cc : Nat} {zs : List V} {jz : List Value} {A : Option Addr} (hz : vzT jz = some zs) (hl : jz.length = sz) (hnew : newN d tmT ob = true) (hb : Below w.heap.size w w') (ho : w'.ownsRow w.heap.size e sz (.slice A n cc) n (zrepT jz n)) (k : K ((d,.d (.ow d n)) :: tmT) ((d,.ar e sz (List.replicate n zs)) :: ob)) :
  ∃ h',Hp h' w' ∧ Kd c K ((d,.slice A n cc) :: tm) h' := by
 have hw' := hw.addRow hb (Nat.le_refl _) ho
 have hok := OkA.of_own ho
 have hzl : zs.length = sz := by rw [← (vzT_den (z := ⟨G,w0⟩) hz).len];exact hl
 have hob : ObOk (upd ρ d ⟨A,cc,sz⟩) ⟨G,w0⟩ d (.ar e sz (List.replicate n zs)) (hbA A e (zrepT jz n) cc sz) := ⟨A,cc,_,rfl,upd_self,by rw [List.length_replicate];exact hok,rep_den hz n,fun r hr => by rw [List.eq_of_mem_replicate hr];exact hzl⟩
 refine ⟨_,hw',.of ((g.new (st := ⟨tmT,ob⟩) hnew hob).put (d := d) (s := .d (.ow d n)) (v := .slice A n cc) (.d (.ow (l := ⟨A,cc,sz⟩) upd_self (fun hA0 => ?_) hok.cap))) k⟩
 rcases hok.form with ⟨_,e0,_⟩ | ⟨b,e0⟩
 ·exact e0
 ·dsimp only at hA0;rw [e0] at hA0;cases hA0
theorem Raw.makeSlice {x y : Operand} {t d e sz : Nat} (n : Nat) {kq kr : IntKind} {m m' : Int} {tmT : List (Nat × SV)} {ob : List (Nat × Ob)} {zs : List V} {i : Ty} {jk : Tk} {jb : Nat} {jz : List Value} (hx : evT tmT x = some (.d (.u (.int kr m)))) (hy : evT tmT y = some (.d (.u (.int kq m')))) (hm : m = (n : Int)) (hm' : m' = (n : Int)) (ht : lk t T = some i) (hi : i.k = .sl e) (hj : lk e T = some ⟨jk,sz,jb,jz⟩) (hz : vzT jz = some zs)
  (hl : (Nat.beq jz.length sz && Nat.blt 0 sz) = true) (hd : Nat.blt d nt = true) (hnew : newN d tmT ob = true) (h1 : n * sz ≤ 16777216) (hb : jb * n ≤ 281474976710656) (k : K ((d,.d (.ow d n)) :: tmT) ((d,.ar e sz (List.replicate n zs)) :: ob)) : Raw P nt ⟨some d,.makeSlice t x y,ty,pos,af,gd⟩ tmT ob K := ⟨fun Q c tm h ρ G g => by
 subst hm hm'
 simp only [Bool.and_eq_true] at hl
 have hl1 := Nat.eq_of_beq_eq_true hl.1
 have hl2 : 0 < sz := by simpa [Nat.blt_eq] using hl.2
 have x1 := evT_int g hx
 have y1 := evT_int g hy
 obtain ⟨f,z,q1,q2,q3,q4,q5⟩ := (hT.ok e _ hj).info
 dsimp only at q2 q3 q5
 have ku := (hT.ok t i ht).kind
 rw [hi] at ku
 have ku : P.underlying t = some (.slice e) := ku
 obtain ⟨F,w0,hp⟩ := h
 refine OpS.of_run hd fun a w ha hw => ?_
 have hn : n ≤ maxLen := by
  have : n * 1 ≤ n * sz := Nat.mul_le_mul_left _ hl2
  unfold maxLen;omega
 obtain ⟨w',r1,r2,r3⟩ := run_makeSlice_full (P := P) (w := w) w.heap.size t e f z sz ku q1 q4 q2 kr kq n h1 (by rw [q3];exact hb) hn (Nat.le_refl _)
 have hmc : (madeCells z.cells (n * sz)).toList = zrepT jz n := by
  have e1 : z.cells = jz.toArray := by rw [← q5]
  rw [zrepT_eq]
  simp [madeCells,e1,Array.toList_map,Array.toList_range,hl1]
 rw [hmc] at r2
 have hbel : Below w.heap.size w w' := ⟨r3.os,r3.tape,r3.output,r3.size,fun k hk => r3.block k hk (by simp)⟩
 obtain ⟨h',s1,s2⟩ := Kd.newAr g hw hz hl1 hnew hbel r2 k
 exact ⟨_,_,h',by simp [execOp,ha.ev x1,ha.ev y1,r1],s1,s2⟩⟩
end
end Go.Proofs.YtabmcfnefjipbaaGreatDoor
/-
 The layer of trees: own arrays are frozen anywhere;nil slices inside of rows. Of no program.
-/
namespace Go.Proofs.YtabmcfnefjipbaaGreatDoor
open Go.RowKit
theorem Ghost.frzA {tmT : List (Nat × SV)} {ob : List (Nat × Ob)} (k : Nat) {u sz : Nat} {rs : List (List V)} (hk : lk k ob = some (.ar u sz rs)) (hn : frNeedT k rs (frNeedO k rs True (obr k ob)) tmT) : Ghost tmT ob (frTm k sz rs tmT) (frOb k sz rs (obr k ob)) := ⟨fun c tm h ρ G w g hw => by
 obtain ⟨_,h',G',q1,q2,_⟩ := Gd.freeze (st := ⟨tmT,ob⟩) (X := True) g hw hk hn
 exact ⟨h',ρ,G',q1,q2⟩⟩
inductive NvV : V → V → Prop
 | refl {x : V} : NvV x x
 | nl {sz : Nat} {rs : List (List V)} : rs = [] → NvV .nl (.sl sz rs)
 | sl {sz : Nat} {rs rs' : List (List V)} : rs.length = rs'.length → (∀ (i : Nat) r r',rs[i]? = some r → rs'[i]? = some r' → r.length = r'.length) → (∀ (i : Nat) r r' (j : Nat) x y,rs[i]? = some r → rs'[i]? = some r' → r[j]? = some x → r'[j]? = some y → NvV x y) → NvV (.sl sz rs) (.sl sz rs')
end Go.Proofs.YtabmcfnefjipbaaGreatDoor
namespace Go.Proofs.YtabmcfnefjipbaaGreatDoor
open Go.RowKit
section
variable {P : Program} {ops : Array Oper} {Q : Exit → Act → World → Prop} {md : Region.Mode} {S S' S1 S1' : World → Prop} {late free : List Nat}
def wpAnyX (P : Program) (md : Region.Mode) (ops : Array Oper) (Q : Exit → Act → World → Prop) (S S1 : World → Prop) (late free : List Nat) : Nat → Array Bool → Act → World → Prop
 | 0,listed,a,w => Region.ready md ops listed = [] ∧ Q .normal a w
 | fuel + 1,listed,a,w =>
  (Region.ready md ops listed = [] → Q .normal a w) ∧
  ∀ i ∈ Region.ready md ops listed,wpOp P ops Q i (fun a' w' => (((free.contains i = true → w' = w) ∧ (late.contains i = false → free.contains i = false → S w')) ∧ S1 w') ∧ wpAnyX P md ops Q S S1 late free fuel (listed.setIfInBounds i true) a' w') a w
theorem wpAny_of_X : ∀ (fuel : Nat) (listed : Array Bool) (a : Act) (w : World),wpAnyX P md ops Q S S1 late free fuel listed a w → wpAny P md ops Q fuel listed a w
 | 0,_,_,_,h => h
 | fuel + 1,_,_,_,h => ⟨h.1,fun i hi => wpOp_mono (fun a' w' h' => wpAny_of_X fuel _ a' w' h'.2) (h.2 i hi)⟩
theorem wpAnyX_mono (hS : ∀ w,S' w → S w) (hS1 : ∀ w,S1' w → S1 w) : ∀ (fuel : Nat) (listed : Array Bool) (a : Act) (w : World),wpAnyX P md ops Q S' S1' late free fuel listed a w → wpAnyX P md ops Q S S1 late free fuel listed a w
 | 0,_,_,_,h => h
 | fuel + 1,_,_,_,h => ⟨h.1,fun i hi => wpOp_mono (fun a' w' h' => ⟨⟨⟨h'.1.1.1,fun hl hf => hS w' (h'.1.1.2 hl hf)⟩,hS1 w' h'.1.2⟩,wpAnyX_mono hS hS1 fuel _ a' w' h'.2⟩) (h.2 i hi)⟩
theorem wpAnyX_free {i : Nat} {oi : Oper} {v : Value} (hi : ops[i]? = some oi) (hsel : ∀ (j : Nat) (o : Oper) cs b,ops[j]? = some o → o.op ≠ .select cs b)
  (hQ : ∀ c a w,Q (.panic c) (a.put oi.dst v) w → Q (.panic c) a w) (hfi : free.contains i = true) :
  ∀ (fuel : Nat) (listed : Array Bool) (a : Act) (w : World),DC md ops listed →
   (∀ j oj,ops[j]? = some oj → j ≠ i → listed.getD j true = false → (∀ e ∈ oj.after,Region.binds md e = true → e.on ≠ i) → oi.apart ops oj = true) →
   i ∈ Region.ready md ops listed → YieldsIf P ops S1 oi v a → S1 w →
   wpAnyX P md ops Q S S1 late free fuel (listed.setIfInBounds i true) (a.put oi.dst v) w → wpAnyX P md ops Q S S1 late free (fuel + 1) listed a w := by
 intro fuel
 induction fuel with
 | zero =>
  intro listed a w _ _ hr hy hS1 H
  refine ⟨fun h => (by rw [h] at hr;cases hr),fun j hj => ?_⟩
  by_cases hji : j = i
  ·subst hji;exact hy.wpOp hi hS1 ⟨⟨⟨fun _ => rfl,fun _ hf => by rw [hfi] at hf;cases hf⟩,hS1⟩,H⟩
  ·have := ready_mono hj hji
   rw [H.1] at this
   cases this
 | succ fuel ih =>
  intro listed a w hdc hfree hr hy hS1 H
  refine ⟨fun h => (by rw [h] at hr;cases hr),fun j hj => ?_⟩
  by_cases hji : j = i
  ·subst hji;exact hy.wpOp hi hS1 ⟨⟨⟨fun _ => rfl,fun _ hf => by rw [hfi] at hf;cases hf⟩,hS1⟩,H⟩
  ·have h1 := H.2 j (ready_mono hj hji)
   obtain ⟨hjun,oj,hoj,hall⟩ := mem_ready.1 hj
   have hiun : listed.getD i false ≠ true := fun h' => by
    have h0 := (mem_ready.1 hr).1
    rcases Nat.lt_or_ge i listed.size with h2 | h2
    ·simp [h2] at h0 h';rw [h0] at h';cases h'
    ·simp [Array.getElem?_eq_none h2] at h'
   have hnot : ∀ e ∈ oj.after,Region.binds md e = true → e.on ≠ i := fun e he hb heq => hiun (heq ▸ hall e he hb)
   have h2 := wpOp_putIf hoj (hfree j oj hoj hji hjun hnot) (fun cs b => hsel i oi cs b hi) (fun cs b => hsel j oj cs b hoj) hQ hy h1
   have hfree' : ∀ k ok,ops[k]? = some ok → k ≠ i → (listed.setIfInBounds j true).getD k true = false →
     (∀ e ∈ ok.after,Region.binds md e = true → e.on ≠ i) → oi.apart ops ok = true := fun k ok hk hki hun hno => by
    refine hfree k ok hk hki ?_ hno
    by_cases hjk : j = k
    ·subst hjk;exact hjun
    ·rw [getD_set_ne true hjk] at hun;exact hun
   refine wpOp_mono (fun a' w' h3 => ⟨h3.2.1,ih (listed.setIfInBounds j true) a' w' (hdc.set hoj hall) hfree' (ready_mono hr (Ne.symm hji)) h3.1 h3.2.1.2 ?_⟩) h2
   rw [Array.setIfInBounds_comm _ _ hji]
   exact h3.2.2
end
section
variable (P : Program) (T : List (Nat × Ty)) (nt : Nt)
def vcYF (o : Oper) (tm : List (Nat × SV)) (ob : List (Nat × Ob)) (K : Kt) : Prop := match vcY P T o.op tm [] (fun s => putT nt o.dst s tm ob K) with
 | some p => p
 | none => False
end
section
variable {P : Program} {T : List (Nat × Ty)} [hT : Tys P T] {nt : Nt} {ops : Array Oper} {Q : Exit → Act → World → Prop} {late free : List Nat} {c : Cx} {K : Kt}
theorem Gd.recx {st : St} {tm : List (Nat × Value)} {h : Hs} {ρ : Rho} {G : FG} (g : Gd c st tm h ρ G) : Gd ⟨h.F,h.w0,G⟩ st tm h ρ G := ⟨fun _ h => h,Same.refl _ _,g.gF,fun _ h => .inl h,.refl _,g.tm,g.ob⟩
theorem Gd.back {st st' : St} {tm tm' : List (Nat × Value)} {h h' : Hs} {ρ ρ' : Rho} {G G' : FG} (g : Gd c st tm h ρ G) (g' : Gd ⟨h.F,h.w0,G⟩ st' tm' h' ρ' G') : Gd c st' tm' h' ρ' G' :=
 ⟨fun b hb => g'.fF b (g.fF b hb),g.fw.trans (g'.fw.mono g.fF),g'.gF,fun b hb => (g'.gx b hb).elim (g.gx b) fun q => .inr fun h0 => q (g.fF b h0),g.fm.trans g'.fm,g'.tm,g'.ob⟩
abbrev Frn (h : Hs) (w : World) : Prop := Hp ⟨h.F,h.w0,[]⟩ w
theorem Hp.frn {h : Hs} {w : World} (hw : Hp h w) : Frn h w := ⟨hw.same,hw.inF,fun b x hx => (by cases hx),(by simp),fun b x hx => (by cases hx)⟩
theorem Frn.back {st' : St} {tm' : List (Nat × Value)} {h h' : Hs} {ρ' : Rho} {G G' : FG} {w0 w : World} (h0 : Hp h w0) (g' : Gd ⟨h.F,h.w0,G⟩ st' tm' h' ρ' G') (hw : Frn h' w) : Frn h w :=
 ⟨g'.fw.trans (hw.same.mono g'.fF),h0.inF,fun b x hx => (by cases hx),(by simp),fun b x hx => (by cases hx)⟩
end
end Go.Proofs.YtabmcfnefjipbaaGreatDoor
/-
 The layer of trees: regions that draw their order: first what reads frozen memory alone,then all orders of the rest. Of no program.
-/
namespace Go.Proofs.YtabmcfnefjipbaaGreatDoor
open Go.RowKit
section
variable (P : Program) (T : List (Nat × Ty)) (nt : Nt)
end
section
variable {P : Program} {T : List (Nat × Ty)} [hT : Tys P T] {nt : Nt} {ops : Array Oper} {Q : Exit → Act → World → Prop} {late free : List Nat} {c : Cx} {K : Kt}
end
end Go.Proofs.YtabmcfnefjipbaaGreatDoor
namespace Go.Proofs.YtabmcfnefjipbaaGreatDoor
open Go.RowKit
theorem Ghost.le {tm : List (Nat × SV)} {ob : List (Nat × Ob)} {src : Src} {S : St} (l : LeSt src ⟨tm,ob⟩ S) : Ghost tm ob S.tm S.ob := ⟨fun _ _ _ _ _ w g hw => by
 obtain ⟨h',h1,h2⟩ := g.le l
 exact ⟨h',_,_,h2,h1 w hw⟩⟩
theorem cutR {ι : Type} (Φ : ι → Prop) (S : ι → St) {G : Prop} (R : Kt) (main : (∀ x,Φ x → R (S x).tm (S x).ob) → G) (rest : ∀ x,Φ x → R (S x).tm (S x).ob) : G := main rest
theorem Gs.cut {ι : Type} {Φ : ι → Prop} {S : ι → St} {R X : Kt} {i : Nat} {tm : List (Nat × SV)} {ob : List (Nat × Ob)} (hR : ∀ x,Φ x → R (S x).tm (S x).ob) (x : ι) (src : Src) (hX : X = R) (l : LeSt src ⟨tm,ob⟩ (S x)) (hx : Φ x) : Gs i X tm ob := .go (Ghost.le l) (by rw [hX];exact hR x hx)
section
variable {P : Program} {T : List (Nat × Ty)} [hT : Tys P T] {nt : Nt} {Q : Exit → Act → World → Prop} {ty : TypeId} {pos : String} {af : Array Edge} {gd : Option (Nat × Bool)} {K : Kt}
theorem makeMap_sound {c : Cx} {st : St} {tm : List (Nat × Value)} {h : Hs} {ρ : Rho} {G : FG} (g : Gd c st tm h ρ G) {t d : Nat} {r : Option Operand} {kg vg : Bool} (hr : r = none ∨ ∃ y q n ti kt et,r = some y ∧ evT st.tm y = some (.d (.u (.int q n))) ∧ lk t T = some ti ∧ ti.k = .mp kt et) (hd : Nat.blt d nt = true) (hn : newN d st.tm st.ob = true) (k : K ((d,.d (.mp d)) :: st.tm) ((d,.mp kg vg []) :: st.ob)) : OpS P nt Q ⟨some d,.makeMap t r,ty,pos,af,gd⟩ tm h (Kk h c K) := by
 obtain ⟨F,w0,hp⟩ := h
 refine .of_run hd fun a w ha hw => ?_
 have hb : HasB (w.alloc (.map #[] 0)) w.heap.size ⟨0,[],.m []⟩ := ⟨rfl,#[],0,by rw [heap_alloc_new],rfl,.nil _⟩
 have hw' : Hp ⟨F,w0,(w.heap.size,⟨0,[],.m []⟩) :: hp⟩ (w.alloc (.map #[] 0)) := hw.add ((Below.refl _ _).alloc (Nat.le_refl _) _) (Nat.le_refl _) hb
 have hob : ObOk (upd ρ d ⟨some ⟨w.heap.size,0,none⟩,1,0⟩) ⟨G,w0⟩ d (.mp kg vg []) [(w.heap.size,⟨0,[],.m []⟩)] := ⟨_,_,rfl,upd_self,rfl,fun j e p h1 _ => by simp at h1⟩
 refine ⟨.map (some w.heap.size),_,_,?_,hw',.of (fun w' hw' => hw'.sub (List.sublist_cons_self _ _)) ((g.new hn hob).put (.d (.mp (l := ⟨some ⟨w.heap.size,0,none⟩,1,0⟩) upd_self rfl))) k⟩
 rcases hr with rfl | ⟨y,q,n,ti,kt,et,rfl,hy,ht,hk⟩
 ·simp [execOp,Instr.makeMap,newObj,Sem.run]
 ·have hund : P.underlying t = some (.map kt et) := by have := (hT.ok t ti ht).kind;rw [hk] at this;exact this
  simp [execOp,Instr.makeMap,newObj,Sem.run,ha.ev (evT_int g hy),run_underlying hund,asInt,asIntOf]
theorem Raw.makeMap {t d : Nat} {r : Option Operand} {kt et : TypeId} {i ik ie : Ty} {kg vg : Bool} {tmT : List (Nat × SV)} {ob : List (Nat × Ob)} (ht : lk t T = some i) (hk : i.k = .mp kt et) (hkt : lk kt T = some ik) (het : lk et T = some ie) (hkg : ik.k.agg = kg) (hvg : ie.k.agg = vg) (hr : r = none ∨ ∃ y q n,r = some y ∧ evT tmT y = some (.d (.u (.int q n)))) (hd : Nat.blt d nt = true) (hn : newN d tmT ob = true) (k : K ((d,.d (.mp d)) :: tmT) ((d,.mp kg vg []) :: ob)) : Raw P nt ⟨some d,.makeMap t r,ty,pos,af,gd⟩ tmT ob K := ⟨fun Q c tm h ρ G g =>
 (makeMap_sound (T := T) (st := ⟨tmT,ob⟩) g (by
  rcases hr with h | ⟨y,q,n,h1,h2⟩
  ·exact .inl h
  ·exact .inr ⟨y,q,n,i,kt,et,h1,h2,ht,hk⟩) hd hn k).mono fun _ _ h => h.kd⟩
theorem sameBits_T {z : Fz} {kk : Tk} {x y : V} {u v : Value} (hx : keyC kk x = true) (hy : keyC kk y = true) (he : eqC x y = true) (h1 : DenV z x u) (h2 : DenV z y v) : Instr.sameBits 10000 v u = true := by
 cases kk <;> simp only [keyC] at hx <;> try cases hx
 ·cases x <;> simp only [keyC] at hx <;> try cases hx
  cases y <;> simp only [keyC] at hy <;> try cases hy
  have e1 := ikEqT_eq hx
  have e2 := ikEqT_eq hy
  subst e1 e2
  cases h1;cases h2
  simp only [eqC,decide_eq_true_eq] at he
  subst he
  simp [Instr.sameBits]
 ·cases x <;> simp only [keyC] at hx <;> try cases hx
  cases y <;> simp only [keyC] at hy <;> try cases hy
  cases h1;cases h2
  simp only [eqC,beq_iff_eq] at he
  subst he
  simp [Instr.sameBits]
 ·cases x <;> simp only [keyC] at hx <;> try cases hx
  cases y <;> simp only [keyC] at hy <;> try cases hy
  cases h1;cases h2
  simp only [eqC,decide_eq_true_eq] at he
  subst he
  simp [Instr.sameBits,bytesT_beq]
theorem mapUpdate_run {z : Fz} {w : World} {b t kt et : Nat} {i ik : Ty} {vg : Bool} {es : List (List V × List V)} {vs : List (Value × Value)} {y : V} {row : List V} {u v : Value} (ht : lk t T = some i) (hk : i.k = .mp kt et) (hkt : lk kt T = some ik) (hw : HasB w b ⟨0,[],.m vs⟩) (he : EntsOk z false vg es vs) (hy : keyC ik.k y = true) (hu : DenV z y u) (hv : DenW z vg row v) (hok : ∀ e ∈ es,keyT ik.k e.1 = true) :
  ∃ w' vs',(Instr.mapUpdate t (.map (some b)) u v).run P w = .ok () w' ∧ Same (· ≠ b) w w' ∧ HasB w' b ⟨0,[],.m vs'⟩ ∧ EntsOk z false vg (mputT es [y] row) vs' := by
 obtain ⟨dd,hdd,hchk⟩ := keyC_und (hT.ok kt ik hkt) hy
 have hund : P.underlying t = some (.map kt et) := by have := (hT.ok t i ht).kind;rw [hk] at this;exact this
 obtain ⟨_,arr,clock,q1,q2,q3⟩ := hw
 have hlen : arr.toList.length = es.length := by rw [← he.len,← q2,List.length_map]
 have hfind := findNow_T (hT.ok kt ik hkt) hdd hy hu es arr.toList 0 hlen (fun j e m h1 h2 => (he.den j e (m.key,m.val) h1 (by rw [← q2,List.getElem?_map,h2];rfl)).1) hok
 obtain ⟨m1,m2,m3,m4⟩ := mixT_get (x := [y]) es
 have hlt : b < w.heap.size := by
  rcases Nat.lt_or_ge b w.heap.size with h | h
  ·exact h
  ·rw [Array.getElem?_eq_none h] at q1;cases q1
 have key : ∀ (o : Obj),Same (· ≠ b) w { w with heap := w.heap.setIfInBounds b o } := fun o =>
  ⟨rfl,rfl,rfl,by simp,fun j hj => by simp only;rw [Array.getElem?_setIfInBounds_ne];exact fun e => hj e.symm⟩
 cases hj : mixT es [y] with
 | none =>
  rw [hj] at hfind
  refine ⟨_,vs ++ [(u,v)],by simp [Instr.mapUpdate,run_underlying hund,run_underlying hdd,getObj,setObj,Sem.run,q1,hchk,Instr.findKey,hfind];rfl,key _,⟨rfl,arr.push { key := u,val := v,born := clock },clock + 1,by simp [hlt],by simp [q2],q3.push _ _⟩,?_⟩
  rw [m4,hj]
  refine ⟨by simp [he.len],fun j e p h1 h2 => ?_⟩
  rcases Nat.lt_or_ge j es.length with hlt' | hge
  ·rw [List.getElem?_append_left hlt'] at h1
   rw [List.getElem?_append_left (by rw [he.len];exact hlt')] at h2
   exact he.den j e p h1 h2
  ·rw [List.getElem?_append_right hge] at h1
   rw [List.getElem?_append_right (by rw [he.len];exact hge),he.len] at h2
   rcases hjj : j - es.length with _ | n
   ·rw [hjj] at h1 h2;simp at h1 h2;subst h1 h2;exact ⟨⟨y,rfl,hu⟩,hv⟩
   ·rw [hjj] at h1;simp at h1
 | some j =>
  rw [hj] at hfind
  have hjl := m3 j hj
  obtain ⟨e,he1⟩ : ∃ e,es[j]? = some e := ⟨_,List.getElem?_eq_getElem hjl⟩
  obtain ⟨m,hm1⟩ : ∃ m,arr.toList[j]? = some m := ⟨_,List.getElem?_eq_getElem (by rw [hlen];exact hjl)⟩
  have hm2 : arr[j]? = some m := by rw [← Array.getElem?_toList];exact hm1
  have hp1 : vs[j]? = some (m.key,m.val) := by rw [← q2,List.getElem?_map,hm1];rfl
  have hden := (he.den j e _ he1 hp1).1
  obtain ⟨y',e1,e2⟩ := hden
  obtain ⟨y'',e3,e4⟩ := keyT_one (hok e (List.mem_of_getElem? he1))
  rw [e1] at e3
  injection e3 with e3 _;subst e3
  have heq : eqC y y' = true := by
   have : ∀ (es : List (List V × List V)) (j : Nat) e,mixT es [y] = some j → es[j]? = some e → eqCs [y] e.1 = true := by
    intro es
    induction es with
    | nil => intro j e h;cases h
    | cons a r ih =>
     intro j e h h'
     simp only [mixT] at h
     cases hq : eqCs [y] a.1 <;> rw [hq] at h
     ·simp only [cond_false] at h
      cases hr : mixT r [y] with
      | none => rw [hr] at h;cases h
      | some n => rw [hr] at h;simp only [Option.some.injEq] at h;subst h;exact ih n e hr (by simpa using h')
     ·simp only [cond_true,Option.some.injEq] at h
      subst h
      simp at h'
      subst h'
      exact hq
   have := this es j e hj he1
   rw [e1,eqCs_one] at this
   exact this
  have hsb : Instr.sameBits 10000 m.key u = true := sameBits_T hy e4 heq hu e2
  simp only [hm1,Option.map_some] at hfind
  refine ⟨_,vs.set j (u,v),by simp [Instr.mapUpdate,run_underlying hund,run_underlying hdd,getObj,setObj,Sem.run,q1,hchk,Instr.findKey,hfind,hm2,Instr.keyThatStays,hsb];rfl,key _,⟨rfl,arr.modify j fun e => { e with key := u,val := v },clock,by simp [hlt],?_,q3.modify _ _ fun _ => rfl⟩,?_⟩
  ·rw [← q2]
   apply List.ext_getElem?
   intro n
   simp only [List.getElem?_map,Array.getElem?_toList,Array.getElem?_modify,List.getElem?_set,List.length_map,Array.length_toList]
   by_cases hn : j = n
   ·subst hn
    have : j < arr.size := by rw [← Array.length_toList,hlen];exact hjl
    simp [hm2,this]
   ·simp [hn]
  ·rw [m4,hj]
   refine ⟨by simp [he.len],fun n e' p h1 h2 => ?_⟩
   simp only [List.getElem?_set] at h1 h2
   by_cases hn : j = n
   ·subst hn
    have h3 : j < vs.length := by rw [he.len];exact hjl
    simp [hjl] at h1
    simp [h3] at h2
    subst h1 h2
    exact ⟨⟨y,rfl,hu⟩,hv⟩
   ·simp only [hn,if_false] at h1 h2
    exact he.den n e' p h1 h2
omit hT in
theorem denW_of {ρ : Rho} {z : Fz} {s : SV} {cs : List D} {vs : List V} {v : Value} (h : DenS ρ z s v) (hc : cellsOfT s = some cs) (hb : borL [] cs = some vs) : DenW z (aggS s) vs v := by
 cases h with
 | d h =>
  simp only [cellsOfT,Option.some.injEq] at hc
  subst hc
  have := borL_nil_den (z := z) hb (DenL.one_ h)
  have hl := this.len
  match vs,hl with
  | [x],_ => exact ⟨x,rfl,this.den 0 x v rfl rfl⟩
 | a h =>
  simp only [cellsOfT,Option.some.injEq] at hc
  subst hc
  exact ⟨_,rfl,borL_nil_den hb h⟩
 | t _ _ => simp [cellsOfT] at hc
theorem mapUpdate_sound {o : Op} {c : Cx} {st : St} {tm : List (Nat × Value)} {h : Hs} {ρ : Rho} {G : FG} (g : Gd c st tm h ρ G) {t kt et k : Nat} {x ix y : Operand} {i ik : Ty} {vg : Bool} {es : List (List V × List V)} {key : V} {sy : SV} {cs : List D} {vs : List V} (ho : o = .mapUpdate t x ix y ∨ o = .insert t x ix y) (ht : lk t T = some i) (hk : i.k = .mp kt et) (hkt : lk kt T = some ik) (hx : evT st.tm x = some (.d (.mp k))) (hko : lk k st.ob = some (.mp false vg es)) (hix : evT st.tm ix = some (.d (.u key))) (hy : evT st.tm y = some sy) (hc : cellsOfT sy = some cs) (hb : borL [] cs = some vs) (hg : aggS sy = vg) (hkey : keyC ik.k key = true) (hok : ∀ e ∈ es,keyT ik.k e.1 = true) (kk : K st.tm (obu k (.mp false vg (mputT es [key] vs)) st.ob)) : OpS P nt Q ⟨none,o,ty,pos,af,gd⟩ tm h (Kd c K) := by
 obtain ⟨F,w0,hp⟩ := h
 obtain ⟨vx,x1,x2⟩ := g.ev hx
 obtain ⟨vi,i1,i2⟩ := g.ev hix
 obtain ⟨vy,y1,y2⟩ := g.ev hy
 cases x2 with | d x2 => cases i2 with | d i2 => cases i2 with | u i2 =>
 obtain ⟨X,f,o1,o2,o3,_⟩ := g.ob.set hko
 obtain ⟨b,ves,rfl,rfl,m1,m2⟩ := o1.map o2 x2
 have hdv := denW_of y2 hc hb
 rw [hg] at hdv
 have hloc : ρ k = some ⟨some ⟨b,0,none⟩,1,0⟩ := by
  obtain ⟨b',vs',e1,e2,_⟩ := o1
  injection e1 with e1 _;injection e1 with e1 _;subst e1;exact e2
 exact ⟨fun a w ha hw => by
  obtain ⟨w',vs',r1,r2,r3,r4⟩ := mapUpdate_run (P := P) (T := T) ht hk hkt (hw.blk b _ m1) m2 hkey i2 hdv hok
  have hrun : (execOp a.eval ⟨none,o,ty,pos,af,gd⟩).run P w = .ok .skip w' := by
   rcases ho with rfl | rfl <;> simp [execOp,ha.ev x1,ha.ev i1,ha.ev y1,r1]
  unfold Oper.wp
  rw [hrun]
  exact ⟨tm,_,ha,hw.upd (o2.updB rfl) r2 r3,.of (st := ⟨st.tm,obu k (.mp false vg (mputT es [key] vs)) st.ob⟩) ⟨g.fF,g.fw,g.gF,g.gx,g.fm,g.tm,o3 (.mp false vg _) _ ⟨b,vs',rfl,hloc,r4⟩⟩ kk⟩⟩
theorem Raw.mapUpdate {o : Op} {t kt et k : Nat} {x ix y : Operand} {i ik : Ty} {vg : Bool} {es : List (List V × List V)} {key : V} {sy : SV} {cs : List D} {vs : List V} {tmT : List (Nat × SV)} {ob : List (Nat × Ob)} (ho : o = .mapUpdate t x ix y ∨ o = .insert t x ix y) (ht : lk t T = some i) (hk : i.k = .mp kt et) (hkt : lk kt T = some ik) (hx : evT tmT x = some (.d (.mp k))) (hko : lk k ob = some (.mp false vg es)) (hix : evT tmT ix = some (.d (.u key))) (hy : evT tmT y = some sy) (hc : cellsOfT sy = some cs) (hb : borL [] cs = some vs) (hg : aggS sy = vg) (hkey : keyC ik.k key = true) (hok : ∀ e ∈ es,keyT ik.k e.1 = true) (kk : K tmT (obu k (.mp false vg (mputT es [key] vs)) ob)) : Raw P nt ⟨none,o,ty,pos,af,gd⟩ tmT ob K :=
 ⟨fun Q c tm h ρ G g => mapUpdate_sound (T := T) (st := ⟨tmT,ob⟩) g ho ht hk hkt hx hko hix hy hc hb hg hkey hok kk⟩
end
end Go.Proofs.YtabmcfnefjipbaaGreatDoor
namespace Go.Proofs.YtabmcfnefjipbaaGreatDoor
open Go.RowKit
def mfV : V → Bool
 | .sl _ _ => false
 | .cl _ _ => false
 | .fz _ _ => false
 | _ => true
def MfE : E → Prop
 | .v x => mfV x = true
 | .os _ _ rs => ∀ r ∈ rs,∀ x ∈ r,mfV x = true
 | .hl => True
theorem DenV.mf {z z' : Fz} (hG : z'.G.fam = z.G.fam) {x : V} {v : Value} (hf : mfV x = true) (h : DenV z x v) : DenV z' x v := by
 cases h with
 | sl => cases hf
 | cl => cases hf
 | fz => cases hf
 | int => exact .int _ _
 | bool => exact .bool _
 | str _ hs => exact .str _ hs
 | nl => exact .nl
 | pn => exact .pn
 | fn => exact .fn
 | v h => exact .v h
 | m h => exact .m (by rw [hG];exact h)
theorem DenVL.mf {z z' : Fz} (hG : z'.G.fam = z.G.fam) {cs : List V} {us : List Value} (hf : ∀ x ∈ cs,mfV x = true) (h : DenVL z cs us) : DenVL z' cs us :=
 ⟨h.len,h.one,fun j d u e1 e2 => (h.den j d u e1 e2).mf hG (hf d (List.mem_of_getElem? e1))⟩
theorem CellOk.mf {ρ : Rho} {z z' : Fz} (hG : z'.G.fam = z.G.fam) {k i o : Nat} {e : E} {u : Value} {X : List (Nat × Hb)} (hf : MfE e) (h : CellOk ρ z k i o e u X) : CellOk ρ z' k i o e u X := by
 cases e with
 | v x => exact ⟨h.1,h.2.mf hG hf⟩
 | os ty sz rs =>
  obtain ⟨A,c,us,h1,h2,h3,h4,h5,h6⟩ := h
  refine ⟨A,c,us,h1,h2,h3,h4,h5.mf hG fun x hx => ?_,h6⟩
  obtain ⟨r,q1,q2⟩ := List.mem_flatten.1 hx
  exact hf r q1 x q2
 | hl => exact h
theorem CellsOk.mf {ρ : Rho} {z z' : Fz} (hG : z'.G.fam = z.G.fam) {k i o : Nat} {es : List E} {us : List Value} {X : List (Nat × Hb)} (h : CellsOk ρ z k i o es us X) : (∀ e ∈ es,MfE e) → CellsOk ρ z' k i o es us X := by
 induction h with
 | nil => exact fun _ => .nil
 | cons h1 _ ih => exact fun hf => .cons (h1.mf hG (hf _ (by simp))) (ih fun e he => hf e (by simp [he]))
theorem FamOk.mf {ρ : Rho} {z z' : Fz} (hG : z'.G.fam = z.G.fam) {k : Nat} {ty : TypeId} {i : Nat} {bs : List Nat} {rs : List (List E)} {X : List (Nat × Hb)} (h : FamOk ρ z k ty i bs rs X) : (∀ row ∈ rs,∀ e ∈ row,MfE e) → FamOk ρ z' k ty i bs rs X := by
 induction h with
 | nil => exact fun _ => .nil
 | cons h1 _ ih => exact fun hf => .cons (h1.mf hG (hf _ (by simp))) (ih fun row hr => hf row (by simp [hr]))
section
variable {P : Program} {T : List (Nat × Ty)} {nt : Nt} {Q : Exit → Act → World → Prop} {c : Cx} {st : St} {tm : List (Nat × Value)} {h : Hs} {ρ : Rho} {G : FG} {ty : TypeId} {pos : String} {af : Array Edge} {gd : Option (Nat × Bool)} {K : Kt}
end
end Go.Proofs.YtabmcfnefjipbaaGreatDoor
namespace Go.Proofs.YtabmcfnefjipbaaGreatDoor
open Go.RowKit
section
variable {c : Cx} {st : St} {tm : List (Nat × Value)} {F : Nat → Prop} {w0 w w' : World} {hp : List (Nat × Hb)} {ρ : Rho} {G : FG}
theorem Below.sameF (hw : Hp ⟨F,w0,hp⟩ w) (hb : Below w.heap.size w w') : Same F w0 w' :=
 hw.same.trans ⟨hb.os,hb.tape,hb.output,hb.size,fun k hk => hb.block k (hw.Flt hk)⟩
theorem Gd.newF (g : Gd c st tm ⟨F,w0,hp⟩ ρ G) (hw : Hp ⟨F,w0,hp⟩ w) (hb : Below w.heap.size w w') (hl : w.heap.size < w'.heap.size) : Gd c st tm ⟨fun x => F x ∨ x = w.heap.size,w',hp⟩ ρ (G.or fun x => x = w.heap.size) ∧ Hp ⟨fun x => F x ∨ x = w.heap.size,w',hp⟩ w' := by
 have s1 := Below.sameF hw hb
 have hz : Mz ⟨G,w0⟩ ⟨G.or fun x => x = w.heap.size,w'⟩ := ⟨fun _ h => .inl h,fun b hb => s1.block b (g.gF b hb),fun _ _ _ h => h⟩
 refine ⟨⟨fun b hb => .inl (g.fF b hb),g.fw.trans (s1.mono g.fF),fun b hb => hb.imp (g.gF b) id,fun b h2 => ?_,g.fm.or,fun j s hj => ?_,g.ob.mono hz .refl⟩,⟨Same.refl _ _,fun b h2 => ?_,fun b x hx => ?_,hw.nd,fun b x hx h2 => ?_⟩⟩
 ·rcases h2 with h2 | rfl
  ·exact g.gx b h2
  ·exact .inr fun h0 => Nat.lt_irrefl _ (hw.Flt (g.fF _ h0))
 ·obtain ⟨v,v1,v2⟩ := g.tm j s hj
  exact ⟨v,v1,v2.mono hz .refl⟩
 ·rcases h2 with h2 | rfl
  ·exact Nat.lt_of_lt_of_le (hw.Flt h2) hb.size
  ·exact hl
 ·have h1 := hw.blk b x hx
  exact h1.of_block (hb.block b h1.lt)
 ·rcases h2 with h2 | rfl
  ·exact hw.out b x hx h2
  ·exact Nat.lt_irrefl _ (hw.blk _ x hx).lt
end
theorem bytes_flat (l : List UInt8) : (l.map fun b => [V.int .u8 (b.toNat : Int)]).flatten = l.map fun b => V.int .u8 (b.toNat : Int) := by
 induction l with
 | nil => rfl
 | cons x r ih => simp [ih]
section
variable {P : Program} {T : List (Nat × Ty)} [hT : Tys P T] {nt : Nt} {ty : TypeId} {pos : String} {af : Array Edge} {gd : Option (Nat × Bool)} {K : Kt}
theorem Raw.convBytes {x : Operand} {t t2 d e : Nat} {s : ByteArray} {tmT : List (Nat × SV)} {ob : List (Nat × Ob)} {i i2 i3 : Ty} (hx : evT tmT x = some (.d (.u (.str s)))) (ht : lk t T = some i) (hk : i.k = .sr) (ht2 : lk t2 T = some i2) (hk2 : i2.k = .sl e) (ht3 : lk e T = some i3) (hk3 : i3.k = .in_ .u8) (hd : Nat.blt d nt = true) (k : K ((d,.d (.u (.sl 1 (s.data.toList.map fun b => [V.int .u8 (b.toNat : Int)])))) :: tmT) ob) : Raw P nt ⟨some d,.convert t t2 x,ty,pos,af,gd⟩ tmT ob K := ⟨fun Q c tm h ρ G g => by
 obtain ⟨vx,x1,x2⟩ := g.ev hx
 cases x2 with | d x2 => cases x2 with | u x2 => cases x2 with | str _ hs =>
 have ku := (hT.ok t i ht).kind
 rw [hk] at ku
 have ku : P.underlying t = some .string := ku
 have ku2 := (hT.ok t2 i2 ht2).kind
 rw [hk2] at ku2
 have ku2 : P.underlying t2 = some (.slice e) := ku2
 have ku3 := (hT.ok e i3 ht3).kind
 rw [hk3] at ku3
 have ku3 : P.underlying e = some (.int .u8) := ku3
 obtain ⟨F,w0,hp⟩ := h
 refine OpS.of_run hd fun a w ha hw => ?_
 have hrun := Go.Lib.run_convert_string_bytes w t t2 e s ku ku2 ku3
 have hsz := Go.Lib.bytesWorld_size w e s
 have hbel : Below w.heap.size w (Go.Lib.bytesWorld w e s) := ⟨by simp [Go.Lib.bytesWorld,World.freeze];rfl,by simp [Go.Lib.bytesWorld,World.freeze],by simp [Go.Lib.bytesWorld,World.freeze];rfl,by omega,fun j hj => Go.Lib.bytesWorld_at_old w e s j hj⟩
 obtain ⟨g2,hw2⟩ := Gd.newF g hw hbel (by omega)
 have hcap := grownCap_ge w s.size 0 e
 refine ⟨_,_,_,by simp [execOp,ha.ev x1,hrun],hw2,.of (g2.put (d := d) (s := .d (.u (.sl 1 (s.data.toList.map fun b => [V.int .u8 (b.toNat : Int)])))) (.d (.u (.sl (b := w.heap.size) (o := 0) (s.data.toList.map fun b => Value.int .u8 (b.toNat : Int)) (by simp) hcap hs (fun r hr => ?_) (fun _ => ⟨rfl,.inr rfl⟩) (by rw [bytes_flat];simp) (fun j u hu => ?_) ?_ (fun j y u hy hu => ?_))))) k⟩
 ·obtain ⟨b,_,rfl⟩ := List.mem_map.1 hr
  rfl
 ·rw [List.getElem?_map] at hu
  cases hb : s.data.toList[j]? with
  | none => rw [hb] at hu;simp at hu
  | some b =>
   rw [hb] at hu
   simp only [Option.map_some,Option.some.injEq] at hu
   subst hu
   have hj : j < s.size := by have := (List.getElem?_eq_some_iff.1 hb).1;simpa using this
   have := Go.Lib.bytesWorld_cell w e s j hj
   rw [List.getD_eq_getElem?_getD,hb] at this
   simpa using this
 ·refine List.all_eq_true.2 fun v hv => ?_
  obtain ⟨b,_,rfl⟩ := List.mem_map.1 hv
  rfl
 ·rw [bytes_flat,List.getElem?_map] at hy
  rw [List.getElem?_map] at hu
  cases hb : s.data.toList[j]? with
  | none => rw [hb] at hu;simp at hu
  | some b =>
   rw [hb] at hu hy
   simp only [Option.map_some,Option.some.injEq] at hu hy
   subst hu hy
   exact .int _ _⟩
end
end Go.Proofs.YtabmcfnefjipbaaGreatDoor
namespace Go.Proofs.YtabmcfnefjipbaaGreatDoor
open Go.RowKit
section
variable {P : Program} {T : List (Nat × Ty)} [hT : Tys P T] {nt : Nt} {ty : TypeId} {pos : String} {af : Array Edge} {gd : Option (Nat × Bool)} {K : Kt}
omit hT in
theorem Raw.extSB {f : FuncId} {fn : Func} {e : Array Value → Sem Value} {x y : Operand} {ts : Array TypeId} {d : Nat} {st : ByteArray} {b r : Int} {tmT : List (Nat × SV)} {ob : List (Nat × Ob)} (hx : evT tmT x = some (.d (.u (.str st)))) (hy : evT tmT y = some (.d (.u (.int .u8 b)))) (hf : P.funcs[f]? = some fn) (hname : (fn.name == "runtime.NumGoroutine") = false) (hb : fn.body.isNone = true) (hn : Extern.findNext fn = none) (he : Extern.find fn = some e) (hr : ∀ w, (e #[.string st, .int .u8 b]).run P w = .ok (.int .i64 r) w) (hd : Nat.blt d nt = true) (k : K ((d, .d (.u (.int .i64 r))) :: tmT) ob) : Raw P nt ⟨some d, .call ⟨.value (.func f), #[x, y], ts⟩, ty, pos, af, gd⟩ tmT ob K := ⟨fun Q c tm h ρ G g => by
 obtain ⟨vx,x1,x2⟩ := g.ev hx
 cases x2 with | d x2 => cases x2 with | u x2 => cases x2 with | str _ hs =>
 have y1 := evT_int g hy
 refine OpS.yd (v := .int .i64 r) ⟨fun a w ha hw => ?_⟩ hd (.of (g.put (.d (.u (.int _ _)))) k)
 have hargs : #[x,y].map a.eval = #[.string st,.int .u8 b] := by simp [ha.ev x1,ha.ev y1]
 simp only [execOp,resolve,Sem.run_bind,hargs,Deferred.ofValue,Act.eval,invoke]
 simp [run_callFunc_extern hf hname hb hn he,hr]⟩
end
end Go.Proofs.YtabmcfnefjipbaaGreatDoor
namespace Go.Proofs.YtabmcfnefjipbaaGreatDoor
open Go.RowKit
section
variable {P : Program} {T : List (Nat × Ty)} [hT : Tys P T] {nt : Nt} {ty : TypeId} {pos : String} {af : Array Edge} {gd : Option (Nat × Bool)} {K : Kt}
end
end Go.Proofs.YtabmcfnefjipbaaGreatDoor
namespace Go.Proofs.YtabmcfnefjipbaaGreatDoor
open Go.RowKit
section
variable {P : Program} {T : List (Nat × Ty)} [hT : Tys P T] {nt : Nt} {Q : Exit → Act → World → Prop} {ty : TypeId} {pos : String} {af : Array Edge} {gd : Option (Nat × Bool)} {K : Kt}
omit hT in
theorem Raw.ghost {o : Oper} {tmT tmT' : List (Nat × SV)} {ob ob' : List (Nat × Ob)} (gh : Ghost tmT ob tmT' ob') (k : Raw P nt o tmT' ob' K) : Raw P nt o tmT ob K := ⟨fun Q c tm h ρ G g => ⟨fun a w ha hw => by
 obtain ⟨h1,ρ1,G1,k1,hw1⟩ := gh.out c tm h ρ G w g hw
 exact (k.out Q c tm h1 ρ1 G1 k1).out a w ha hw1⟩⟩
end
end Go.Proofs.YtabmcfnefjipbaaGreatDoor
namespace Go.Proofs.YtabmcfnefjipbaaGreatDoor
open Go.RowKit
abbrev yv (l : Nat) : SV := .d (.u (.v (.func (.yield l) #[] #[])))
structure YieldsA (P : Program) (l : Nat) (ss : List SV) (zb : Fz) (φ φ' : List (Nat × Hb) → Prop) : Prop where
 out : ∀ (F : Nat → Prop) (w : World) (G : FG) (ρ : Rho) (X : List (Nat × Hb)) (vs : List Value),Hp ⟨F,w,X⟩ w → φ X → Mz zb ⟨G,w⟩ → (∀ b,G b → F b) → vs.length = ss.length → (∀ (j : Nat) s v,ss[j]? = some s → vs[j]? = some v → DenS ρ ⟨G,w⟩ s v) →
  ∃ fn tmps assign body,(Instr.yield l vs.toArray).run P w = .ok (.round l fn tmps assign body) w ∧ RoundIn Fence.wide 0 P l fn tmps assign body w fun e w' => e = .returned (.bool true) ∧ ∃ X',φ' X' ∧ Hp ⟨F,w,X'⟩ w'
section
variable {P : Program} {T : List (Nat × Ty)} {nt : Nt} {ty : TypeId} {pos : String} {af : Array Edge} {gd : Option (Nat × Bool)} {K : Kt}
theorem RawY.call {l : Nat} {x : Operand} {xs : Array Operand} {ts : Array TypeId} {d : Nat} {tmT : List (Nat × SV)} {ob : List (Nat × Ob)} (kA : Nat) {ss : List SV} {zb : Fz} {φ φ' : List (Nat × Hb) → Prop} (hf : evT tmT x = some (yv l)) (hk : lk kA ob = some (.ab [] [] zb φ)) (hx : argsT (obr kA ob) tmT xs.toList = some ss) (hn : needA (obr kA ob) tmT True xs.toList) (hd : Nat.blt d nt = true) (hY : YieldsA P l ss zb φ φ')
  (k : K ((d,.d (.u (.bool true))) :: tmT) (obu kA (.ab [] [] zb φ') ob)) : RawY P nt l ⟨some d,.call ⟨.value x,xs,ts⟩,ty,pos,af,gd⟩ tmT ob K := ⟨fun Q c tm h ρ G g a w ha hw ro => by
 obtain ⟨F,w0,hp⟩ := h
 obtain ⟨X,f,⟨p1,p2,p3⟩,r,hupd,hrest⟩ := g.ob.set hk
 have hperm : ∀ Y,(f Y).Perm (Y ++ f []) := r.perm
 have hpX : hp.Perm (X ++ f []) := by have := hperm X;rwa [r.eq] at this
 have hw2 : Hp ⟨F,w0,X ++ f []⟩ w := hw.perm hpX
 have hwF : Hp ⟨F,w0,f []⟩ w := hw2.sub (List.sublist_append_right _ _)
 have hnd := hw2.nd
 rw [List.map_append,List.nodup_append] at hnd
 have g3 : Gd c ⟨tmT,obr kA ob⟩ tm ⟨F,w0,f []⟩ ρ G := ⟨g.fF,g.fw,g.gF,g.gx,g.fm,g.tm,hrest⟩
 obtain ⟨vs,a1,a2,a3⟩ := argsT_ev (ρ' := ρ) g3 hx
 have hden := (a3 w hwF True hn).2.1
 obtain ⟨vf,vf1,vf2⟩ := g.ev hf
 have hfun : vf = .func (.yield l) #[] #[] := by cases vf2 with | d e => cases e with | u e => cases e;rfl
 subst hfun
 have hPF : ∀ b x,(b,x) ∈ X → ¬ Bl (f []) b := fun b x hx ⟨y,hy⟩ => hnd.2.2 b (List.mem_map_of_mem (f := Prod.fst) hx) b (List.mem_map_of_mem (f := Prod.fst) hy) rfl
 have hz : Mz zb ⟨G.or (Bl (f [])),w⟩ := p2.trans ⟨fun _ h => .inl h,fun b hb => hw.same.block b (g.gF b hb),fun _ _ _ h => h⟩
 obtain ⟨fn,tmps,assign,body,hy,hR⟩ := hY.out (fun b => F b ∨ Bl (f []) b) w (G.or (Bl (f []))) ρ X vs ⟨Same.refl _ _,fun b hb => hb.elim (fun hb => hw.Flt hb) (fun ⟨x,hx⟩ => (hwF.blk b x hx).lt),fun b x hx => hw2.blk b x (List.mem_append_left _ hx),hnd.1,fun b x hx hb => hb.elim (hw2.out b x (List.mem_append_left _ hx)) (hPF b x hx)⟩ p1 hz (fun b hb => hb.imp (g.gF b) id) a2 hden
 have hargs : xs.map a.eval = vs.toArray := by
  have : xs = xs.toList.toArray := by simp
  rw [this,List.map_toArray,a1.eq ha]
 have hsem : (Oper.semAt (RF ro).round a.eval ⟨some d,.call ⟨.value x,xs,ts⟩,ty,pos,af,gd⟩).run P w = .ok (.round l fn tmps assign body) w := by
  rw [Oper.semAt_eq _ _ _ (by simp)]
  simp only [execOp,resolve,Sem.run_bind,hargs,Deferred.ofValue,ha.ev vf1,invoke]
  simpa [Sem.run_pure,Result.andThen] using hy
 refine ⟨fun _ _ => trivial,?_⟩
 rw [hsem,Oper.uponIn_round]
 refine ⟨fun h0 => (by cases h0),?_⟩
 refine RoundIn.mono (F := RF ro) (n := 0) (show RoundIn Fence.wide 0 P l fn tmps assign body w _ from hR) ?_
 rintro e w' ⟨rfl,X',q1,q2⟩
 have hkeep : ∀ b,F b ∨ Bl (f []) b → w'.heap[b]? = w.heap[b]? := fun b hb => q2.same.block b hb
 have hw' : Hp ⟨F,w0,X' ++ f []⟩ w' := by
  refine ⟨hw.same.trans (q2.same.mono fun _ h => .inl h),hw.inF,fun b x hx => ?_,?_,fun b x hx hb => ?_⟩
  ·rcases List.mem_append.1 hx with hx | hx
   ·exact q2.blk b x hx
   ·exact (hw2.blk b x (List.mem_append_right _ hx)).of_block (hkeep b (.inr ⟨x,hx⟩))
  ·rw [List.map_append,List.nodup_append]
   refine ⟨q2.nd,hnd.2.1,fun a ha b hb hab => ?_⟩
   subst hab
   obtain ⟨⟨_,x⟩,hx,rfl⟩ := List.mem_map.1 ha
   obtain ⟨⟨_,y⟩,hy,hxy⟩ := List.mem_map.1 hb
   dsimp only at hxy
   subst hxy
   exact q2.out _ x hx (.inr ⟨y,hy⟩)
  ·rcases List.mem_append.1 hx with hx | hx
   ·exact q2.out b x hx (.inl hb)
   ·exact hw2.out b x (List.mem_append_right _ hx) hb
 have hob : ObsOk ρ ⟨G,w0⟩ (obu kA (.ab [] [] zb φ') ob) (f X') := hupd _ X' ⟨q1,p2,.nil⟩
 have g4 : Gd c ⟨tmT,obu kA (.ab [] [] zb φ') ob⟩ tm ⟨F,w0,f X'⟩ ρ G := ⟨g.fF,g.fw,g.gF,g.gx,g.fm,g.tm,hob⟩
 exact ⟨(d,.bool true) :: tm,⟨F,w0,f X'⟩,ha.put (by simpa using hd) _,hw'.perm (hperm X').symm,.of (g4.put (.d (.u (.bool true)))) k⟩⟩
end
end Go.Proofs.YtabmcfnefjipbaaGreatDoor
namespace Go.Proofs.YtabmcfnefjipbaaGreatDoor
open Go.RowKit
def pinD : D → Bool
 | .ow _ _ => true
 | .p _ _ => true
 | .e _ _ _ => true
 | .mp _ => true
 | .ows _ _ _ => true
 | .fn _ _ => true
 | _ => false
def nmlD : D → Bool
 | .u _ => true
 | .q _ _ => true
 | _ => false
def nmlL : List D → Bool
 | [] => true
 | x :: r => bif nmlD x then nmlL r else false
def nmlC : List SC → Bool
 | [] => true
 | .d x :: r => bif nmlD x then nmlC r else false
 | .a xs :: r => bif nmlL xs then nmlC r else false
def nmlS : SV → Bool
 | .d x => nmlD x
 | .a xs => nmlL xs
 | .t vs => nmlC vs
section
variable {ρ ρ' : Rho} {z z' : Fz}
theorem Den.pin {d : D} {v : Value} (hp : pinD d = true) (h : Den ρ z d v) : Den ρ z' d v := by
 cases h with
 | u => cases hp
 | q => cases hp
 | r => cases hp
 | re => cases hp
 | any => cases hp
 | ow h1 h2 h3 => exact .ow h1 h2 h3
 | p h => exact .p h
 | e h => exact .e h
 | fn us h1 h2 => exact .fn us h1 h2
 | mp h1 h2 => exact .mp h1 h2
 | ows h1 h2 => exact .ows h1 h2
theorem Den.nml (m : Mz z z') {d : D} {v : Value} (hp : nmlD d = true) (h : Den ρ z d v) : Den ρ' z' d v := by
 cases h with
 | u h => exact .u (h.mono m)
 | q hb hu hd => exact .q (m.g _ hb) (fun j u e => by rw [m.cell hb];exact hu j u e) (hd.mono m)
 | _ => cases hp
theorem nmlL_get : ∀ {cs : List D},nmlL cs = true → ∀ (j : Nat) d,cs[j]? = some d → nmlD d = true
 | [],_,j,d,h => by simp at h
 | x :: r,hn,j,d,h => by
  obtain ⟨h1,h2⟩ := bif_and hn
  cases j with
  | zero => simp at h;subst h;exact h1
  | succ j => exact nmlL_get h2 j d (by simpa using h)
theorem nmlC_get : ∀ {cs : List SC},nmlC cs = true → ∀ (j : Nat) s,cs[j]? = some s → nmlS s.up = true
 | [],_,j,d,h => by simp at h
 | x :: r,hn,j,d,h => by
  have : nmlS x.up = true ∧ nmlC r = true := by cases x <;> exact bif_and hn
  cases j with
  | zero => simp at h;subst h;exact this.1
  | succ j => exact nmlC_get this.2 j d (by simpa using h)
theorem DenL.nml (m : Mz z z') {cs : List D} {us : List Value} (hp : nmlL cs = true) (h : DenL ρ z cs us) : DenL ρ' z' cs us := ⟨h.len,h.one,fun j d u e1 e2 => (h.den j d u e1 e2).nml m (nmlL_get hp j d e1)⟩
theorem DenS.nml (m : Mz z z') {s : SV} {v : Value} (hp : nmlS s = true) (h : DenS ρ z s v) : DenS ρ' z' s v := by
 cases h with
 | d h => exact .d (h.nml m hp)
 | a h => exact .a (h.nml m hp)
 | t hl hd =>
  refine .t hl fun j s v h1 h2 => ?_
  have hs := nmlC_get hp j s h1
  cases hd j s v h1 h2 with
  | d h => exact .d (h.nml m hs)
  | a h => exact .a (h.nml m hs)
end
def chkP : List Nat → List (Nat × SV) → Option (List (Nat × D))
 | _,[] => some []
 | ks,(k,s) :: r => bif inN ks k then none else match chkP (k :: ks) r with
  | none => none
  | some l => bif nmlS s then some l else match s with
   | .d x => bif pinD x then some ((k,x) :: l) else none
   | _ => none
theorem inN_mem : ∀ {ks : List Nat} {k : Nat},k ∈ ks → inN ks k = true
 | [],k,h => by cases h
 | j :: r,k,h => by
  simp only [inN]
  cases hb : Nat.beq k j
  ·rcases List.mem_cons.1 h with h | h
   ·subst h;rw [Nat.beq_refl] at hb;cases hb
   ·simpa using inN_mem h
  ·rfl
theorem chkP_ok : ∀ {tm : List (Nat × SV)} {ks : List Nat} {l : List (Nat × D)},chkP ks tm = some l → (∀ p ∈ l,p.1 ∉ ks ∧ lk p.1 tm = some (.d p.2) ∧ pinD p.2 = true) ∧ ∀ k s,lk k tm = some s → nmlS s = true ∨ ∃ x,s = .d x ∧ (k,x) ∈ l
 | [],ks,l,h => by simp only [chkP,Option.some.injEq] at h;subst h;exact ⟨fun p hp => by simp at hp,fun k s hk => by simp [lk] at hk⟩
 | (k,s) :: r,ks,l,h => by
  simp only [chkP] at h
  cases hk : inN ks k
  ·rw [hk] at h
   simp only [cond_false] at h
   cases hr : chkP (k :: ks) r with
   | none => simp [hr] at h
   | some l' =>
    simp only [hr] at h
    obtain ⟨q1,q2⟩ := chkP_ok hr
    have hnk : k ∉ ks := fun hm => by rw [inN_mem hm] at hk;cases hk
    have hold : ∀ p ∈ l',p.1 ∉ ks ∧ lk p.1 ((k,s) :: r) = some (.d p.2) ∧ pinD p.2 = true := fun p hp => by
     obtain ⟨a1,a2,a3⟩ := q1 p hp
     refine ⟨fun hm => a1 (List.mem_cons_of_mem _ hm),?_,a3⟩
     simp only [lk]
     cases hb : Nat.beq p.1 k
     ·exact a2
     ·exact absurd (by rw [Nat.eq_of_beq_eq_true hb];exact List.mem_cons_self) a1
    have htail : ∀ j t,lk j ((k,s) :: r) = some t → j = k ∧ t = s ∨ lk j r = some t := fun j t ht => by
     simp only [lk] at ht
     cases hb : Nat.beq j k
     ·rw [hb] at ht;exact .inr ht
     ·rw [hb] at ht
      simp only [cond_true,Option.some.injEq] at ht
      exact .inl ⟨Nat.eq_of_beq_eq_true hb,ht.symm⟩
    cases hn : nmlS s
    ·rw [hn] at h
     simp only [cond_false] at h
     cases s with
     | d x =>
      simp only at h
      cases hp : pinD x
      ·simp [hp] at h
      ·simp only [hp,cond_true,Option.some.injEq] at h
       subst h
       refine ⟨fun p hm => ?_,fun j t ht => ?_⟩
       ·rcases List.mem_cons.1 hm with hm | hm
        ·subst hm;exact ⟨hnk,by simp [lk],hp⟩
        ·exact hold p hm
       ·rcases htail j t ht with ⟨rfl,rfl⟩ | ht
        ·exact .inr ⟨x,rfl,List.mem_cons_self⟩
        ·exact (q2 j t ht).imp id fun ⟨x,e,hm⟩ => ⟨x,e,List.mem_cons_of_mem _ hm⟩
     | a xs => simp at h
     | t vs => simp at h
    ·rw [hn] at h
     simp only [cond_true,Option.some.injEq] at h
     subst h
     refine ⟨hold,fun j t ht => ?_⟩
     rcases htail j t ht with ⟨rfl,rfl⟩ | ht
     ·exact .inl hn
     ·exact q2 j t ht
  ·rw [hk] at h;simp at h
theorem pins_get {ρ : Rho} {z : Fz} {tm : List (Nat × SV)} {tv : List (Nat × Value)} (g : ∀ k s,lk k tm = some s → ∃ v,lk k tv = some v ∧ DenS ρ z s v) : ∀ {l : List (Nat × D)},(∀ p ∈ l,lk p.1 tm = some (.d p.2)) → ∃ us : List Value,DenL ρ z (l.map Prod.snd) us ∧ ∀ (j : Nat) p u,l[j]? = some p → us[j]? = some u → lk p.1 tv = some u
 | [],_ => ⟨[],.nil,fun j p u h => by simp at h⟩
 | p :: r,hl => by
  obtain ⟨us,h1,h2⟩ := pins_get g (l := r) fun q hq => hl q (List.mem_cons_of_mem _ hq)
  obtain ⟨v,v1,v2⟩ := g p.1 _ (hl p List.mem_cons_self)
  cases v2 with | d v2 =>
  refine ⟨v :: us,by simpa using h1.cons v2,fun j q u e1 e2 => ?_⟩
  cases j with
  | zero => simp at e1 e2;subst e1 e2;exact v1
  | succ j => exact h2 j q u (by simpa using e1) (by simpa using e2)
def mfD : D → Bool
 | .u x => mfV x
 | .q _ _ => false
 | _ => true
def MfOb : Ob → Prop
 | .bx _ cs => ∀ d ∈ cs,mfD d = true
 | .ar _ _ rs => ∀ r ∈ rs,∀ x ∈ r,mfV x = true
 | .fm _ rs => ∀ row ∈ rs,∀ e ∈ row,MfE e
 | .mp _ _ es => ∀ e ∈ es,∀ x ∈ e.1 ++ e.2,mfV x = true
 | .fa _ _ rs => ∀ row ∈ rs,∀ e ∈ row,MfE e
 | .ab _ _ _ _ => False
section
variable {ρ : Rho} {z z' : Fz}
theorem Den.mfD (hG : z'.G.fam = z.G.fam) {d : D} {v : Value} (hf : Go.Proofs.YtabmcfnefjipbaaGreatDoor.mfD d = true) (h : Den ρ z d v) : Den ρ z' d v := by
 cases h with
 | u h => exact .u (h.mf hG hf)
 | q => cases hf
 | ow h1 h2 h3 => exact .ow h1 h2 h3
 | p h => exact .p h
 | e h => exact .e h
 | fn us h1 h2 => exact .fn us h1 h2
 | mp h1 h2 => exact .mp h1 h2
 | r h1 h2 h3 h4 => exact .r h1 h2 h3 h4
 | ows h1 h2 => exact .ows h1 h2
 | any h => exact .any h
 | re h => exact .re h
theorem DenW.mf (hG : z'.G.fam = z.G.fam) {g : Bool} {cs : List V} {v : Value} (hf : ∀ x ∈ cs,mfV x = true) (h : DenW z g cs v) : DenW z' g cs v := by
 cases g with
 | true => obtain ⟨us,e,h⟩ := h;exact ⟨us,e,h.mf hG hf⟩
 | false => obtain ⟨c,e,h⟩ := h;subst e;exact ⟨c,rfl,h.mf hG (hf c (by simp))⟩
theorem FaOk.mf (hG : z'.G.fam = z.G.fam) {k i : Nat} {rs : List (List E)} {us : List Value} {X : List (Nat × Hb)} (h : FaOk ρ z k i rs us X) : (∀ row ∈ rs,∀ e ∈ row,MfE e) → FaOk ρ z' k i rs us X := by
 induction h with
 | nil => exact fun _ => .nil
 | cons h1 _ ih => exact fun hf => .cons (h1.mf hG (hf _ (by simp))) (ih fun row hr => hf row (by simp [hr]))
theorem ObOk.mfA (hG : z'.G.fam = z.G.fam) (hO : z'.G.own = z.G.own) {k : Nat} {o : Ob} {X : List (Nat × Hb)} (hf : MfOb o) (h : ObOk ρ z k o X) : ObOk ρ z' k o X := by
 cases o with
 | bx ty cs =>
  obtain ⟨b,us,h1,h2,h3⟩ := h
  exact ⟨b,us,h1,h2,h3.len,h3.one,fun j d u e1 e2 => (h3.den j d u e1 e2).mfD hG (hf d (List.mem_of_getElem? e1))⟩
 | ar ty sz rs =>
  obtain ⟨A,c,us,h1,h2,h3,h4,h5⟩ := h
  refine ⟨A,c,us,h1,h2,h3,h4.mf hG fun x hx => ?_,h5⟩
  obtain ⟨r,q1,q2⟩ := List.mem_flatten.1 hx
  exact hf r q1 x q2
 | fm ty rs => exact ⟨by rw [hG];exact h.1.mf hG hf,by rw [hO];exact h.2⟩
 | mp kg vg es =>
  obtain ⟨b,vs,h1,h2,h3⟩ := h
  refine ⟨b,vs,h1,h2,h3.len,fun j e p e1 e2 => ?_⟩
  obtain ⟨q1,q2⟩ := h3.den j e p e1 e2
  have hm := List.mem_of_getElem? e1
  exact ⟨q1.mf hG fun x hx => hf e hm x (List.mem_append_left _ hx),q2.mf hG fun x hx => hf e hm x (List.mem_append_right _ hx)⟩
 | fa ty sz rs => obtain ⟨A,c,us,Y,h1,h2,h3,h4,h5⟩ := h;exact ⟨A,c,us,Y,h1,h2,h3,h4.mf hG hf,h5⟩
 | ab cs us zb φ => exact hf.elim
def MfObsZ (zs : List Fz) (ob : List (Nat × Ob)) : Prop := ∀ p ∈ ob,MfOb p.2 ∨ ∃ zt φ,p.2 = .ab [] [] zt φ ∧ zt ∈ zs
theorem ObsOk.mfA {zs : List Fz} (hz : ∀ zt ∈ zs,Mz zt z') (hG : z'.G.fam = z.G.fam) (hO : z'.G.own = z.G.own) : ∀ {ob : List (Nat × Ob)} {hp : List (Nat × Hb)},MfObsZ zs ob → ObsOk ρ z ob hp → ObsOk ρ z' ob hp
 | [],_,_,h => h
 | (k,o) :: r,hp,hf,⟨X,hp',h1,h2,h3⟩ => ⟨X,hp',h1,(hf (k,o) (by simp)).elim (fun h => h2.mfA hG hO h) (fun ⟨zt,φ,e,hm⟩ => by
   dsimp only at e
   subst e
   exact ⟨h2.1,hz zt hm,⟨h2.2.2.len,h2.2.2.one,fun j d u e1 => by simp at e1⟩⟩),h3.mfA hz hG hO fun p hp => hf p (by simp [hp])⟩
end
def setP {α : Type} : List Nat → List α → List (Nat × α) → List (Nat × α)
 | p :: ps,v :: vs,tm => setP ps vs ((p,v) :: tm)
 | _,_,tm => tm
def foldP : List Nat → List Value → Array Value → Array Value
 | p :: ps,v :: vs,t => foldP ps vs (t.setIfInBounds p v)
 | _,_,t => t
theorem foldP_eq : ∀ (ps : List Nat) (vs : List Value) (t : Array Value),(ps.zip vs).foldl (fun t (p : Nat × Value) => t.setIfInBounds p.1 p.2) t = foldP ps vs t
 | [],vs,t => by cases vs <;> rfl
 | p :: ps,[],t => rfl
 | p :: ps,v :: vs,t => by simp only [List.zip_cons_cons,List.foldl_cons,foldP];exact foldP_eq ps vs _
theorem Slt.setP {n : Nat} : ∀ {ps : List Nat} {vs : List Value} {tm : List (Nat × Value)} {t : Array Value},(∀ p ∈ ps,p < n) → Slt ⟨n,[]⟩ tm { tmps := t,defers := [] } → Slt ⟨n,[]⟩ (Go.Proofs.YtabmcfnefjipbaaGreatDoor.setP ps vs tm) { tmps := foldP ps vs t,defers := [] }
 | [],vs,tm,t,_,h => by cases vs <;> exact h
 | p :: ps,[],tm,t,_,h => h
 | p :: ps,v :: vs,tm,t,hp,h => Slt.setP (ps := ps) (vs := vs) (fun q hq => hp q (List.mem_cons_of_mem _ hq)) (h.put (hp p List.mem_cons_self) v)
theorem Gd.setP {c : Cx} {ob : List (Nat × Ob)} {h : Hs} {ρ : Rho} {G : FG} : ∀ {ps : List Nat} {ss : List SV} {vs : List Value} {tmS : List (Nat × SV)} {tm : List (Nat × Value)},vs.length = ss.length → (∀ (j : Nat) s v,ss[j]? = some s → vs[j]? = some v → DenS ρ ⟨G,h.w0⟩ s v) → Gd c ⟨tmS,ob⟩ tm h ρ G → Gd c ⟨Go.Proofs.YtabmcfnefjipbaaGreatDoor.setP ps ss tmS,ob⟩ (Go.Proofs.YtabmcfnefjipbaaGreatDoor.setP ps vs tm) h ρ G
 | [],ss,vs,tmS,tm,_,_,g => by cases ss <;> cases vs <;> exact g
 | p :: ps,[],[],tmS,tm,_,_,g => g
 | p :: ps,[],_ :: _,tmS,tm,hl,_,g => by simp at hl
 | p :: ps,_ :: _,[],tmS,tm,hl,_,g => by simp at hl
 | p :: ps,s :: ss,v :: vs,tmS,tm,hl,hd,g => Gd.setP (ps := ps) (ss := ss) (vs := vs) (by simpa using hl) (fun j s v e1 e2 => hd (j + 1) s v (by simpa using e1) (by simpa using e2)) (g.put (hd 0 s v rfl rfl))
theorem Same.putObj {F : Nat → Prop} (w : World) {l : Nat} (o : Obj) (hl : ¬ F l) : Same F w (w.putObj l o) := ⟨rfl,rfl,rfl,by simp,fun b hb => World.putObj_heap_other fun e => hl (e ▸ hb)⟩
instance : PanicOk (fun _ _ _ => False) := ⟨fun _ _ _ _ _ h => h,fun ⟨_,_,h⟩ => h⟩
instance {P : Program} {l : Nat} {R : Ending → World → Prop} : PanicOk (roundPost P l R) := ⟨fun _ _ _ _ _ h => h,fun ⟨_,_,h⟩ => h⟩
def rfφ (l : Nat) (rec : Loop) (G : FG) (w1 : World) (cs : List D) (us : List Value) (S : List (Nat × Ob)) (X : List (Nat × Hb)) : Prop :=
 ∃ (ρ : Rho) (fam : Nat → List Nat) (X1 : List (Nat × Hb)),X = (l,⟨0,[],.l rec⟩) :: X1 ∧ Fam G ⟨G.on,fam,G.own⟩ ∧ ObsOk ρ ⟨⟨G.on,fam,G.own⟩,w1⟩ S X1 ∧ DenL ρ ⟨⟨G.on,fam,G.own⟩,w1⟩ cs us
structure Rst (zs : List Fz) (P : Program) (n : Nat) (rec : Loop) (G : FG) (w1 : World) (tmS : List (Nat × SV)) (pins : List (Nat × D)) (us : List Value) (tm : List (Nat × Value)) : Prop where
 zok : ∀ zt ∈ zs,Mz zt ⟨G,w1⟩
 rdy : rec.state = .ready
 pnd : rec.pending = none
 sz : Slt ⟨n,[]⟩ tm { tmps := rec.tmps,defers := [] }
 pr : ∀ p ∈ rec.params.toList,p < n
 chk : chkP [] tmS = some pins
 nml : ∀ k s,lk k tmS = some s → nmlS s = true → ∃ (ρ : Rho) (v : Value),lk k tm = some v ∧ DenS ρ ⟨G,w1⟩ s v
 pin : ∀ (j : Nat) p u,pins[j]? = some p → us[j]? = some u → lk p.1 tm = some u
abbrev pinOb (pins : List (Nat × D)) (us : List Value) (zb : Fz) : Ob := .ab (pins.map Prod.snd) us zb (· = [])
section
variable {P : Program} {T : List (Nat × Ty)} [hT : Tys P T]
theorem round_yields {zs : List Fz} {n l kp : Nat} {rec : Loop} {G : FG} {w1 : World} {tmS : List (Nat × SV)} {pins : List (Nat × D)} {us : List Value} {tm : List (Nat × Value)} {ss : List SV} {S S' : List (Nat × Ob)} (st : Rst zs P n rec G w1 tmS pins us tm) (hlen : ss.length = rec.params.toList.length) (hnm : ∀ s ∈ ss,NmS s) (hmf : MfObsZ zs S')
  (rnd : ∀ zb : Fz,vcC P T ⟨n,[]⟩ (fun _ _ => False) rec.assign (vcC P T ⟨n,[]⟩ (fun _ _ => False) rec.body (fun _ ob => ∃ src,LeO src ob ((kp,pinOb pins us zb) :: S')) (fun _ _ _ => False)) (fun _ _ _ => False) (setP rec.params.toList ss tmS) ((kp,pinOb pins us zb) :: S)) :
  YieldsA P l ss ⟨⟨G.on,G.fam,fun _ => False⟩,w1⟩ (rfφ l rec G w1 (pins.map Prod.snd) us S) (rfφ l rec G w1 (pins.map Prod.snd) us S') := by
 refine ⟨fun F w Gy ρy X vs hw hφ hz hGF hl hden => ?_⟩
 obtain ⟨ρx,fam,X1,rfl,hfam,hobs,hpin⟩ := hφ
 have hml : (l,(⟨0,[],.l rec⟩ : Hb)) ∈ ((l,(⟨0,[],.l rec⟩ : Hb)) :: X1) := List.mem_cons_self
 have hrec : w.heap[l]? = some (.loop rec) := (hw.blk l _ hml).2
 have hlF : ¬ F l := hw.out l _ hml
 have hnd := hw.nd
 rw [List.map_cons,List.nodup_cons] at hnd
 have hlX : ∀ x,(l,x) ∉ X1 := fun x hx => hnd.1 (List.mem_map.2 ⟨(l,x),hx,rfl⟩)
 have hps : vs.toArray.size = rec.params.size := by rw [List.size_toArray,hl,hlen];simp
 obtain ⟨ck1,ck2⟩ := chkP_ok st.chk
 let zb : Fz := ⟨⟨G.on,G.fam,fun _ => False⟩,w1⟩
 let Fr : Nat → Prop := fun b => F b ∨ b = l
 let Gr : FG := ⟨Gy.on,fam,G.own⟩
 have hzr : Mz ⟨⟨G.on,fam,G.own⟩,w1⟩ ⟨Gr,w⟩ := ⟨hz.g,hz.w,fun _ _ _ h => h⟩
 have hz0 : Mz ⟨G,w1⟩ ⟨Gr,w⟩ := ⟨hz.g,hz.w,hfam.gr⟩
 have hzb : Mz zb ⟨Gr,w⟩ := ⟨hz.g,hz.w,hfam.gr⟩
 have hlt : l < w.heap.size := (Array.getElem?_eq_some_iff.1 hrec).1
 have hp0 : Hp ⟨Fr,w,X1⟩ w := ⟨Same.refl _ _,fun b hb => hb.elim (hw.inF b) fun e => e ▸ hlt,fun b x hx => hw.blk b x (List.mem_cons_of_mem _ hx),hnd.2,fun b x hx hb => hb.elim (hw.out b x (List.mem_cons_of_mem _ hx)) fun e => hlX x (e ▸ hx)⟩
 have g0 : Gd ⟨Fr,w,Gr⟩ ⟨tmS,(kp,pinOb pins us zb) :: S⟩ tm ⟨Fr,w,X1⟩ ρx Gr := by
  refine ⟨fun _ h => h,Same.refl _ _,fun b hb => .inl (hGF b hb),fun b hb => .inl hb,.refl _,fun k s hk => ?_,⟨[],X1,rfl,⟨rfl,hzb,?_⟩,hobs.mono hzr .refl⟩⟩
  ·rcases ck2 k s hk with hn | ⟨x,rfl,hm⟩
   ·obtain ⟨ρ0,v,v1,v2⟩ := st.nml k s hk hn
    exact ⟨v,v1,v2.nml hz0 hn⟩
   ·obtain ⟨j,hj⟩ := List.mem_iff_getElem?.1 hm
    have hj' : (pins.map Prod.snd)[j]? = some x := by rw [List.getElem?_map,hj];rfl
    obtain ⟨u,u1,u2⟩ := hpin.get hj'
    exact ⟨u,st.pin j _ u hj u1,.d (u2.pin (ck1 _ hm).2.2)⟩
  ·refine ⟨hpin.len,hpin.one,fun j d u e1 e2 => ?_⟩
   rw [List.getElem?_map] at e1
   cases hj : pins[j]? with
   | none => simp [hj] at e1
   | some p =>
    simp only [hj,Option.map_some,Option.some.injEq] at e1
    subst e1
    exact (hpin.den j _ u (by rw [List.getElem?_map,hj];rfl) e2).pin (ck1 p (List.mem_of_getElem? hj)).2.2
 have g1 := Gd.setP (ps := rec.params.toList) hl (fun j s v e1 e2 => (hden j s v e1 e2).nm (z' := ⟨Gr,w⟩) rfl rfl (hnm s (List.mem_of_getElem? e1))) g0
 have hs1 := st.sz.setP (vs := vs) st.pr
 have hfold : (rec.params.zip vs.toArray).foldl (fun tmps (t,a) => tmps.setIfInBounds t a) rec.tmps = foldP rec.params.toList vs rec.tmps := by
  rw [← foldP_eq,← Array.foldl_toList]
  simp
 refine ⟨rec.fn,_,rec.assign,rec.body,run_yield hrec hps,roundIn_of_wpIn trivial ?_⟩
 rw [hfold]
 refine (vcC_sound (T := T) (c := ⟨Fr,w,Gr⟩) (nt := ⟨n,[]⟩) rec.assign _ _ _ _ _ ρx Gr _ ?_ (fun _ _ _ _ _ _ _ k => k.elim) (fun _ _ _ _ _ _ k => k.elim) g1 (rnd zb)).out _ w hs1 hp0 (some l)
 intro st1 tm1 h1 ρ1 G1 gg1 hk1
 refine ⟨fun a1 w1' ha1 hw1 => ?_⟩
 have hl1 : w1'.heap[l]? = some (.loop rec) := (hw1.same.block l (gg1.fF l (.inr rfl))).trans ((gg1.fw.block l (.inr rfl)).trans hrec)
 have hlt1 : l < w1'.heap.size := (Array.getElem?_eq_some_iff.1 hl1).1
 have hlo : ∀ x,(l,x) ∉ h1.hp := fun x hx => hw1.out l x hx (gg1.fF l (.inr rfl))
 have hlG : ¬ G1 l := fun hb => (gg1.gx l hb).elim (fun hb => hlF (hGF l hb)) fun hb => hb (.inr rfl)
 refine ⟨w1'.putObj l (.loop { rec with state := .busy }),run_beginRound hl1 st.rdy,?_⟩
 obtain ⟨w2,hw2⟩ : ∃ w2,w1'.putObj l (.loop { rec with state := .busy }) = w2 := ⟨_,rfl⟩
 rw [hw2]
 have hoth : ∀ b,b ≠ l → w2.heap[b]? = w1'.heap[b]? := fun b hb => by rw [← hw2];exact World.putObj_heap_other hb
 have hbusy : w2.heap[l]? = some (.loop { rec with state := .busy }) := by rw [← hw2];exact World.putObj_heap_same hlt1
 have hsz2 : w2.heap.size = w1'.heap.size := by rw [← hw2];simp
 have hm2 : Mz ⟨G1,h1.w0⟩ ⟨G1,w2⟩ := ⟨fun _ h => h,fun b hb => (hoth b fun e => hlG (e ▸ hb)).trans (hw1.same.block b (gg1.gF b hb)),fun _ _ _ h => h⟩
 have hp2 : Hp ⟨h1.F,w2,h1.hp⟩ w2 := ⟨Same.refl _ _,fun b hb => by rw [hsz2];exact hw1.Flt hb,fun b x hx => (hw1.blk b x hx).of_block (hoth b fun e => hlo x (e ▸ hx)),hw1.nd,hw1.out⟩
 have gg2 : Gd ⟨Fr,w2,G1⟩ st1 tm1 ⟨h1.F,w2,h1.hp⟩ ρ1 G1 := ⟨gg1.fF,Same.refl _ _,gg1.gF,fun b hb => .inl hb,.refl _,fun k s hk => let ⟨v,v1,v2⟩ := gg1.tm k s hk;⟨v,v1,v2.mono hm2 .refl⟩,gg1.ob.mono hm2 .refl⟩
 refine (vcC_sound (T := T) (c := ⟨Fr,w2,G1⟩) (nt := ⟨n,[]⟩) rec.body _ _ _ _ _ ρ1 G1 _ ?_ (fun _ _ _ _ _ _ _ k => k.elim) (fun _ _ _ _ _ _ k => k.elim) gg2 hk1).out a1 w2 ha1 hp2 (some l)
 intro st2 tm2 h2 ρ2 G2 gg3 hk3
 obtain ⟨src,hle⟩ := hk3
 obtain ⟨F3,w03,hp3⟩ := h2
 obtain ⟨hp',hh,gg4⟩ := gg3.leF (S := ⟨[],(kp,pinOb pins us zb) :: S'⟩) ⟨.nil,hle⟩
 refine ⟨fun a3 w3 ha3 hw3' => ?_⟩
 have hw3 := hh w3 hw3'
 obtain ⟨X0,hpS,e0,⟨q1,q2,q3⟩,q4⟩ := gg4.ob
 have q1' : X0 = [] := q1
 subst q1'
 have e0' : hp' = hpS := e0
 subst e0'
 have hl3 : w3.heap[l]? = some (.loop { rec with state := .busy }) := (hw3.same.block l (gg4.fF l (.inr rfl))).trans ((gg4.fw.block l (.inr rfl)).trans hbusy)
 have hlt3 : l < w3.heap.size := (Array.getElem?_eq_some_iff.1 hl3).1
 have hlo3 : ∀ x,(l,x) ∉ hp' := fun x hx => hw3.out l x hx (gg4.fF l (.inr rfl))
 have hend := run_endRound (P := P) none hl3
 have hre : ({ { rec with state := .busy } with state := if (none : Option Code).isNone then .ready else .done,pending := none } : Loop) = rec := by
  have e1 := st.rdy
  have e2 := st.pnd
  obtain ⟨s,p,f,t,pa,asg,bo,df⟩ := rec
  simp only at e1 e2
  subst e1 e2
  rfl
 rw [hre] at hend
 refine ⟨_,_,hend,rfl,(l,⟨0,[],.l rec⟩) :: hp',⟨srcR src ρ2,G2.fam,hp',rfl,?_,?_,?_⟩,?_⟩
 ·refine ⟨rfl,fun k hk => ?_,fun k i b hb => gg4.fm.gr k i b (gg1.fm.gr k i b (hfam.gr k i b hb))⟩
  have e1 : G2.fam k = G1.fam k := gg4.fm.eq k (by show ¬ G1.own k;rw [gg1.fm.own];exact hk)
  have e2 : G1.fam k = fam k := gg1.fm.eq k hk
  exact e1.trans (e2.trans (hfam.eq k hk))
 ·refine q4.mfA (z := ⟨G2,w03⟩) (z' := ⟨⟨G.on,G2.fam,G.own⟩,w1⟩) (fun zt hzt => (st.zok zt hzt).trans ⟨fun _ h => h,fun _ _ => rfl,?_⟩) rfl ?_ hmf
  ·exact fun k i b hb => gg4.fm.gr k i b (gg1.fm.gr k i b (hfam.gr k i b hb))
  show G.own = G2.own
  rw [gg4.fm.own]
  exact gg1.fm.own.symm
 ·refine ⟨q3.len,q3.one,fun j d u e1 e2 => ?_⟩
  rw [List.getElem?_map] at e1
  cases hj : pins[j]? with
  | none => simp [hj] at e1
  | some p =>
   simp only [hj,Option.map_some,Option.some.injEq] at e1
   subst e1
   exact (q3.den j _ u (by rw [List.getElem?_map,hj];rfl) e2).pin (ck1 p (List.mem_of_getElem? hj)).2.2
 ·have s1 : Same F w w1' := (gg1.fw.trans (hw1.same.mono gg1.fF)).mono fun b hb => .inl hb
  have s2 : Same F w1' w2 := by rw [← hw2];exact Same.putObj w1' _ hlF
  have s3 : Same F w2 w3 := (gg4.fw.trans (hw3.same.mono gg4.fF)).mono fun b hb => .inl hb
  refine ⟨((s1.trans s2).trans s3).trans (Same.putObj w3 _ hlF),hw.inF,fun b x hx => ?_,?_,fun b x hx hb => ?_⟩
  ·rcases List.mem_cons.1 hx with hx | hx
   ·cases hx;exact ⟨rfl,World.putObj_heap_same hlt3⟩
   ·exact (hw3.blk b x hx).of_block (World.putObj_heap_other fun e => hlo3 x (e ▸ hx))
  ·rw [List.map_cons,List.nodup_cons]
   exact ⟨fun hm => by obtain ⟨⟨_,x⟩,hx,rfl⟩ := List.mem_map.1 hm;exact hlo3 x hx,hw3.nd⟩
  ·rcases List.mem_cons.1 hx with hx | hx
   ·cases hx;exact hlF hb
   ·exact hw3.out b x hx (gg4.fF b (.inl hb))
end
end Go.Proofs.YtabmcfnefjipbaaGreatDoor
namespace Go.Proofs.YtabmcfnefjipbaaGreatDoor
open Go.RowKit
abbrev markD (D : Nat) : Deferred := { target := .collected D,args := #[] }
structure CxD (c : Cx) (D : Nat) (c' : Cx) : Prop where
 F : ∀ b,c'.F b ↔ c.F b ∨ b = D
 nF : ¬ c.F D
 nG : ¬ c.G D
 G : c'.G = c.G
 df : c'.w.heap[D]? = some (.deferred (some []))
 same : Same c.F c.w c'.w
def runs (F : Fence) (n : Nat) (P : Program) : List Code → (Exit → Act → World → Prop) → Act → World → Prop
 | [],Q,a,w => Q .normal a w
 | b :: bs,Q,a,w => b.wpIn F n P (Exit.then (runs F n P bs Q) Q) a w
theorem runs_seq {F : Fence} {n : Nat} {P : Program} {x y : Code} {bs : List Code} {Q : Exit → Act → World → Prop} {a : Act} {w : World} (h : runs F n P (x :: y :: bs) Q a w) : runs F n P (.seq x y :: bs) Q a w := by
 refine wpIn_seq (wpIn_mono h fun e a w hq => ?_)
 cases e <;> exact hq
structure Rf (P : Program) (T : List (Nat × Ty)) (n : Nat) (g : Operand) (ps : Array Tmp) (assign body : Code) (KB : Nat → Kt) (tmT : List (Nat × SV)) (ob : List (Nat × Ob)) : Prop where
 out : ∃ (ι : Type) (Φ : ι → Prop) (Fin : ι → Prop) (Arg : ι → List SV → Prop) (nx : ι → List SV → ι) (S : ι → List (Nat × Ob)) (x0 : ι) (tmS : List (Nat × SV)) (pins : List (Nat × D)) (src : Src) (f : FuncId) (ks : List SV) (kp : Nat) (zs : List Fz),
  Φ x0 ∧ (∀ zt ∈ zs,∃ k φ,lk k (S x0) = some (.ab [] [] zt φ)) ∧ LeSt src ⟨tmT,ob⟩ ⟨tmS,S x0⟩ ∧ chkP [] tmS = some pins ∧ fnT (evT tmS g) = some (f,ks) ∧ (∀ s ∈ ks,nmlS s = true) ∧ (ps.toList.all fun p => Nat.blt p n) = true ∧
  (∀ x,Φ x → MfObsZ zs (S x)) ∧ (∀ x ss,Φ x → Arg x ss → Φ (nx x ss) ∧ ss.length = ps.toList.length ∧ ∀ s ∈ ss,NmS s) ∧
  (∀ x ss,Φ x → Arg x ss → ∀ (us : List Value) (zb : Fz),vcC P T ⟨n,[]⟩ (fun _ _ => False) assign (vcC P T ⟨n,[]⟩ (fun _ _ => False) body (fun _ ob => ∃ src,LeO src ob ((kp,pinOb pins us zb) :: S (nx x ss))) (fun _ _ _ => False)) (fun _ _ _ => False) (setP ps.toList ss tmS) ((kp,pinOb pins us zb) :: S x)) ∧
  (∀ (l : Nat) (zb : Fz) (φ : ι → List (Nat × Hb) → Prop),(∀ x ss,Φ x → Arg x ss → YieldsA P l ss zb (φ x) (φ (nx x ss))) → CallsA P f (yv l :: ks) [(900,.ab [] [] zb (φ x0))] fun _ ob => ∃ x,Φ x ∧ Fin x ∧ ob = [(900,.ab [] [] zb (φ x))]) ∧
  ∀ x,Φ x → Fin x → ∀ D,KB D tmS (S x)
def vcHL (P : Program) (T : List (Nat × Ty)) (nt : Nt) (Kr : Kt) (KL : Operand → Array Tmp → Code → Code → List Code → Kt) (Kn : Kt) : Nat → List Code → Kt
 | 0,_ => fun _ _ => False
 | _ + 1,[] => Kn
 | f + 1,.seq x y :: r => vcHL P T nt Kr KL Kn f (x :: y :: r)
 | _ + 1,.block _ (.rangeFunc g ps asg bd) :: r => KL g ps asg bd r
 | f + 1,c :: r => vcC P T nt Kr c (vcHL P T nt Kr KL Kn f r) (fun _ _ _ => False)
def onlyN (K : Act → World → Prop) : Exit → Act → World → Prop
 | .normal,a,w => K a w
 | _,_,_ => False
section
variable {P : Program} {T : List (Nat × Ty)} [hT : Tys P T]
def bodyQ (P : Program) (fn : Func) (R : Ending → World → Prop) : Exit → Act → World → Prop
 | .normal,a,w => LeavesInM (RF none) 0 P fn a.tmps R a.defers .returning w
 | .ret,a,w => LeavesInM (RF none) 0 P fn a.tmps R a.defers .returning w
 | _,_,_ => False
instance {P : Program} {fn : Func} {R : Ending → World → Prop} : PanicOk (bodyQ P fn R) := ⟨fun _ _ _ _ _ h => h,fun ⟨_,_,h⟩ => h⟩
theorem vcHL_sound {n : Nat} {nd : List Deferred} {Kr : Kt} {KL : Operand → Array Tmp → Code → Code → List Code → Kt} {Kn : Kt} {c : Cx} {Q : Exit → Act → World → Prop} [PanicOk Q] (hn : ∀ st tm h ρ G,Gd c st tm h ρ G → Kn st.tm st.ob → ∀ a w,Slt ⟨n,nd⟩ tm a → Hp h w → Q .normal a w) (hr : ∀ st tm h ρ G,Gd c st tm h ρ G → Kr st.tm st.ob → AWq ⟨n,nd⟩ Q .ret tm h)
  (hL : ∀ i g ps asg bd r st tm h ρ G,Gd c st tm h ρ G → KL g ps asg bd r st.tm st.ob → ∀ a w,Slt ⟨n,nd⟩ tm a → Hp h w → runs (RF none) 0 P (.block i (.rangeFunc g ps asg bd) :: r) Q a w) :
  ∀ (f : Nat) (l : List Code) (st : St) (tm : List (Nat × Value)) (h : Hs) (ρ : Rho) (G : FG),Gd c st tm h ρ G → vcHL P T ⟨n,nd⟩ Kr KL Kn f l st.tm st.ob → ∀ a w,Slt ⟨n,nd⟩ tm a → Hp h w → runs (RF none) 0 P l Q a w := by
 have gen : ∀ (f : Nat) (cd : Code) (r : List Code),(∀ (st : St) (tm : List (Nat × Value)) (h : Hs) (ρ : Rho) (G : FG),Gd c st tm h ρ G → vcHL P T ⟨n,nd⟩ Kr KL Kn f r st.tm st.ob → ∀ a w,Slt ⟨n,nd⟩ tm a → Hp h w → runs (RF none) 0 P r Q a w) → ∀ (st : St) (tm : List (Nat × Value)) (h : Hs) (ρ : Rho) (G : FG),Gd c st tm h ρ G → vcC P T ⟨n,nd⟩ Kr cd (vcHL P T ⟨n,nd⟩ Kr KL Kn f r) (fun _ _ _ => False) st.tm st.ob → ∀ a w,Slt ⟨n,nd⟩ tm a → Hp h w → runs (RF none) 0 P (cd :: r) Q a w := by
  intro f cd r ih st tm h ρ G g k a w ha hw
  refine (vcC_sound (T := T) (c := c) (nt := ⟨n,nd⟩) cd _ _ _ _ _ ρ G (Exit.then (runs (RF none) 0 P r Q) Q) (fun st tm h ρ G g k => ⟨fun a w ha hw => ih st tm h ρ G g k a w ha hw⟩) (fun _ _ _ _ _ _ _ k => k.elim) (fun st tm h ρ G g k => ⟨fun a w ha hw => (hr st tm h ρ G g k).out a w ha hw⟩) g k).out a w ha hw none
 intro f
 induction f with
 | zero => intro l st tm h ρ G g k;exact k.elim
 | succ f ih =>
  intro l st tm h ρ G g k a w ha hw
  cases l with
  | nil => exact hn st tm h ρ G g k a w ha hw
  | cons x r =>
   have gn := fun k => gen f x r (ih r) st tm h ρ G g k a w ha hw
   cases x with
   | seq x y => exact runs_seq (ih (x :: y :: r) st tm h ρ G g k a w ha hw)
   | block i y => cases y <;> first | exact hL _ _ _ _ _ _ st tm h ρ G g k a w ha hw | exact gn k
   | _ => exact gn k
structure KrOk (P : Program) (fn : Func) (Kr : Kt) (Q : SV → List (Nat × Ob) → Prop) : Prop where
 out : ∀ (nt : Nt) (c : Cx) (st : St) (tm : List (Nat × Value)) (h : Hs) (ρ : Rho) (G : FG),Gd c st tm h ρ G → Kr st.tm st.ob → ∀ (a : Act) w,Slt nt tm a → Hp h w → a.defers = nt.d ∧ ∃ v,(results fn a.tmps).run P w = .ok v w ∧ Ans c Q (.returned v) w
theorem leave_mark {n D : Nat} {fn : Func} {Kr : Kt} {Q : SV → List (Nat × Ob) → Prop} (hk : KrOk P fn Kr Q) {c c' : Cx} {st : St} {tm : List (Nat × Value)} {h : Hs} {ρ : Rho} {G : FG} (hx : CxD c D c') (g : Gd c' st tm h ρ G) (k : Kr st.tm st.ob) (a : Act) (w : World) (ha : Slt ⟨n,[markD D]⟩ tm a) (hw : Hp h w) : LeavesInM (RF none) 0 P fn a.tmps (Ans c Q) a.defers .returning w := by
 have hFD : h.F D := g.fF D ((hx.F D).2 (.inr rfl))
 have hD : w.heap[D]? = some (.deferred (some [])) := (hw.same.block D hFD).trans ((g.fw.block D ((hx.F D).2 (.inr rfl))).trans hx.df)
 have hGD : ¬ G D := fun hb => (g.gx D hb).elim (fun hb => hx.nG (hx.G ▸ hb)) fun hb => hb ((hx.F D).2 (.inr rfl))
 obtain ⟨w2,hw2⟩ : ∃ w2,w.putObj D (.deferred none) = w2 := ⟨_,rfl⟩
 have htake := run_takeDeferred (P := P) hD
 rw [hw2] at htake
 have hoth : ∀ b,b ≠ D → w2.heap[b]? = w.heap[b]? := fun b hb => by rw [← hw2];exact World.putObj_heap_other hb
 have hsz : w2.heap.size = w.heap.size := by rw [← hw2];simp
 have hm : Mz ⟨G,h.w0⟩ ⟨G,w2⟩ := ⟨fun _ h => h,fun b hb => (hoth b fun e => hGD (e ▸ hb)).trans (hw.same.block b (g.gF b hb)),fun _ _ _ h => h⟩
 have s0 : Same c.F w w2 := by rw [← hw2];exact Same.putObj w _ hx.nF
 have g2 : Gd c st tm ⟨fun b => h.F b ∧ b ≠ D,w2,h.hp⟩ ρ G := by
  refine ⟨fun b hb => ⟨g.fF b ((hx.F b).2 (.inl hb)),fun e => hx.nF (e ▸ hb)⟩,?_,fun b hb => ⟨g.gF b hb,fun e => hGD (e ▸ hb)⟩,fun b hb => ?_,?_,fun k s hk => ?_,g.ob.mono hm .refl⟩
  ·have s1 : Same c.F c.w c'.w := hx.same
   have s2 : Same c.F c'.w h.w0 := g.fw.mono fun b hb => (hx.F b).2 (.inl hb)
   have s3 : Same c.F h.w0 w := hw.same.mono fun b hb => g.fF b ((hx.F b).2 (.inl hb))
   exact ((s1.trans s2).trans s3).trans s0
  ·rcases g.gx b hb with q | q
   ·exact .inl (hx.G ▸ q)
   ·exact .inr fun hc => q ((hx.F b).2 (.inl hc))
  ·have := g.fm
   rwa [hx.G] at this
  ·obtain ⟨v,v1,v2⟩ := g.tm k s hk
   exact ⟨v,v1,v2.mono hm .refl⟩
 have hw3 : Hp ⟨fun b => h.F b ∧ b ≠ D,w2,h.hp⟩ w2 := ⟨Same.refl _ _,fun b hb => by rw [hsz];exact hw.Flt hb.1,fun b x hx => (hw.blk b x hx).of_block (hoth b fun e => hw.out b x hx (e ▸ hFD)),hw.nd,fun b x hx hb => hw.out b x hx hb.1⟩
 obtain ⟨q1,v,q2,q3⟩ := hk.out ⟨n,[markD D]⟩ c st tm _ ρ G g2 k a w2 ha hw3
 rw [q1]
 exact ⟨by simp,.inl ⟨D,w2,rfl,htake,v,q2,q3⟩⟩
end
end Go.Proofs.YtabmcfnefjipbaaGreatDoor
namespace Go.Proofs.YtabmcfnefjipbaaGreatDoor
open Go.RowKit
section
variable {P : Program} {T : List (Nat × Ty)} [hT : Tys P T] {nt : Nt} {Q : Exit → Act → World → Prop} {ty : TypeId} {pos : String} {af : Array Edge} {gd : Option (Nat × Bool)} {K : Kt}
end
end Go.Proofs.YtabmcfnefjipbaaGreatDoor
namespace Go.Proofs.YtabmcfnefjipbaaGreatDoor
open Go.RowKit
theorem Ghost.trunc {tmT : List (Nat × SV)} {ob : List (Nat × Ob)} (k m : Nat) {t : TypeId} {sz : Nat} {rs ss : List (List V)} (hk : lk k ob = some (.ar t sz rs)) (hm : m ≤ rs.length) (hs : rs.take m = ss) : Ghost tmT ob tmT (obu k (.ar t sz ss) ob) := ⟨fun c tm h ρ G w g hw => by
 obtain ⟨F,w0,hp⟩ := h
 subst hs
 obtain ⟨X,f,⟨A,cc,us,rfl,g2,g3,g3',g3''⟩,g4,hupd,_⟩ := g.ob.set hk
 have hperm : ∀ Y,(f Y).Perm (Y ++ f []) := g4.perm
 have hpX : hp.Perm (hbA A t us cc sz ++ f []) := by have := hperm (hbA A t us cc sz);rwa [g4.eq] at this
 have hlen : (rs.take m).length = m := by rw [List.length_take,Nat.min_eq_left hm]
 have hfl : (rs.take m).flatten = rs.flatten.take (m * sz) := by
  conv => rhs;rw [← List.take_append_drop m rs,List.flatten_append]
  rw [List.take_left' (by rw [flat_len (sz := sz) (fun r h => g3'' r (List.mem_of_mem_take h)),hlen])]
 have hul : m * sz ≤ us.length := by rw [g3.len];exact Nat.mul_le_mul_right _ hm
 have hok : OkA A (us.take (m * sz)) (rs.take m).length cc sz := by
  rw [hlen]
  refine ⟨?_,by rw [List.length_take,Nat.min_eq_left hul],Nat.le_trans hm g3.cap,g3.max⟩
  rcases g3.form with ⟨e1,e2,e3⟩ | e
  ·exact .inl ⟨e1,by omega,e3⟩
  ·exact .inr e
 have hden : DenVL ⟨G,w0⟩ (rs.take m).flatten (us.take (m * sz)) := by
  rw [hfl]
  refine ⟨by rw [List.length_take,List.length_take,g3'.len],by rw [List.all_eq_true];intro x hx;exact List.all_eq_true.1 g3'.one x (List.mem_of_mem_take hx),fun j d u e1 e2 => ?_⟩
  have hj : j < m * sz := by have := (List.getElem?_eq_some_iff.1 e1).1;simp at this;omega
  rw [List.getElem?_take_of_lt hj] at e1 e2
  exact g3'.den j d u e1 e2
 have hob := hupd (.ar t sz (rs.take m)) (hbA A t (us.take (m * sz)) cc sz) ⟨A,cc,_,rfl,g2,hok,hden,fun r hr => g3'' r (List.mem_of_mem_take hr)⟩
 refine ⟨⟨F,w0,f (hbA A t (us.take (m * sz)) cc sz)⟩,ρ,G,⟨g.fF,g.fw,g.gF,g.gx,g.fm,g.tm,hob⟩,?_⟩
 refine Hp.perm ?_ (hperm _).symm
 refine (hw.perm hpX).shl (ShL.append ?_ (ShL.refl _))
 rcases A with _ | a
 ·exact .nil
 ·exact .cons ⟨rfl,rfl,rfl,us.drop (m * sz),by simp⟩ .nil⟩
end Go.Proofs.YtabmcfnefjipbaaGreatDoor
namespace Go.Proofs.YtabmcfnefjipbaaGreatDoor
open Go.RowKit
section
variable {P : Program} {T : List (Nat × Ty)} [hT : Tys P T] {nt : Nt} {Q : Exit → Act → World → Prop} {ty : TypeId} {pos : String} {af : Array Edge} {gd : Option (Nat × Bool)} {K : Kt}
end
end Go.Proofs.YtabmcfnefjipbaaGreatDoor
namespace Go.Proofs.YtabmcfnefjipbaaGreatDoor
open Go.RowKit
theorem mem_inN : ∀ {ks : List Nat} {k : Nat},inN ks k = true → k ∈ ks
 | [],k,h => by cases h
 | j :: r,k,h => by
  simp only [inN] at h
  cases hb : Nat.beq k j
  ·rw [hb] at h;exact List.mem_cons_of_mem _ (mem_inN h)
  ·rw [Nat.eq_of_beq_eq_true hb];exact List.mem_cons_self
def noKey (ks : List Nat) : List (Nat × Ob) → Bool
 | [] => true
 | (k,_) :: r => bif inN ks k then false else noKey ks r
theorem noKey_mem {ks : List Nat} : ∀ {ob : List (Nat × Ob)},noKey ks ob = true → ∀ k o,(k,o) ∈ ob → inN ks k = false
 | [],_,k,o,hm => by cases hm
 | (j,x) :: r,h,k,o,hm => by
  simp only [noKey] at h
  cases hj : inN ks j <;> rw [hj] at h
  ·rcases List.mem_cons.1 hm with hm | hm
   ·cases hm;exact hj
   ·exact noKey_mem h k o hm
  ·cases h
structure CallsP (P : Program) (f : FuncId) (ss : List SV) (ob : List (Nat × Ob)) (ks : List Nat) (Q : SV → List (Nat × Ob) → Prop) : Prop where
 fn : FnOk P f
 out : ∀ (c : Cx) (ρ : Rho) (hp : List (Nat × Hb)) (vs : List Value) (w : World),Hp ⟨c.F,c.w,hp⟩ w → vs.length = ss.length → Gd c ⟨slT 0 ss,ob⟩ (slots 0 vs) ⟨c.F,c.w,hp⟩ ρ c.G →
  Calls P f vs.toArray w fun e w' => ∃ v h' s ob' ρ' G',e = .returned v ∧ Hp h' w' ∧ Gd c ⟨[(0,s)],ob'⟩ [(0,v)] h' ρ' G' ∧ Q s ob' ∧ ∀ k,inN ks k = true → ρ' k = ρ k ∧ ρ'.os k = ρ.os k
structure BkP (d : Option Tmp) (ns ks : List Nat) (tmK : List (Nat × SV)) (obF : List (Nat × Ob)) (K : Kt) (s : SV) (ob' : List (Nat × Ob)) : Prop where
 a : s.okP (fun k => bif inN ns k then true else inN ks k) = true
 b : okO (fun k => bif inN ns k then true else inN ks k) ob' = true
 k : K (match d with | some d => (d,s) :: tmK | none => tmK) (ob' ++ obF)
def norD : D → Bool
 | .r _ _ _ _ _ => false
 | .re _ _ _ _ _ => false
 | _ => true
def NorS : SV → Prop
 | .d x => norD x = true
 | .a xs => ∀ x ∈ xs,norD x = true
 | .t _ => False
section
variable {ρ ρ' : Rho} {z : Fz}
theorem Den.nor (e : ∀ k,ρ' k = ρ k) {d : D} {v : Value} (hd : norD d = true) (h : Den ρ z d v) : Den ρ' z d v := by
 cases h with
 | u h => exact .u h
 | ow h hA hc => exact .ow (by rw [e];exact h) hA hc
 | p h => exact .p (by rw [e];exact h)
 | e h => exact .e (by rw [e];exact h)
 | q hb hu hd' => exact .q hb hu hd'
 | fn us hl hu =>
  refine .fn us hl fun j i u h1 h2 => ?_
  obtain ⟨b,c,sz,h3,h4⟩ := hu j i u h1 h2
  exact ⟨b,c,sz,by rw [e];exact h3,h4⟩
 | mp h hA => exact .mp (by rw [e];exact h) hA
 | r => cases hd
 | re => cases hd
 | ows h hc => exact .ows (by rw [e];exact h) hc
 | any h1 => exact .any h1
theorem DenL.nor (e : ∀ k,ρ' k = ρ k) {cs : List D} {us : List Value} (hd : ∀ x ∈ cs,norD x = true) (h : DenL ρ z cs us) : DenL ρ' z cs us :=
 ⟨h.len,h.one,fun j d u h1 h2 => (h.den j d u h1 h2).nor e (hd d (List.mem_of_getElem? h1))⟩
theorem DenS.nor (e : ∀ k,ρ' k = ρ k) {s : SV} {v : Value} (hd : NorS s) (h : DenS ρ z s v) : DenS ρ' z s v := by
 cases h with
 | d h => exact .d (h.nor e hd)
 | a h => exact .a (h.nor e hd)
 | t => exact hd.elim
theorem CellsOk.nor {k i o : Nat} {es : List E} {us : List Value} {X : List (Nat × Hb)} (h : CellsOk ρ z k i o es us X) : (∀ e ∈ es,∃ x,e = .v x) → CellsOk ρ' z k i o es us X := by
 induction h with
 | nil => exact fun _ => .nil
 | @cons o e u X es us Y h1 _ ih => exact fun hv => .cons (by obtain ⟨x,hx⟩ := hv e List.mem_cons_self;subst hx;exact h1) (ih fun e he => hv e (List.mem_cons_of_mem _ he))
theorem FamOk.nor {k : Nat} {ty : TypeId} {i : Nat} {bs : List Nat} {rs : List (List E)} {X : List (Nat × Hb)} (h : FamOk ρ z k ty i bs rs X) : (∀ row ∈ rs,∀ e ∈ row,∃ x,e = .v x) → FamOk ρ' z k ty i bs rs X := by
 induction h with
 | nil => exact fun _ => .nil
 | cons h1 _ ih => exact fun hv => .cons (h1.nor (hv _ List.mem_cons_self)) (ih fun r hr => hv r (List.mem_cons_of_mem _ hr))
end
theorem ObsOk.bx {ρ : Rho} {z : Fz} {ob : List (Nat × Ob)} {hp : List (Nat × Hb)} {k t : Nat} {cs : List D} (h : ObsOk ρ z ob hp) (hk : lk k ob = some (.bx t cs)) : ∃ b,ρ k = some ⟨some ⟨b,0,none⟩,1,cs.length⟩ := by
 obtain ⟨X,f,⟨b,us,_,h2,_⟩,_⟩ := h.at_ hk
 exact ⟨b,h2⟩
section
variable {P : Program} {nt : Nt} {Q : Exit → Act → World → Prop} {c : Cx} {st : St} {tm : List (Nat × Value)} {h : Hs} {ρ : Rho} {G : FG} {ty : TypeId} {pos : String} {af : Array Edge} {gd : Option (Nat × Bool)} {K : Kt}
theorem callP_vals {f : FuncId} {ss : List SV} {obP obF : List (Nat × Ob)} {tmS tmK : List (Nat × SV)} {ns ks : List Nat} {QS : SV → List (Nat × Ob) → Prop} (g : Gd c ⟨tmS,obP ++ obF⟩ tm h ρ G) {vs : List Value} (a2 : vs.length = ss.length) (a3 : ∀ (j : Nat) s v,ss[j]? = some s → vs[j]? = some v → DenS ρ ⟨G,h.w0⟩ s v) (hk : ∀ k s,lk k tmK = some s → lk k tmS = some s)
  (h1 : okTm (fun k => !inN ns k) tmK = true) (h2 : okO (fun k => !inN ns k) obF = true) (h3 : okO (fun k => bif inN ns k then true else inN ks k) obP = true) (h4 : noKey ks obF = true) (hc : CallsP P f ss obP ks QS) :
  ∀ w,Hp h w → Calls P f vs.toArray w fun e w' => ∃ v h' s ob' ρ' G',e = .returned v ∧ Hp h' w' ∧ QS s ob' ∧ (s.okP (fun k => bif inN ns k then true else inN ks k) = true → okO (fun k => bif inN ns k then true else inN ks k) ob' = true → DenS ρ' ⟨G',h'.w0⟩ s v ∧ Gd c ⟨tmK,ob' ++ obF⟩ tm h' ρ' G') := by
 intro w hw
 obtain ⟨F,w0,hp⟩ := h
 obtain ⟨hpP,hpF,e0,oP,oF⟩ := ObsOk.split g.ob
 dsimp only at e0 oP oF
 subst e0
 have hnd := hw.nd
 rw [List.map_append,List.nodup_append] at hnd
 have hbF : ∀ b,Bl hpF b → ¬ F b := fun b ⟨x,hx⟩ => hw.out b x (List.mem_append_right _ hx)
 have hPF : ∀ b x,(b,x) ∈ hpP → ¬ Bl hpF b := fun b x hx ⟨y,hy⟩ => hnd.2.2 b (List.mem_map_of_mem (f := Prod.fst) hx) b (List.mem_map_of_mem (f := Prod.fst) hy) rfl
 have hm0 : Mz ⟨G,w0⟩ ⟨⟨G.on,G.fam,famIn obP⟩,w⟩ := ⟨fun _ h => h,fun b hb => hw.same.block b (g.gF b hb),fun _ _ _ h => h⟩
 refine (hc.out ⟨fun b => F b ∨ Bl hpF b,w,⟨G.on,G.fam,famIn obP⟩⟩ ρ hpP vs w ⟨Same.refl _ _,fun b hb => ?_,fun b x hx => hw.blk b x (List.mem_append_left _ hx),hnd.1,fun b x hx hb => ?_⟩ a2 ⟨fun _ h => h,Same.refl _ _,fun b hb => .inl (g.gF b hb),fun b hb => .inl hb,.refl _,fun k s hk => ?_,?_⟩).mono ?_
 ·rcases hb with hb | ⟨x,hx⟩
  ·exact hw.Flt hb
  ·exact (hw.blk b x (List.mem_append_right _ hx)).lt
 ·rcases hb with hb | hb
  ·exact hw.out b x (List.mem_append_left _ hx) hb
  ·exact hPF b x hx hb
 ·obtain ⟨q1,q2⟩ := lk_slT hk
  have hlt : k - 0 < vs.length := by rw [a2];exact (List.getElem?_eq_some_iff.1 q2).1
  exact ⟨vs[k - 0],lk_slots q1 (List.getElem?_eq_getElem hlt),(a3 _ s _ q2 (List.getElem?_eq_getElem hlt)).mono hm0 .refl⟩
 ·refine oP.monoF hm0 .refl fun k o hm => ?_
  refine Fms.of fun t rs e => ?_
  subst e
  exact ⟨rfl,fun _ => ⟨_,_,hm⟩⟩
 ·rintro e w' ⟨v,h',s,ob',ρ',G',rfl,hw',g',hq,hks⟩
  obtain ⟨v',e1,e2⟩ := g'.tm 0 s rfl
  simp only [lk,Nat.beq_refl,cond_true,Option.some.injEq] at e1
  subst e1
  have hkeep : ∀ b,F b ∨ Bl hpF b → w'.heap[b]? = w.heap[b]? := fun b hb => (hw'.same.block b (g'.fF b hb)).trans (g'.fw.block b hb)
  let ρ2 : Rho := ⟨fun k => if inN ns k = true then ρ' k else ρ k,fun k => if inN ns k = true then ρ'.os k else ρ.os k⟩
  have hrr : ∀ k,(bif inN ns k then true else inN ks k) = true → ρ2 k = ρ' k ∧ ρ2.os k = ρ'.os k := fun k hk => by
   show (if inN ns k = true then ρ' k else ρ k) = _ ∧ (if inN ns k = true then ρ'.os k else ρ.os k) = _
   cases hn : inN ns k
   ·rw [hn] at hk
    simp only [cond_false] at hk
    obtain ⟨q1,q2⟩ := hks k hk
    exact ⟨by rw [q1];simp,by rw [q2];simp⟩
   ·simp
  let G2 : FG := ⟨fun b => G b ∨ G' b,G'.fam,G.own⟩
  have hgn : ∀ b,G' b → ¬ Bl hpF b := fun b hb hbl => by
   rcases g'.gx b hb with q | q
   ·exact hbF b hbl (g.gF b q)
   ·exact q (.inr hbl)
  refine ⟨v,⟨fun b => h'.F b ∧ ¬ Bl hpF b,h'.w0,h'.hp ++ hpF⟩,s,ob',ρ2,G2,rfl,⟨hw'.same.mono fun _ hb => hb.1,fun b hb => hw'.inF b hb.1,fun b x hx => ?_,?_,fun b x hx hb => ?_⟩,hq,fun hs ho => ⟨?_,?_⟩⟩
  ·rcases List.mem_append.1 hx with hx | hx
   ·exact hw'.blk b x hx
   ·exact (hw.blk b x (List.mem_append_right _ hx)).of_block (hkeep b (.inr ⟨x,hx⟩))
  ·rw [List.map_append,List.nodup_append]
   refine ⟨hw'.nd,hnd.2.1,fun a ha b hb hab => ?_⟩
   subst hab
   obtain ⟨⟨_,x⟩,hx,rfl⟩ := List.mem_map.1 ha
   obtain ⟨⟨_,y⟩,hy,hxy⟩ := List.mem_map.1 hb
   dsimp only at hxy
   subst hxy
   exact hw'.out _ x hx (g'.fF _ (.inr ⟨y,hy⟩))
  ·rcases List.mem_append.1 hx with hx | hx
   ·exact hw'.out b x hx hb.1
   ·exact hb.2 ⟨x,hx⟩
  ·refine DenS.okP (p := fun k => bif inN ns k then true else inN ks k) (fun k hk => (hrr k hk).1) (fun k hk i o => by rw [(hrr k hk).2]) hs (DenS.mono (z := ⟨G',h'.w0⟩) (z' := ⟨G2,h'.w0⟩) ⟨fun _ hb => Or.inr hb,fun _ _ => rfl,fun _ _ _ h => h⟩ .refl e2)
  ·have hm : Mz ⟨G,w0⟩ ⟨G2,h'.w0⟩ := ⟨fun _ hb => .inl hb,fun b hb => (g'.fw.block b (.inl (g.gF b hb))).trans (hw.same.block b (g.gF b hb)),fun k i b hb => g'.fm.gr k i b hb⟩
   have hno : ∀ k,(!inN ns k) = true → ¬ inN ns k = true := fun k hk => by simpa using hk
   have ee : ∀ k,(!inN ns k) = true → ρ2 k = ρ k := fun k hk => by show (if inN ns k = true then ρ' k else ρ k) = _;rw [if_neg (hno k hk)]
   have eo : ∀ k,(!inN ns k) = true → ∀ i o,ρ2.os k i o = ρ.os k i o := fun k hk i o => by show (if inN ns k = true then ρ'.os k else ρ.os k) i o = _;rw [if_neg (hno k hk)]
   have hfp : ∀ k,¬ famIn obP k → G'.fam k = G.fam k := fun k hk => g'.fm.eq k hk
   refine ⟨fun b hb => ⟨g'.fF b (.inl (g.fF b hb)),fun hbl => hbF b hbl (g.fF b hb)⟩,(g.fw.trans (hw.same.mono g.fF)).trans (g'.fw.mono fun b hb => .inl (g.fF b hb)),fun b hb => ?_,fun b hb => ?_,⟨g.fm.own,fun k hk => ?_,fun k i b hb => g'.fm.gr k i b (g.fm.gr k i b hb)⟩,fun k s0 hk0 => ?_,ObsOk.append ?_ ?_⟩
   ·rcases hb with hb | hb
    ·exact ⟨g'.fF b (.inl (g.gF b hb)),fun hbl => hbF b hbl (g.gF b hb)⟩
    ·exact ⟨g'.gF b hb,hgn b hb⟩
   ·rcases hb with hb | hb
    ·exact g.gx b hb
    ·rcases g'.gx b hb with q | q
     ·exact g.gx b q
     ·exact .inr fun h0 => q (.inl (g.fF b h0))
   ·refine (hfp k fun hf => hk ?_).trans (g.fm.eq k hk)
    rw [← g.fm.own]
    exact oP.fam k hf
   ·obtain ⟨u,u1,u2⟩ := g.tm k s0 (hk k s0 hk0)
    exact ⟨u,u1,(u2.mono hm .refl).okP ee eo (okTm_get h1 k s0 hk0)⟩
   ·refine ObsOk.okP (p := fun k => bif inN ns k then true else inN ks k) (fun k hk => (hrr k hk).1) (fun k hk i o => by rw [(hrr k hk).2]) ho (ObsOk.monoF (z := ⟨G',h'.w0⟩) (z' := ⟨G2,h'.w0⟩) ⟨fun _ hb => Or.inr hb,fun _ _ => rfl,fun _ _ _ h => h⟩ .refl (fun k o hm' => ?_) g'.ob)
    cases o <;> simp only [Fms]
    refine ⟨rfl,fun hown => ?_⟩
    have hown' : famIn obP k := by have := hown;rwa [g'.fm.own] at this
    exact oP.fam k hown'
   ·refine ObsOk.okP ee eo h2 (oF.monoF hm .refl fun k o hm' => ?_)
    refine Fms.of fun t rs e => ?_
    subst e
    refine ⟨hfp k fun ⟨t,rs,hf⟩ => ?_,id⟩
    have q1 := okO_mem h3 k _ hf
    have q2 := okO_mem h2 k _ hm'
    have q3 := noKey_mem h4 k _ hm'
    cases hn : inN ns k
    ·rw [hn] at q1
     simp only [cond_false] at q1
     rw [q1] at q3
     cases q3
    ·rw [hn] at q2
     cases q2
theorem Raw.callFP {x : Operand} {f : FuncId} {ks : List SV} (kk : List Nat) {xs : Array Operand} {ts : Array TypeId} {d : Option Tmp} {tmT tmK : List (Nat × SV)} {ob obP obF : List (Nat × Ob)} (ps ns : List Nat) {ss : List SV} {QS : SV → List (Nat × Ob) → Prop} (hf : fnT (evT tmT x) = some (f,ks)) (hT : keepTm (fun k => !inN ns k) [] tmT = tmK) (hO : (splitOb ps ob).1 = obP) (hO' : cleanOb (fun k => !inN ns k) (splitOb ps ob).2 = obF) (hx : evLT tmT xs.toList = some ss)
  (h2 : okO (fun k => !inN ns k) obF = true) (h3 : okO (fun k => bif inN ns k then true else inN kk k) obP = true) (h4 : noKey kk obF = true) (hd : (match d with | some d => Nat.blt d nt | none => true) = true) (hc : CallsP P f (ss ++ ks) obP kk QS) (k : ∀ s ob',QS s ob' → BkP d ns kk tmK obF K s ob') : Raw P nt ⟨d,.call ⟨.value x,xs,ts⟩,ty,pos,af,gd⟩ tmT ob K := ⟨fun Q c tm h ρ G g => by
 obtain ⟨F,w0,hp⟩ := h
 obtain ⟨ha,hb,o1,o2,o3⟩ := splitOb_ok (ps := ps) g.ob
 rw [hO] at o1
 replace o2 := cleanOb_ok (p := fun k => !inN ns k) o2
 rw [hO'] at o2
 have g2 : Gd c ⟨tmT,obP ++ obF⟩ tm ⟨F,w0,ha ++ hb⟩ ρ G := ⟨g.fF,g.fw,g.gF,g.gx,g.fm,g.tm,o1.append o2⟩
 have hh : ∀ w,Hp ⟨F,w0,hp⟩ w → Hp ⟨F,w0,ha ++ hb⟩ w := fun w hw => hw.perm o3
 subst hT
 obtain ⟨us,u1,u2,u3⟩ := fnT_ev g2 hf
 obtain ⟨vs,a1,a2,a3⟩ := evLT_ev g2 hx
 have hlen : (vs ++ us).length = (ss ++ ks).length := by simp [a2,u2]
 have hden : ∀ (j : Nat) s v,(ss ++ ks)[j]? = some s → (vs ++ us)[j]? = some v → DenS ρ ⟨G,w0⟩ s v := by
  intro j s v h1 h2
  by_cases hj : j < ss.length
  ·rw [List.getElem?_append_left hj] at h1
   rw [List.getElem?_append_left (by rw [a2];exact hj)] at h2
   exact a3 j s v h1 h2
  ·rw [List.getElem?_append_right (by omega)] at h1
   rw [List.getElem?_append_right (by rw [a2];omega),a2] at h2
   exact u3 _ s v h1 h2
 have hcall := callP_vals (tmK := keepTm (fun k => !inN ns k) [] tmT) g2 hlen hden (fun k s h => (keepTm_get h).2) keepTm_ok h2 h3 h4 hc
 obtain ⟨fn,cd,f1,f2,f3⟩ := hc.fn
 have hxs : xs = xs.toList.toArray := by simp
 rw [hxs]
 refine OpS.callV (P := P) (nt := nt) (Q := Q) (fun v h2 => Kd c K (putD d v tm) h2) u1 f1 f2 f3 a1 hd (fun w hw => (hcall w (hh w hw)).mono ?_) fun _ _ hk => hk
 rintro e w' ⟨v,h3,s,ob',ρ',G',rfl,hw3,hq,hg⟩
 obtain ⟨b1,b2,b3⟩ := k s ob' hq
 obtain ⟨q1,q2⟩ := hg b1 b2
 cases d with
 | some d => exact ⟨v,h3,rfl,hw3,.of (q2.put q1) b3⟩
 | none => exact ⟨v,h3,rfl,hw3,.of q2 b3⟩⟩
end
end Go.Proofs.YtabmcfnefjipbaaGreatDoor
namespace Go.Proofs.YtabmcfnefjipbaaGreatDoor
open Go.RowKit
section
variable {P : Program} {nt : Nt} {Q : Exit → Act → World → Prop} {ty : TypeId} {pos : String} {af : Array Edge} {gd : Option (Nat × Bool)} {K : Kt}
end
end Go.Proofs.YtabmcfnefjipbaaGreatDoor
namespace Go.Proofs.YtabmcfnefjipbaaGreatDoor
open Go.RowKit
section
variable {P : Program} {T : List (Nat × Ty)} [hT : Tys P T] {nt : Nt} {ty : TypeId} {pos : String} {af : Array Edge} {gd : Option (Nat × Bool)} {K : Kt}
theorem Raw.runeStr {x : Operand} {t t2 d : Nat} {ik : IntKind} {n : Int} {s : ByteArray} {tmT : List (Nat × SV)} {ob : List (Nat × Ob)} {i i2 : Ty} (hx : evT tmT x = some (.d (.u (.int ik n)))) (ht : lk t T = some i) (ht2 : lk t2 T = some i2) (hk2 : i2.k = .sr) (hs : Utf8.encode n = s) (hz : s.size ≤ maxLen) (hd : Nat.blt d nt = true) (k : K ((d,.d (.u (.str s))) :: tmT) ob) : Raw P nt ⟨some d,.convert t t2 x,ty,pos,af,gd⟩ tmT ob K := ⟨fun Q c tm h ρ G g => by
 obtain ⟨vx,x1,x2⟩ := g.ev hx
 cases x2 with | d x2 => cases x2 with | u x2 => cases x2 with | int _ _ =>
 have ku := (hT.ok t i ht).kind
 have ku2 := (hT.ok t2 i2 ht2).kind
 rw [hk2] at ku2
 have ku2 : P.underlying t2 = some .string := ku2
 have kus : (P.underlying t).isSome = true := by
  cases hk : i.k <;> simp only [hk] at ku <;> first | (rw [ku];rfl) | (obtain ⟨_,ku,_⟩ := ku;rw [ku];rfl) | (obtain ⟨_,ku⟩ := ku;rw [ku];rfl)
 obtain ⟨F,w0,hp⟩ := h
 refine OpS.of_run hd fun a w ha hw => ?_
 exact ⟨.string s,w,_,by simp [execOp,ha.ev x1,run_convert_int_string w t t2 ik n kus ku2,hs],hw,.of (g.put (d := d) (s := .d (.u (.str s))) (.d (.u (.str _ hz)))) k⟩⟩
theorem Raw.quoN {d : Nat} {x y : Operand} {t u : TypeId} {m n : Int} {tmT : List (Nat × SV)} {ob : List (Nat × Ob)} (hx : evT tmT x = some (.d (.u (.int .i64 m)))) (hy : evT tmT y = some (.d (.u (.int .i64 n)))) (h0 : 0 ≤ m) (h1 : m ≤ 9223372036854775807) (hn : 0 < n) (hd : Nat.blt d nt = true) (k : K ((d,.d (.u (.int .i64 (m / n)))) :: tmT) ob) : Raw P nt ⟨some d,.binOp .quo t x y u,ty,pos,af,gd⟩ tmT ob K := ⟨fun Q c tm h ρ G g => by
 obtain ⟨F,w0,hp⟩ := h
 have e1 := evT_int g hx
 have e2 := evT_int g hy
 have hq : m / n ≤ m := Int.ediv_le_self n h0
 have hq0 : 0 ≤ m / n := Int.ediv_nonneg h0 (by omega)
 have hw : IntKind.i64.wrap (m.tdiv n) = m / n := by
  rw [Int.tdiv_eq_ediv_of_nonneg h0]
  exact wrap_small _ hq0 (by omega)
 refine OpS.of_run hd fun a w ha hw' => ⟨.int .i64 (m / n),w,_,?_,hw',.of (Gd.put (d := d) (st := ⟨tmT,ob⟩) g (.d (.u (.int _ _)))) k⟩
 simp [execOp,eqGuard,ha.ev e1,ha.ev e2,binOp_quo,Op.intDiv,hw,show ¬ n = 0 by omega]⟩
theorem Raw.remN {d : Nat} {x y : Operand} {t u : TypeId} {m n : Int} {tmT : List (Nat × SV)} {ob : List (Nat × Ob)} (hx : evT tmT x = some (.d (.u (.int .i64 m)))) (hy : evT tmT y = some (.d (.u (.int .i64 n)))) (h0 : 0 ≤ m) (hn : 0 < n) (hd : Nat.blt d nt = true) (k : K ((d,.d (.u (.int .i64 (m % n)))) :: tmT) ob) : Raw P nt ⟨some d,.binOp .rem t x y u,ty,pos,af,gd⟩ tmT ob K := ⟨fun Q c tm h ρ G g => by
 obtain ⟨F,w0,hp⟩ := h
 have e1 := evT_int g hx
 have e2 := evT_int g hy
 refine OpS.of_run hd fun a w ha hw' => ⟨.int .i64 (m % n),w,_,?_,hw',.of (Gd.put (d := d) (st := ⟨tmT,ob⟩) g (.d (.u (.int _ _)))) k⟩
 simp [execOp,eqGuard,ha.ev e1,ha.ev e2,binOp_rem,Op.intDiv,Int.tmod_eq_emod_of_nonneg h0,show ¬ n = 0 by omega]⟩
theorem Raw.max2 {d : Nat} {x y : Operand} {ts : Array TypeId} {k1 k2 : IntKind} {m n r : Int} {tmT : List (Nat × SV)} {ob : List (Nat × Ob)} (hx : evT tmT x = some (.d (.u (.int k1 m)))) (hy : evT tmT y = some (.d (.u (.int k2 n)))) (hr : (if n > m then n else m) = r) (hd : Nat.blt d nt = true) (k : K ((d,.d (.u (.int k1 r))) :: tmT) ob) : Raw P nt ⟨some d,.call ⟨.builtin .max,#[x,y],ts⟩,ty,pos,af,gd⟩ tmT ob K := ⟨fun Q c tm h ρ G g => by
 obtain ⟨F,w0,hp⟩ := h
 have e1 := evT_int g hx
 have e2 := evT_int g hy
 refine OpS.of_run hd fun a w ha hw' => ⟨.int k1 r,w,_,?_,hw',.of (Gd.put (d := d) (st := ⟨tmT,ob⟩) g (.d (.u (.int _ _)))) k⟩
 simp [execOp,resolve,invoke,builtin,Builtin.max_,Builtin.max2,ha.ev e1,ha.ev e2,hr]⟩
theorem Raw.conv32 {x : Operand} {t t2 d : Nat} {n : Int} {tmT : List (Nat × SV)} {ob : List (Nat × Ob)} {i i2 : Ty} (hx : evT tmT x = some (.d (.u (.int .i64 n)))) (ht : lk t T = some i) (hk : i.k = .in_ .i64) (ht2 : lk t2 T = some i2) (hk2 : i2.k = .in_ .i32) (h0 : 0 ≤ n) (h1 : n < 2147483648) (hd : Nat.blt d nt = true) (k : K ((d,.d (.u (.int .i32 n))) :: tmT) ob) : Raw P nt ⟨some d,.convert t t2 x,ty,pos,af,gd⟩ tmT ob K := ⟨fun Q c tm h ρ G g => by
 obtain ⟨F,w0,hp⟩ := h
 have e1 := evT_int g hx
 have ku := (hT.ok t i ht).kind
 rw [hk] at ku
 have ku : P.underlying t = some (.int .i64) := ku
 have ku2 := (hT.ok t2 i2 ht2).kind
 rw [hk2] at ku2
 have ku2 : P.underlying t2 = some (.int .i32) := ku2
 have hik : P.intKind t2 = .i32 := by simp [Program.intKind,ku2]
 have hw : IntKind.i32.wrap n = n := by
  have hm : n % 4294967296 = n := by omega
  unfold IntKind.wrap
  simp [IntKind.bits,IntKind.signed,hm]
  omega
 refine OpS.of_run hd fun a w ha hw' => ⟨.int .i32 n,w,_,?_,hw',.of (Gd.put (d := d) (st := ⟨tmT,ob⟩) g (.d (.u (.int _ _)))) k⟩
 simp [execOp,ha.ev e1,run_convert_int w t t2 .i64 n (by rw [ku];rfl) (by rw [hik];exact ku2),hik,hw]⟩
end
theorem encode_digit {n : Int} (h0 : 0 ≤ n) (h1 : n < 10) : Utf8.encode (48 + n) = ByteArray.mk #[UInt8.ofNat (48 + n.toNat)] := by
 obtain ⟨m,rfl⟩ : ∃ m : Nat,n = m := ⟨n.toNat,by omega⟩
 have hm : m < 10 := by omega
 match m,hm with
 | 0,_ => rfl
 | 1,_ => rfl
 | 2,_ => rfl
 | 3,_ => rfl
 | 4,_ => rfl
 | 5,_ => rfl
 | 6,_ => rfl
 | 7,_ => rfl
 | 8,_ => rfl
 | 9,_ => rfl
end Go.Proofs.YtabmcfnefjipbaaGreatDoor
namespace Go.Proofs.YtabmcfnefjipbaaGreatDoor
open Go.RowKit
section
variable {P : Program} {T : List (Nat × Ty)} [hT : Tys P T] {nt : Nt} {ty : TypeId} {pos : String} {af : Array Edge} {gd : Option (Nat × Bool)} {K : Kt}
theorem Raw.subU8 {d : Nat} {x y : Operand} {t u : TypeId} {m n r : Int} {tmT : List (Nat × SV)} {ob : List (Nat × Ob)} (hx : evT tmT x = some (.d (.u (.int .u8 m)))) (hy : evT tmT y = some (.d (.u (.int .u8 n)))) (hr : (m - n) % 256 = r) (hd : Nat.blt d nt = true) (k : K ((d,.d (.u (.int .u8 r))) :: tmT) ob) : Raw P nt ⟨some d,.binOp .sub t x y u,ty,pos,af,gd⟩ tmT ob K := ⟨fun Q c tm h ρ G g => by
 obtain ⟨F,w0,hp⟩ := h
 have e1 := evT_int g hx
 have e2 := evT_int g hy
 have hw : IntKind.u8.wrap (m - n) = r := by
  rw [← hr]
  unfold IntKind.wrap
  simp [IntKind.bits,IntKind.signed]
 refine OpS.of_run hd fun a w ha hw' => ⟨.int .u8 r,w,_,?_,hw',.of (Gd.put (d := d) (st := ⟨tmT,ob⟩) g (.d (.u (.int _ _)))) k⟩
 simp [execOp,eqGuard,ha.ev e1,ha.ev e2,binOp_sub,Op.intArith,hw]⟩
theorem Raw.convI64 {x : Operand} {t t2 d : Nat} {n : Int} {q : IntKind} {tmT : List (Nat × SV)} {ob : List (Nat × Ob)} {i i2 : Ty} (hx : evT tmT x = some (.d (.u (.int q n)))) (ht : lk t T = some i) (hk : i.k = .in_ q) (ht2 : lk t2 T = some i2) (hk2 : i2.k = .in_ .i64) (h0 : 0 ≤ n) (h1 : n < 2147483648) (hd : Nat.blt d nt = true) (k : K ((d,.d (.u (.int .i64 n))) :: tmT) ob) : Raw P nt ⟨some d,.convert t t2 x,ty,pos,af,gd⟩ tmT ob K := ⟨fun Q c tm h ρ G g => by
 obtain ⟨F,w0,hp⟩ := h
 have e1 := evT_int g hx
 have ku := (hT.ok t i ht).kind
 rw [hk] at ku
 have ku : P.underlying t = some (.int q) := ku
 have ku2 := (hT.ok t2 i2 ht2).kind
 rw [hk2] at ku2
 have ku2 : P.underlying t2 = some (.int .i64) := ku2
 have hik : P.intKind t2 = .i64 := by simp [Program.intKind,ku2]
 have hw : IntKind.i64.wrap n = n := wrap_small n h0 (by omega)
 refine OpS.of_run hd fun a w ha hw' => ⟨.int .i64 n,w,_,?_,hw',.of (Gd.put (d := d) (st := ⟨tmT,ob⟩) g (.d (.u (.int _ _)))) k⟩
 simp [execOp,ha.ev e1,run_convert_int w t t2 q n (by rw [ku];rfl) (by rw [hik];exact ku2),hik,hw]⟩
theorem Raw.neqNil {d : Nat} {x : Operand} {t u : TypeId} {tmT : List (Nat × SV)} {ob : List (Nat × Ob)} (hx : evT tmT x = some (.d (.u (.v .nilIface)))) (hu : P.underlying t = some (.interface (P.methodsAt t))) (hd : Nat.blt d nt = true) (k : K ((d,.d (.u (.bool false))) :: tmT) ob) : Raw P nt ⟨some d,.binOp .neq t x (.const .nilIface) u,ty,pos,af,gd⟩ tmT ob K := ⟨fun Q c tm h ρ G g => by
 obtain ⟨F,w0,hp⟩ := h
 obtain ⟨v,v1,v2⟩ := g.ev hx
 cases v2 with | d v2 => cases v2 with | u v2 => cases v2 with | v hv =>
 refine OpS.of_run hd fun a w ha hw' => ⟨.bool false,w,_,?_,hw',.of (Gd.put (d := d) (st := ⟨tmT,ob⟩) g (.d (.u (.bool _)))) k⟩
 have he : a.eval (.const .nilIface) = .nilIface := rfl
 simp [execOp,ha.ev v1,he,eqGuard_nil_constR,run_neq_nil_nil (P := P) w t hu]⟩
end
end Go.Proofs.YtabmcfnefjipbaaGreatDoor
namespace Go.Proofs.YtabmcfnefjipbaaGreatDoor
open Go.RowKit
def tt : List (Nat × Ty) := [
 (1,⟨.ot,1,8,[.nilFunc]⟩),
 (2,⟨.in_ .i64,1,8,[.int .i64 0]⟩),
 (3,⟨.in_ .i64,1,8,[.int .i64 0]⟩),
 (4,⟨.bo,1,1,[.bool false]⟩),
 (5,⟨.in_ .u8,1,1,[.int .u8 0]⟩),
 (6,⟨.in_ .u8,1,1,[.int .u8 0]⟩),
 (7,⟨.st [(0,2),(1,3),(2,4),(3,6)],4,24,[.int .i64 0,.int .i64 0,.bool false,.int .u8 0]⟩),
 (8,⟨.st [(0,2),(1,3),(2,4),(3,6)],4,24,[.int .i64 0,.int .i64 0,.bool false,.int .u8 0]⟩),
 (9,⟨.sr,1,16,[.string ⟨#[]⟩]⟩),
 (10,⟨.sr,1,16,[.string ⟨#[]⟩]⟩),
 (11,⟨.sr,1,16,[.string ⟨#[]⟩]⟩),
 (12,⟨.in_ .u64,1,8,[.int .u64 0]⟩),
 (13,⟨.st [(0,9),(1,12)],2,24,[.string ⟨#[]⟩,.int .u64 0]⟩),
 (14,⟨.st [(0,9),(1,12)],2,24,[.string ⟨#[]⟩,.int .u64 0]⟩),
 (15,⟨.pt 246,1,8,[.pointer none]⟩),
 (16,⟨.pt 249,1,8,[.pointer none]⟩),
 (17,⟨.pt 257,1,8,[.pointer none]⟩),
 (18,⟨.st [(0,17)],1,8,[.pointer none]⟩),
 (19,⟨.st [(0,17)],1,8,[.pointer none]⟩),
 (20,⟨.ot,1,16,[.nilIface]⟩),
 (21,⟨.in_ .i32,1,4,[.int .i32 0]⟩),
 (22,⟨.sl 58,1,24,[.slice none 0 0]⟩),
 (23,⟨.sl 9,1,24,[.slice none 0 0]⟩),
 (24,⟨.st [(0,3),(1,3)],2,16,[.int .i64 0,.int .i64 0]⟩),
 (25,⟨.st [(0,3),(1,3)],2,16,[.int .i64 0,.int .i64 0]⟩),
 (27,⟨.ot,1,8,[.nilFunc]⟩),
 (28,⟨.ot,1,8,[.nilFunc]⟩),
 (29,⟨.ot,1,8,[.nilFunc]⟩),
 (30,⟨.ot,1,8,[.nilFunc]⟩),
 (31,⟨.ot,1,8,[.nilFunc]⟩),
 (32,⟨.ot,1,8,[.nilFunc]⟩),
 (33,⟨.sl 62,1,24,[.slice none 0 0]⟩),
 (35,⟨.ot,1,8,[.nilFunc]⟩),
 (36,⟨.ot,1,8,[.nilFunc]⟩),
 (37,⟨.ot,1,8,[.nilFunc]⟩),
 (39,⟨.ot,1,8,[.nilFunc]⟩),
 (40,⟨.ot,1,8,[.nilFunc]⟩),
 (41,⟨.ot,1,8,[.nilFunc]⟩),
 (42,⟨.sl 112,1,24,[.slice none 0 0]⟩),
 (44,⟨.ot,1,8,[.nilFunc]⟩),
 (46,⟨.ot,1,8,[.nilFunc]⟩),
 (47,⟨.ot,1,8,[.nilFunc]⟩),
 (48,⟨.ot,1,8,[.nilFunc]⟩),
 (49,⟨.ot,1,8,[.nilFunc]⟩),
 (51,⟨.ot,1,8,[.nilFunc]⟩),
 (52,⟨.ot,1,8,[.nilFunc]⟩),
 (53,⟨.ot,1,8,[.nilFunc]⟩),
 (54,⟨.ot,1,8,[.nilFunc]⟩),
 (55,⟨.ot,1,8,[.nilFunc]⟩),
 (56,⟨.sl 147,1,24,[.slice none 0 0]⟩),
 (57,⟨.st [(0,3),(1,9),(2,9),(3,3),(4,3),(5,3),(6,9),(7,56)],8,104,[.int .i64 0,.string ⟨#[]⟩,.string ⟨#[]⟩,.int .i64 0,.int .i64 0,.int .i64 0,.string ⟨#[]⟩,.slice none 0 0]⟩),
 (58,⟨.st [(0,3),(1,9),(2,9),(3,3),(4,3),(5,3),(6,9),(7,56)],8,104,[.int .i64 0,.string ⟨#[]⟩,.string ⟨#[]⟩,.int .i64 0,.int .i64 0,.int .i64 0,.string ⟨#[]⟩,.slice none 0 0]⟩),
 (59,⟨.ot,1,8,[.nilFunc]⟩),
 (60,⟨.ot,1,8,[.nilFunc]⟩),
 (61,⟨.st [(0,9),(1,3),(2,9),(3,9)],4,56,[.string ⟨#[]⟩,.int .i64 0,.string ⟨#[]⟩,.string ⟨#[]⟩]⟩),
 (62,⟨.st [(0,9),(1,3),(2,9),(3,9)],4,56,[.string ⟨#[]⟩,.int .i64 0,.string ⟨#[]⟩,.string ⟨#[]⟩]⟩),
 (63,⟨.ot,1,8,[.nilFunc]⟩),
 (64,⟨.ot,1,8,[.nilFunc]⟩),
 (65,⟨.sl 72,1,24,[.slice none 0 0]⟩),
 (67,⟨.ot,1,8,[.nilFunc]⟩),
 (68,⟨.ot,1,8,[.nilFunc]⟩),
 (69,⟨.ot,1,8,[.nilFunc]⟩),
 (70,⟨.ot,1,8,[.nilFunc]⟩),
 (71,⟨.st [(0,3),(1,9)],2,24,[.int .i64 0,.string ⟨#[]⟩]⟩),
 (72,⟨.st [(0,3),(1,9)],2,24,[.int .i64 0,.string ⟨#[]⟩]⟩),
 (73,⟨.ot,1,8,[.nilFunc]⟩),
 (74,⟨.mp 9 3,1,8,[.map none]⟩),
 (75,⟨.ot,1,8,[.nilFunc]⟩),
 (76,⟨.sl 3,1,24,[.slice none 0 0]⟩),
 (77,⟨.ot,1,8,[.nilFunc]⟩),
 (78,⟨.ot,1,8,[.nilFunc]⟩),
 (79,⟨.sl 85,1,24,[.slice none 0 0]⟩),
 (80,⟨.st [(0,58),(8,3),(9,79)],10,136,[.int .i64 0,.string ⟨#[]⟩,.string ⟨#[]⟩,.int .i64 0,.int .i64 0,.int .i64 0,.string ⟨#[]⟩,.slice none 0 0,.int .i64 0,.slice none 0 0]⟩),
 (81,⟨.st [(0,58),(8,3),(9,79)],10,136,[.int .i64 0,.string ⟨#[]⟩,.string ⟨#[]⟩,.int .i64 0,.int .i64 0,.int .i64 0,.string ⟨#[]⟩,.slice none 0 0,.int .i64 0,.slice none 0 0]⟩),
 (82,⟨.st [(0,9),(1,9)],2,32,[.string ⟨#[]⟩,.string ⟨#[]⟩]⟩),
 (83,⟨.st [(0,9),(1,9)],2,32,[.string ⟨#[]⟩,.string ⟨#[]⟩]⟩),
 (84,⟨.st [(0,83),(2,3)],3,40,[.string ⟨#[]⟩,.string ⟨#[]⟩,.int .i64 0]⟩),
 (85,⟨.st [(0,83),(2,3)],3,40,[.string ⟨#[]⟩,.string ⟨#[]⟩,.int .i64 0]⟩),
 (86,⟨.ot,1,8,[.nilFunc]⟩),
 (87,⟨.ot,1,8,[.nilFunc]⟩),
 (88,⟨.sl 96,1,24,[.slice none 0 0]⟩),
 (90,⟨.ot,1,8,[.nilFunc]⟩),
 (91,⟨.ot,1,8,[.nilFunc]⟩),
 (92,⟨.sl 98,1,24,[.slice none 0 0]⟩),
 (94,⟨.ot,1,8,[.nilFunc]⟩),
 (95,⟨.st [(0,9),(1,9),(2,3),(3,3),(4,3),(5,3),(6,3),(7,3)],8,80,[.string ⟨#[]⟩,.string ⟨#[]⟩,.int .i64 0,.int .i64 0,.int .i64 0,.int .i64 0,.int .i64 0,.int .i64 0]⟩),
 (96,⟨.st [(0,9),(1,9),(2,3),(3,3),(4,3),(5,3),(6,3),(7,3)],8,80,[.string ⟨#[]⟩,.string ⟨#[]⟩,.int .i64 0,.int .i64 0,.int .i64 0,.int .i64 0,.int .i64 0,.int .i64 0]⟩),
 (97,⟨.st [(0,9),(1,3),(2,3),(3,3)],4,40,[.string ⟨#[]⟩,.int .i64 0,.int .i64 0,.int .i64 0]⟩),
 (98,⟨.st [(0,9),(1,3),(2,3),(3,3)],4,40,[.string ⟨#[]⟩,.int .i64 0,.int .i64 0,.int .i64 0]⟩),
 (99,⟨.ot,1,8,[.nilFunc]⟩),
 (100,⟨.ot,1,8,[.nilFunc]⟩),
 (101,⟨.ot,1,8,[.nilFunc]⟩),
 (102,⟨.ot,1,8,[.nilFunc]⟩),
 (103,⟨.ot,1,8,[.nilFunc]⟩),
 (104,⟨.st [(0,3),(1,103)],2,16,[.int .i64 0,.nilFunc]⟩),
 (105,⟨.st [(0,3),(1,103)],2,16,[.int .i64 0,.nilFunc]⟩),
 (107,⟨.mp 9 105,1,8,[.map none]⟩),
 (108,⟨.ot,1,8,[.nilFunc]⟩),
 (109,⟨.ot,1,8,[.nilFunc]⟩),
 (110,⟨.ot,1,8,[.nilFunc]⟩),
 (111,⟨.st [(0,9),(1,9),(2,3)],3,40,[.string ⟨#[]⟩,.string ⟨#[]⟩,.int .i64 0]⟩),
 (112,⟨.st [(0,9),(1,9),(2,3)],3,40,[.string ⟨#[]⟩,.string ⟨#[]⟩,.int .i64 0]⟩),
 (113,⟨.ot,1,8,[.nilFunc]⟩),
 (114,⟨.sl 164,1,24,[.slice none 0 0]⟩),
 (115,⟨.ot,1,8,[.nilFunc]⟩),
 (116,⟨.ot,1,8,[.nilFunc]⟩),
 (117,⟨.ot,1,8,[.nilFunc]⟩),
 (118,⟨.pt 120,1,8,[.pointer none]⟩),
 (119,⟨.st [(0,22),(1,3),(2,33)],3,56,[.slice none 0 0,.int .i64 0,.slice none 0 0]⟩),
 (120,⟨.st [(0,22),(1,3),(2,33)],3,56,[.slice none 0 0,.int .i64 0,.slice none 0 0]⟩),
 (121,⟨.ot,1,8,[.nilFunc]⟩),
 (122,⟨.ot,1,8,[.nilFunc]⟩),
 (123,⟨.ot,1,8,[.nilFunc]⟩),
 (124,⟨.ot,1,8,[.nilFunc]⟩),
 (125,⟨.sl 4,1,24,[.slice none 0 0]⟩),
 (126,⟨.sl 128,1,24,[.slice none 0 0]⟩),
 (127,⟨.st [(0,9),(1,4)],2,24,[.string ⟨#[]⟩,.bool false]⟩),
 (128,⟨.st [(0,9),(1,4)],2,24,[.string ⟨#[]⟩,.bool false]⟩),
 (129,⟨.ot,1,8,[.nilFunc]⟩),
 (130,⟨.ot,1,8,[.nilFunc]⟩),
 (131,⟨.pt 134,1,8,[.pointer none]⟩),
 (132,⟨.sl 5,1,24,[.slice none 0 0]⟩),
 (133,⟨.st [(0,131),(1,132)],2,32,[.pointer none,.slice none 0 0]⟩),
 (134,⟨.st [(0,131),(1,132)],2,32,[.pointer none,.slice none 0 0]⟩),
 (135,⟨.ot,1,8,[.nilFunc]⟩),
 (136,⟨.ot,1,16,[.nilIface]⟩),
 (137,⟨.ot,1,16,[.nilIface]⟩),
 (139,⟨.ot,1,8,[.nilFunc]⟩),
 (140,⟨.ot,1,8,[.nilFunc]⟩),
 (141,⟨.mp 83 3,1,8,[.map none]⟩),
 (142,⟨.pt 3,1,8,[.pointer none]⟩),
 (143,⟨.ar 5 142,5,40,[.pointer none,.pointer none,.pointer none,.pointer none,.pointer none]⟩),
 (144,⟨.mp 83 4,1,8,[.map none]⟩),
 (145,⟨.ot,1,8,[.nilFunc]⟩),
 (146,⟨.st [(0,9),(1,9)],2,32,[.string ⟨#[]⟩,.string ⟨#[]⟩]⟩),
 (147,⟨.st [(0,9),(1,9)],2,32,[.string ⟨#[]⟩,.string ⟨#[]⟩]⟩),
 (148,⟨.mp 151 149,1,8,[.map none]⟩),
 (149,⟨.pt 98,1,8,[.pointer none]⟩),
 (150,⟨.st [(0,9),(1,3)],2,24,[.string ⟨#[]⟩,.int .i64 0]⟩),
 (151,⟨.st [(0,9),(1,3)],2,24,[.string ⟨#[]⟩,.int .i64 0]⟩),
 (152,⟨.ot,1,8,[.nilFunc]⟩),
 (153,⟨.ot,1,8,[.nilFunc]⟩),
 (154,⟨.ot,1,8,[.nilFunc]⟩),
 (155,⟨.ot,1,8,[.nilFunc]⟩),
 (156,⟨.ot,1,8,[.nilFunc]⟩),
 (157,⟨.ot,1,8,[.nilFunc]⟩),
 (158,⟨.sl 83,1,24,[.slice none 0 0]⟩),
 (159,⟨.ot,1,8,[.nilFunc]⟩),
 (160,⟨.ot,1,8,[.nilFunc]⟩),
 (161,⟨.ot,1,8,[.nilFunc]⟩),
 (162,⟨.ot,1,8,[.nilFunc]⟩),
 (163,⟨.st [(0,112),(3,3)],4,48,[.string ⟨#[]⟩,.string ⟨#[]⟩,.int .i64 0,.int .i64 0]⟩),
 (164,⟨.st [(0,112),(3,3)],4,48,[.string ⟨#[]⟩,.string ⟨#[]⟩,.int .i64 0,.int .i64 0]⟩),
 (166,⟨.ot,1,8,[.nilFunc]⟩),
 (167,⟨.ot,1,8,[.nilFunc]⟩),
 (168,⟨.ot,1,8,[.nilFunc]⟩),
 (169,⟨.ot,1,8,[.nilFunc]⟩),
 (170,⟨.ot,1,8,[.nilFunc]⟩),
 (171,⟨.ot,1,8,[.nilFunc]⟩),
 (172,⟨.ot,1,8,[.nilFunc]⟩),
 (173,⟨.pt 5,1,8,[.pointer none]⟩),
 (174,⟨.ot,1,8,[.nilFunc]⟩),
 (175,⟨.ot,1,8,[.nilFunc]⟩),
 (176,⟨.ot,1,8,[.nilFunc]⟩),
 (177,⟨.in_ .u64,1,8,[.int .u64 0]⟩),
 (178,⟨.ot,1,8,[.nilFunc]⟩),
 (179,⟨.ot,1,8,[.nilFunc]⟩),
 (180,⟨.ot,1,8,[.nilFunc]⟩),
 (181,⟨.ot,1,8,[.nilFunc]⟩),
 (182,⟨.ot,1,8,[.nilFunc]⟩),
 (183,⟨.ot,1,8,[.nilFunc]⟩),
 (184,⟨.ot,1,8,[.nilFunc]⟩),
 (186,⟨.ot,1,8,[.nilFunc]⟩),
 (187,⟨.ot,1,8,[.nilFunc]⟩),
 (188,⟨.ar 24 5,24,24,[.int .u8 0,.int .u8 0,.int .u8 0,.int .u8 0,.int .u8 0,.int .u8 0,.int .u8 0,.int .u8 0,.int .u8 0,.int .u8 0,.int .u8 0,.int .u8 0,.int .u8 0,.int .u8 0,.int .u8 0,.int .u8 0,.int .u8 0,.int .u8 0,.int .u8 0,.int .u8 0,.int .u8 0,.int .u8 0,.int .u8 0,.int .u8 0]⟩),
 (189,⟨.in_ .u64,1,8,[.int .u64 0]⟩),
 (190,⟨.ot,1,8,[.nilFunc]⟩),
 (191,⟨.ot,1,8,[.nilFunc]⟩),
 (193,⟨.ot,1,8,[.nilFunc]⟩),
 (194,⟨.ot,1,8,[.nilFunc]⟩),
 (195,⟨.in_ .i64,1,8,[.int .i64 0]⟩),
 (197,⟨.ot,1,8,[.nilFunc]⟩),
 (198,⟨.ot,1,8,[.nilFunc]⟩),
 (199,⟨.ot,1,8,[.nilFunc]⟩),
 (200,⟨.ot,1,8,[.nilFunc]⟩),
 (201,⟨.ot,1,8,[.nilFunc]⟩),
 (202,⟨.in_ .u32,1,4,[.int .u32 0]⟩),
 (203,⟨.ot,1,8,[.nilFunc]⟩),
 (204,⟨.ot,1,8,[.nilFunc]⟩),
 (205,⟨.ot,1,8,[.nilFunc]⟩),
 (206,⟨.ot,1,8,[.nilFunc]⟩),
 (207,⟨.ot,1,8,[.nilFunc]⟩),
 (208,⟨.ar 20 189,20,160,[.int .u64 0,.int .u64 0,.int .u64 0,.int .u64 0,.int .u64 0,.int .u64 0,.int .u64 0,.int .u64 0,.int .u64 0,.int .u64 0,.int .u64 0,.int .u64 0,.int .u64 0,.int .u64 0,.int .u64 0,.int .u64 0,.int .u64 0,.int .u64 0,.int .u64 0,.int .u64 0]⟩),
 (210,⟨.in_ .u64,1,8,[.int .u64 0]⟩),
 (211,⟨.ot,1,8,[.nilFunc]⟩),
 (212,⟨.ot,1,8,[.nilFunc]⟩),
 (213,⟨.ot,1,8,[.nilFunc]⟩),
 (214,⟨.ot,1,8,[.nilFunc]⟩),
 (215,⟨.ot,1,8,[.nilFunc]⟩),
 (217,⟨.ot,1,8,[.nilFunc]⟩),
 (218,⟨.ot,1,8,[.nilFunc]⟩),
 (219,⟨.in_ .i64,1,8,[.int .i64 0]⟩),
 (221,⟨.ot,1,8,[.nilFunc]⟩),
 (222,⟨.pt 233,1,8,[.pointer none]⟩),
 (223,⟨.ot,1,8,[.nilFunc]⟩),
 (224,⟨.ot,1,8,[.nilFunc]⟩),
 (225,⟨.pt 210,1,8,[.pointer none]⟩),
 (227,⟨.ot,1,8,[.nilFunc]⟩),
 (229,⟨.ot,1,8,[.nilFunc]⟩),
 (231,⟨.ot,1,8,[.nilFunc]⟩),
 (232,⟨.st [(0,9),(1,9),(2,137)],3,48,[.string ⟨#[]⟩,.string ⟨#[]⟩,.nilIface]⟩),
 (233,⟨.st [(0,9),(1,9),(2,137)],3,48,[.string ⟨#[]⟩,.string ⟨#[]⟩,.nilIface]⟩),
 (234,⟨.ot,1,8,[.nilFunc]⟩),
 (235,⟨.ar 32 5,32,32,[.int .u8 0,.int .u8 0,.int .u8 0,.int .u8 0,.int .u8 0,.int .u8 0,.int .u8 0,.int .u8 0,.int .u8 0,.int .u8 0,.int .u8 0,.int .u8 0,.int .u8 0,.int .u8 0,.int .u8 0,.int .u8 0,.int .u8 0,.int .u8 0,.int .u8 0,.int .u8 0,.int .u8 0,.int .u8 0,.int .u8 0,.int .u8 0,.int .u8 0,.int .u8 0,.int .u8 0,.int .u8 0,.int .u8 0,.int .u8 0,.int .u8 0,.int .u8 0]⟩),
 (236,⟨.ar 64 5,64,64,[.int .u8 0,.int .u8 0,.int .u8 0,.int .u8 0,.int .u8 0,.int .u8 0,.int .u8 0,.int .u8 0,.int .u8 0,.int .u8 0,.int .u8 0,.int .u8 0,.int .u8 0,.int .u8 0,.int .u8 0,.int .u8 0,.int .u8 0,.int .u8 0,.int .u8 0,.int .u8 0,.int .u8 0,.int .u8 0,.int .u8 0,.int .u8 0,.int .u8 0,.int .u8 0,.int .u8 0,.int .u8 0,.int .u8 0,.int .u8 0,.int .u8 0,.int .u8 0,.int .u8 0,.int .u8 0,.int .u8 0,.int .u8 0,.int .u8 0,.int .u8 0,.int .u8 0,.int .u8 0,.int .u8 0,.int .u8 0,.int .u8 0,.int .u8 0,.int .u8 0,.int .u8 0,.int .u8 0,.int .u8 0,.int .u8 0,.int .u8 0,.int .u8 0,.int .u8 0,.int .u8 0,.int .u8 0,.int .u8 0,.int .u8 0,.int .u8 0,.int .u8 0,.int .u8 0,.int .u8 0,.int .u8 0,.int .u8 0,.int .u8 0,.int .u8 0]⟩),
 (238,⟨.st [(0,5),(1,5)],2,2,[.int .u8 0,.int .u8 0]⟩),
 (239,⟨.st [(0,5),(1,5)],2,2,[.int .u8 0,.int .u8 0]⟩),
 (240,⟨.ar 16 239,32,32,[.int .u8 0,.int .u8 0,.int .u8 0,.int .u8 0,.int .u8 0,.int .u8 0,.int .u8 0,.int .u8 0,.int .u8 0,.int .u8 0,.int .u8 0,.int .u8 0,.int .u8 0,.int .u8 0,.int .u8 0,.int .u8 0,.int .u8 0,.int .u8 0,.int .u8 0,.int .u8 0,.int .u8 0,.int .u8 0,.int .u8 0,.int .u8 0,.int .u8 0,.int .u8 0,.int .u8 0,.int .u8 0,.int .u8 0,.int .u8 0,.int .u8 0,.int .u8 0]⟩),
 (241,⟨.ot,1,8,[.nilFunc]⟩),
 (242,⟨.pt 244,1,8,[.pointer none]⟩),
 (243,⟨.st [(0,9)],1,16,[.string ⟨#[]⟩]⟩),
 (244,⟨.st [(0,9)],1,16,[.string ⟨#[]⟩]⟩),
 (245,⟨.st [(0,17),(1,17),(2,17),(3,9)],4,40,[.pointer none,.pointer none,.pointer none,.string ⟨#[]⟩]⟩),
 (246,⟨.st [(0,17),(1,17),(2,17),(3,9)],4,40,[.pointer none,.pointer none,.pointer none,.string ⟨#[]⟩]⟩),
 (247,⟨.ar 0 16,0,0,[]⟩),
 (248,⟨.st [(0,247)],0,0,[]⟩),
 (249,⟨.st [(0,247)],0,0,[]⟩),
 (250,⟨.ot,1,8,[.nilFunc]⟩),
 (251,⟨.in_ .u8,1,1,[.int .u8 0]⟩),
 (252,⟨.in_ .u8,1,1,[.int .u8 0]⟩),
 (253,⟨.ot,1,8,[.nilFunc]⟩),
 (254,⟨.in_ .i32,1,4,[.int .i32 0]⟩),
 (255,⟨.in_ .i32,1,4,[.int .i32 0]⟩),
 (256,⟨.st [(0,12),(1,12),(2,202),(3,251),(4,5),(5,5),(6,252),(7,253),(8,173),(9,254),(10,255)],11,48,[.int .u64 0,.int .u64 0,.int .u32 0,.int .u8 0,.int .u8 0,.int .u8 0,.int .u8 0,.nilFunc,.pointer none,.int .i32 0,.int .i32 0]⟩),
 (257,⟨.st [(0,12),(1,12),(2,202),(3,251),(4,5),(5,5),(6,252),(7,253),(8,173),(9,254),(10,255)],11,48,[.int .u64 0,.int .u64 0,.int .u32 0,.int .u8 0,.int .u8 0,.int .u8 0,.int .u8 0,.nilFunc,.pointer none,.int .i32 0,.int .i32 0]⟩)]
instance tys : Tys Tryz.prog tt := tys_of (by kernel_rfl) (by kernel_rfl)
end Go.Proofs.YtabmcfnefjipbaaGreatDoor
