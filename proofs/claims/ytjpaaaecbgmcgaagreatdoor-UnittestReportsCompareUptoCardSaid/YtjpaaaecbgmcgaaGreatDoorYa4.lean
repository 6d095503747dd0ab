/-
  Part 4 of the proofs of ureport_holds, ucompare_holds, ureports_holds: laws and contracts that they need.
-/
import Derived.Test.YtjpaaaecbgmcgaaGreatDoorYa3
set_option linter.unusedVariables false
set_option linter.unusedSimpArgs false
namespace Go.Proofs.YtjpaaaecbgmcgaaGreatDoor
open Go.RowKit
def Bl (hp : List (Nat × Hb)) (b : Nat) : Prop := ∃ x,(b,x) ∈ hp
section
variable {c : Cx} {st : St} {tm : List (Nat × Value)} {h : Hs} {ρ ρ' : Rho} {G : FG} {w : World}
theorem Gd.mz (g : Gd c st tm h ρ G) (hw : Hp h w) {G' : FG} (hG : ∀ b,G b → G' b) (hf : G'.fam = G.fam := by rfl) : Mz ⟨G,h.w0⟩ ⟨G',w⟩ := ⟨hG,fun b hb => hw.same.block b (g.gF b hb),fun k i b h => by rw [hf];exact h⟩
theorem borD_den (g : Gd c st tm h ρ G) (hw : Hp h w) {d : D} {x : V} {v : Value} {X : Prop} (hb : borD st.ob d = some x) (hn : needD st.ob X d) (hd : Den ρ ⟨G,h.w0⟩ d v) : DenV ⟨G.or (Bl h.hp),w⟩ x v ∧ X ∧ (ownD d = false → DenV ⟨G,w⟩ x v) := by
 cases d with
 | u y =>
  simp only [borD,Option.some.injEq] at hb
  subst hb
  cases hd with | u hd =>
  exact ⟨hd.mono (g.mz hw (G' := G.or (Bl h.hp)) fun _ h => Or.inl h),hn,fun _ => hd.mono (g.mz hw fun _ h => h)⟩
 | ow k n =>
  simp only [borD] at hb
  split at hb
  ·rename_i u sz rs hk
   injection hb with hb;subst hb
   simp only [needD,hk] at hn
   cases hd with | @ow _ _ l h0 hA hnc =>
   obtain ⟨F,w0,hp⟩ := h
   obtain ⟨Y,f,⟨A,cc,us,rfl,g2,g3,g4,g5⟩,g6⟩ := g.ob.at_ hk
   rw [h0] at g2
   injection g2 with g2;subst g2
   refine ⟨?_,hn.k,fun h => by cases h⟩
   have hz := g.mz hw (G' := G.or (Bl hp)) fun _ h => .inl h
   have g4' := g4.mono hz
   rcases g3.form with ⟨rfl,h1,h2⟩ | ⟨b,rfl⟩
   ·have hrs : rs = [] := List.eq_nil_of_length_eq_zero h1
    subst hrs
    exact .sl (b := 0) (o := 0) [] hn.h hnc (Nat.le_trans hnc g3.max) g5 (fun h => absurd rfl h) (by simp) (fun j u h => by simp at h) rfl (fun j d u h => by simp at h)
   ·have hm : (b,(⟨u,us,cc * sz⟩ : Hb)) ∈ hp := g6.mem (by rw [hbA_some];exact List.mem_singleton.2 rfl)
    exact .sl (b := b) (o := 0) us hn.h hnc (Nat.le_trans hnc g3.max) g5 (fun _ => ⟨rfl,.inr ⟨_,hm⟩⟩) g4'.len (fun j x hx => by rw [Nat.zero_add];exact (hw.blk b _ hm).cell (x := ⟨u,us,_⟩) hx) g4'.one g4'.den
  ·cases hb
 | r k i o sz n =>
  simp only [borD] at hb
  split at hb
  ·rename_i u rs hk
   split at hb
   ·rename_i row hrow
    split at hb
    ·rename_i e s2 rr ho
     cases hb2 : Nat.beq s2 sz <;> rw [hb2] at hb
     ·cases hb
     ·have := Nat.eq_of_beq_eq_true hb2
      subst this
      injection hb with hb;subst hb
      simp only [needD,hk,hrow,ho] at hn
      cases hd with | @r _ _ _ _ _ cc0 A0 h0 hA hnc hm0 =>
      obtain ⟨F,w0,hp⟩ := h
      obtain ⟨Y,f,⟨q1,q2⟩,q3⟩ := g.ob.at_ hk
      rw [nth_eq] at hrow ho
      obtain ⟨b,us,X0,rest,r1,r2,r3,_⟩ := q1.split hrow
      rw [Nat.zero_add] at r2
      obtain ⟨u1,Xe,rest1,s1,⟨A,cc,us1,rfl,rfl,t3,g3,g4,g5⟩,s3,_⟩ := r2.split ho
      rw [Nat.zero_add] at t3
      rw [t3] at h0
      injection h0 with h0
      injection h0 with e1 e2 _
      subst e1 e2
      refine ⟨?_,hn.k,fun h => by cases h⟩
      have hz := g.mz hw (G' := G.or (Bl hp)) fun _ h => .inl h
      have g4' := g4.mono hz
      rcases g3.form with ⟨rfl,h1,h2⟩ | ⟨b',rfl⟩
      ·have hrs : rr = [] := List.eq_nil_of_length_eq_zero h1
       subst hrs
       exact .sl (b := 0) (o := 0) [] hn.h hnc (Nat.le_trans hnc g3.max) g5 (fun h => absurd rfl h) (by simp) (fun j u h => by simp at h) rfl (fun j d u h => by simp at h)
      ·have hm : (b',(⟨e,us1,cc * s2⟩ : Hb)) ∈ hp := q3.mem (r3.mem_iff.2 (List.mem_cons_of_mem _ (List.mem_append_left _ (s3.mem_iff.2 (List.mem_append_left _ (by rw [hbA_some];exact List.mem_singleton.2 rfl))))))
       exact .sl (b := b') (o := 0) us1 hn.h hnc (Nat.le_trans hnc g3.max) g5 (fun _ => ⟨rfl,.inr ⟨_,hm⟩⟩) g4'.len (fun j x hx => by rw [Nat.zero_add];exact (hw.blk b' _ hm).cell (x := ⟨e,us1,_⟩) hx) g4'.one g4'.den
    ·cases hb
   ·cases hb
  ·cases hb
 | _ => cases hb
theorem borL_den (g : Gd c st tm h ρ G) (hw : Hp h w) {X : Prop} : ∀ {ds : List D} {xs : List V} {us : List Value},borL st.ob ds = some xs → needL st.ob X ds → DenL ρ ⟨G,h.w0⟩ ds us → DenVL ⟨G.or (Bl h.hp),w⟩ xs us ∧ X ∧ (ownL ds = false → DenVL ⟨G,w⟩ xs us)
 | [],xs,us,hb,hn,hd => by
  simp [borL] at hb
  subst hb
  have := hd.len
  simp at this
  subst this
  exact ⟨.nil,hn,fun _ => .nil⟩
 | d :: r,xs,us,hb,hn,hd => by
  simp only [borL] at hb
  cases h1 : borD st.ob d with
  | none => simp [h1] at hb
  | some y =>
   cases h2 : borL st.ob r with
   | none => simp [h1,h2] at hb
   | some l =>
    simp only [h1,h2,Option.some.injEq] at hb
    subst hb
    have hl := hd.len
    cases us with
    | nil => simp at hl
    | cons u us =>
     simp only [needL] at hn
     obtain ⟨q1,q2,q3⟩ := borD_den g hw h1 hn (hd.den 0 d u rfl rfl)
     obtain ⟨r1,r2,r3⟩ := borL_den g hw (us := us) h2 q2 ⟨by simpa using hl,by have := hd.one;simp at this;simpa using this.2,fun j d v e1 e2 => hd.den (j + 1) d v (by simpa using e1) (by simpa using e2)⟩
     refine ⟨⟨by simp [r1.len],by simp [q1.one,r1.one],fun j d v e1 e2 => ?_⟩,r2,fun ho => ?_⟩
     ·cases j with
      | zero => simp at e1 e2;subst e1 e2;exact q1
      | succ j => exact r1.den j d v (by simpa using e1) (by simpa using e2)
     ·simp only [ownL] at ho
      cases hod : ownD d
      ·rw [hod] at ho
       have r3' := r3 ho
       exact ⟨by simp [r3'.len],by simp [q1.one,r3'.one],fun j d v e1 e2 => by
        cases j with
        | zero => simp at e1 e2;subst e1 e2;exact q3 hod
        | succ j => exact r3'.den j d v (by simpa using e1) (by simpa using e2)⟩
      ·rw [hod] at ho;cases ho
theorem borS_den (g : Gd c st tm h ρ G) (hw : Hp h w) {s s' : SV} {v : Value} {X : Prop} (hb : borS st.ob s = some s') (hn : needS st.ob X s) (hd : DenS ρ ⟨G,h.w0⟩ s v) : DenS ρ' ⟨G.or (Bl h.hp),w⟩ s' v ∧ X ∧ (ownS s = false → DenS ρ' ⟨G,w⟩ s' v) := by
 cases s with
 | d x =>
  simp only [borS] at hb
  cases h1 : borD st.ob x with
  | none => simp [h1] at hb
  | some y =>
   simp only [h1,Option.some.injEq] at hb
   subst hb
   cases hd with | d hd =>
   obtain ⟨q1,q2,q3⟩ := borD_den g hw h1 hn hd
   exact ⟨.d (.u q1),q2,fun ho => .d (.u (q3 ho))⟩
 | a xs =>
  simp only [borS] at hb
  cases h1 : borL st.ob xs with
  | none => simp [h1] at hb
  | some ys =>
   simp only [h1,Option.some.injEq] at hb
   subst hb
   cases hd with | a hd =>
   obtain ⟨q1,q2,q3⟩ := borL_den g hw h1 hn hd
   exact ⟨.a (by rw [upT_map];exact q1.up),q2,fun ho => .a (by rw [upT_map];exact (q3 ho).up)⟩
 | t vs => cases hb
theorem argsT_ev (g : Gd c st tm h ρ G) : ∀ {xs : List Operand} {ss : List SV},argsT st.ob st.tm xs = some ss → ∃ vs,ArgsL tm xs vs ∧ vs.length = ss.length ∧ ∀ w,Hp h w → ∀ X,needA st.ob st.tm X xs →
  X ∧ (∀ (j : Nat) s v,ss[j]? = some s → vs[j]? = some v → DenS ρ' ⟨G.or (Bl h.hp),w⟩ s v) ∧ (ownA st.tm xs = false → ∀ (j : Nat) s v,ss[j]? = some s → vs[j]? = some v → DenS ρ' ⟨G,w⟩ s v)
 | [],ss,ha => by simp [argsT] at ha;subst ha;exact ⟨[],.nil,rfl,fun w hw X hn => ⟨hn,by simp,by simp⟩⟩
 | x :: r,ss,ha => by
  simp only [argsT] at ha
  cases hx : evT st.tm x with
  | none => simp [hx] at ha
  | some s =>
   simp only [hx] at ha
   cases hb : borS st.ob s with
   | none => simp [hb] at ha
   | some s' =>
    simp only [hb] at ha
    cases hr : argsT st.ob st.tm r with
    | none => simp [hr] at ha
    | some l =>
     simp only [hr,Option.some.injEq] at ha
     subst ha
     obtain ⟨v,q1,q2⟩ := g.ev hx
     obtain ⟨vs,r1,r2,r3⟩ := argsT_ev g hr
     refine ⟨v :: vs,.cons q1 r1,by simp [r2],fun w hw X hn => ?_⟩
     simp only [needA,hx] at hn
     obtain ⟨b1,b2,b3⟩ := borS_den (ρ' := ρ') g hw hb hn q2
     obtain ⟨t1,t2,t3⟩ := r3 w hw X b2
     refine ⟨t1,fun j s0 v0 e1 e2 => ?_,fun ho j s0 v0 e1 e2 => ?_⟩
     ·cases j with
      | zero => simp at e1 e2;subst e1 e2;exact b1
      | succ j => exact t2 j s0 v0 (by simpa using e1) (by simpa using e2)
     ·simp only [ownA,hx] at ho
      cases hos : ownS s
      ·rw [hos] at ho
       cases j with
       | zero => simp at e1 e2;subst e1 e2;exact b3 hos
       | succ j => exact t3 ho j s0 v0 (by simpa using e1) (by simpa using e2)
      ·rw [hos] at ho;cases ho
theorem lk_slT {s : SV} : ∀ {ss : List SV} {n k : Nat},lk k (slT n ss) = some s → n ≤ k ∧ ss[k - n]? = some s
 | [],n,k,h => by simp [slT,lk] at h
 | x :: r,n,k,h => by
  simp only [slT,lk] at h
  cases hb : Nat.beq k n
  ·rw [hb] at h
   obtain ⟨h1,h2⟩ := lk_slT h
   refine ⟨by omega,?_⟩
   rw [show k - n = (k - (n + 1)) + 1 by omega]
   simpa using h2
  ·rw [hb] at h
   have := Nat.eq_of_beq_eq_true hb
   subst this
   simpa using h
theorem lk_slots {v : Value} : ∀ {vs : List Value} {n k : Nat},n ≤ k → vs[k - n]? = some v → lk k (slots n vs) = some v
 | [],n,k,_,h => by simp at h
 | x :: r,n,k,hk,h => by
  simp only [slots,lk]
  cases hb : Nat.beq k n
  ·have hne : k ≠ n := fun e => by rw [e,Nat.beq_refl] at hb;cases hb
   exact lk_slots (by omega) (by rw [show k - n = (k - (n + 1)) + 1 by omega] at h;simpa using h)
  ·have := Nat.eq_of_beq_eq_true hb
   subst this
   simpa using h
theorem pureL_get : ∀ {cs : List D},pureL cs = true → ∀ (j : Nat) d,cs[j]? = some d → ∃ x,d = .u x
 | [],_,j,d,hj => by simp at hj
 | x :: r,h,j,d,hj => by
  cases x <;> simp only [pureL] at h <;> try cases h
  cases j with
  | zero => simp at hj;exact ⟨_,hj.symm⟩
  | succ j => exact pureL_get h j d (by simpa using hj)
theorem pureC_get : ∀ {cs : List SC},pureC cs = true → ∀ (j : Nat) s,cs[j]? = some s → (∃ x,s = .d (.u x)) ∨ ∃ xs,s = .a xs ∧ pureL xs = true
 | [],_,j,d,hj => by simp at hj
 | x :: r,h,j,s,hj => by
  cases x with
  | d y =>
   cases y <;> simp only [pureC] at h <;> try cases h
   cases j with
   | zero => simp at hj;exact .inl ⟨_,hj.symm⟩
   | succ j => exact pureC_get h j s (by simpa using hj)
  | a xs =>
   simp only [pureC] at h
   cases hp : pureL xs <;> rw [hp] at h
   ·cases h
   ·cases j with
    | zero => simp at hj;exact .inr ⟨xs,hj.symm,hp⟩
    | succ j => exact pureC_get h j s (by simpa using hj)
theorem DenL.pure {z : Fz} {cs : List D} {us : List Value} (hp : pureL cs = true) (h : DenL ρ z cs us) : DenL ρ' z cs us := ⟨h.len,h.one,fun j d u h1 h2 => by
 obtain ⟨x,rfl⟩ := pureL_get hp j d h1
 have := h.den j _ u h1 h2
 cases this with | u this => exact .u this⟩
theorem DenS.pure {z : Fz} {s : SV} {v : Value} (hp : pureS s = true) (h : DenS ρ z s v) : DenS ρ' z s v := by
 cases h with
 | @d x _ h =>
  cases x <;> simp only [pureS] at hp <;> try cases hp
  cases h with | u h => exact .d (.u h)
 | a h => exact .a (h.pure hp)
 | t hl hd =>
  refine .t hl fun j s v h1 h2 => ?_
  rcases pureC_get hp j s h1 with ⟨x,rfl⟩ | ⟨xs,rfl,hx⟩
  ·cases hd j _ v h1 h2 with | d h => cases h with | u h => exact .d (.u h)
  ·cases hd j _ v h1 h2 with | a h => exact .a (h.pure hx)
theorem DenV.flat {z z' : Fz} {x : V} {v : Value} (hf : flatV x = true) (h : DenV z x v) : DenV z' x v := by
 cases h with
 | sl => cases hf
 | cl => cases hf
 | fz => cases hf
 | int => exact .int _ _
 | bool => exact .bool _
 | str _ hs => exact .str _ hs
 | nl => exact .nl
 | pn => exact .pn
 | fn => exact .fn
 | v h => exact .v h
 | m h => cases hf
theorem flatL_get : ∀ {cs : List D},flatL cs = true → ∀ (j : Nat) d,cs[j]? = some d → ∃ x,d = .u x ∧ flatV x = true
 | [],_,j,d,hj => by simp at hj
 | x :: r,h,j,d,hj => by
  cases x <;> simp only [flatL] at h <;> try cases h
  rename_i y
  cases hy : flatV y <;> rw [hy] at h
  ·cases h
  ·cases j with
   | zero => simp at hj;exact ⟨y,hj.symm,hy⟩
   | succ j => exact flatL_get h j d (by simpa using hj)
theorem flatC_get : ∀ {cs : List SC},flatC cs = true → ∀ (j : Nat) s,cs[j]? = some s → (∃ x,s = .d (.u x) ∧ flatV x = true) ∨ ∃ xs,s = .a xs ∧ flatL xs = true
 | [],_,j,d,hj => by simp at hj
 | x :: r,h,j,s,hj => by
  cases x with
  | d y =>
   cases y <;> simp only [flatC] at h <;> try cases h
   rename_i y
   cases hy : flatV y <;> rw [hy] at h
   ·cases h
   ·cases j with
    | zero => simp at hj;exact .inl ⟨_,hj.symm,hy⟩
    | succ j => exact flatC_get h j s (by simpa using hj)
  | a xs =>
   simp only [flatC] at h
   cases hp : flatL xs <;> rw [hp] at h
   ·cases h
   ·cases j with
    | zero => simp at hj;exact .inr ⟨xs,hj.symm,hp⟩
    | succ j => exact flatC_get h j s (by simpa using hj)
theorem DenL.flat {z z' : Fz} {cs : List D} {us : List Value} (hp : flatL cs = true) (h : DenL ρ z cs us) : DenL ρ' z' cs us := ⟨h.len,h.one,fun j d u h1 h2 => by
 obtain ⟨x,rfl,hx⟩ := flatL_get hp j d h1
 have := h.den j _ u h1 h2
 cases this with | u this => exact .u (this.flat hx)⟩
theorem DenS.flat {z z' : Fz} {s : SV} {v : Value} (hp : flatS s = true) (h : DenS ρ z s v) : DenS ρ' z' s v := by
 cases h with
 | @d x _ h =>
  cases x <;> simp only [flatS] at hp <;> try cases hp
  cases h with | u h => exact .d (.u (h.flat hp))
 | a h => exact .a (h.flat hp)
 | t hl hd =>
  refine .t hl fun j s v h1 h2 => ?_
  rcases flatC_get hp j s h1 with ⟨x,rfl,hx⟩ | ⟨xs,rfl,hx⟩
  ·cases hd j _ v h1 h2 with | d h => cases h with | u h => exact .d (.u (h.flat hx))
  ·cases hd j _ v h1 h2 with | a h => exact .a (h.flat hx)
end
section
variable {ρ : Rho} {k sz : Nat} {rs : List (List V)}
theorem frNeedD_x {X : Prop} {d : D} (h : frNeedD k rs X d) : X := by
 cases d <;> simp only [frNeedD] at h <;> first | exact h | skip
 rename_i j n
 cases hb : Nat.beq j k <;> simp only [hb,cond_false,cond_true] at h
 ·exact h
 ·exact h.k
theorem frNeedL_x {X : Prop} : ∀ {ds : List D},frNeedL k rs X ds → X
 | [],h => h
 | _ :: _,h => frNeedL_x (frNeedD_x h)
theorem frNeedC_x {X : Prop} : ∀ {ds : List SC},frNeedC k rs X ds → X
 | [],h => h
 | .d _ :: _,h => frNeedC_x (frNeedD_x h)
 | .a _ :: _,h => frNeedC_x (frNeedL_x h)
theorem frNeedS_x {X : Prop} {s : SV} (h : frNeedS k rs X s) : X := by
 cases s with
 | d x => exact frNeedD_x h
 | a xs => exact frNeedL_x h
 | t vs => exact frNeedC_x h
structure Frz (ρ : Rho) (z : Fz) (k sz : Nat) (rs : List (List V)) : Prop where
 den : ∀ (n : Nat) (v : Value),rs.length = n → Den ρ z (.ow k n) v → DenV z (.sl sz rs) v
theorem frD_den {z : Fz} {X : Prop} (fz : Frz ρ z k sz rs) {d : D} {v : Value} (hn : frNeedD k rs X d) (h : Den ρ z d v) : Den ρ z (frD k sz rs d) v := by
 cases d <;> simp only [frNeedD,frD] at hn ⊢ <;> first | exact h | skip
 rename_i j n
 cases hb : Nat.beq j k <;> simp only [hb,cond_false,cond_true] at hn ⊢
 ·exact h
 ·have := Nat.eq_of_beq_eq_true hb
  subst this
  exact .u (fz.den n v hn.h h)
theorem frL_den {z : Fz} {X : Prop} (fz : Frz ρ z k sz rs) : ∀ {ds : List D} {us : List Value},frNeedL k rs X ds → DenL ρ z ds us → DenL ρ z (frL k sz rs ds) us
 | [],us,hn,h => h
 | d :: r,us,hn,h => by
  have hl := h.len
  cases us with
  | nil => simp at hl
  | cons x us =>
   simp only [frNeedL] at hn
   exact (frL_den fz (us := us) (frNeedD_x hn) ⟨by simpa using hl,by have := h.one;simp at this;simpa using this.2,fun j d v e1 e2 => h.den (j + 1) d v (by simpa using e1) (by simpa using e2)⟩).cons (frD_den fz hn (h.den 0 d x rfl rfl))
theorem frL_len : ∀ {ds : List D},(frL k sz rs ds).length = ds.length
 | [] => rfl
 | _ :: r => by simp [frL,frL_len (ds := r)]
theorem frC_den {z : Fz} {X : Prop} (fz : Frz ρ z k sz rs) : ∀ {ss : List SC} {vs : List Value},frNeedC k rs X ss → vs.length = ss.length → (∀ (j : Nat) s v,ss[j]? = some s → vs[j]? = some v → DenC ρ z s v) → (frC k sz rs ss).length = ss.length ∧ ∀ (j : Nat) s v,(frC k sz rs ss)[j]? = some s → vs[j]? = some v → DenC ρ z s v
 | [],vs,hn,_,_ => ⟨rfl,by simp [frC]⟩
 | .d x :: r,vs,hn,hl,hd => by
  cases vs with
  | nil => simp at hl
  | cons v vs =>
   simp only [frNeedC] at hn
   have h0 := hd 0 _ v rfl rfl
   cases h0 with | d h0 =>
   obtain ⟨r2,r3⟩ := frC_den fz (vs := vs) (frNeedD_x hn) (by simpa using hl) (fun j s v e1 e2 => hd (j + 1) s v (by simpa using e1) (by simpa using e2))
   refine ⟨by simp [frC,r2],fun j s v0 e1 e2 => ?_⟩
   cases j with
   | zero => simp [frC] at e1 e2;subst e1 e2;exact .d (frD_den fz hn h0)
   | succ j => exact r3 j s v0 (by simpa [frC] using e1) (by simpa using e2)
 | .a xs :: r,vs,hn,hl,hd => by
  cases vs with
  | nil => simp at hl
  | cons v vs =>
   simp only [frNeedC] at hn
   have h0 := hd 0 _ v rfl rfl
   cases h0 with | a h0 =>
   obtain ⟨r2,r3⟩ := frC_den fz (vs := vs) (frNeedL_x hn) (by simpa using hl) (fun j s v e1 e2 => hd (j + 1) s v (by simpa using e1) (by simpa using e2))
   refine ⟨by simp [frC,r2],fun j s v0 e1 e2 => ?_⟩
   cases j with
   | zero => simp [frC] at e1 e2;subst e1 e2;exact .a (frL_den fz hn h0)
   | succ j => exact r3 j s v0 (by simpa [frC] using e1) (by simpa using e2)
theorem frS_den {z : Fz} {X : Prop} (fz : Frz ρ z k sz rs) {s : SV} {v : Value} (hn : frNeedS k rs X s) (h : DenS ρ z s v) : DenS ρ z (frS k sz rs s) v := by
 cases h with
 | d h => exact .d (frD_den fz hn h)
 | a h => exact .a (frL_den fz hn h)
 | t hl hd => obtain ⟨q2,q3⟩ := frC_den fz hn hl hd;exact .t (by rw [q2];exact hl) q3
theorem frTm_lk {X : Prop} : ∀ {tm : List (Nat × SV)},frNeedT k rs X tm → X ∧ ∀ j s',lk j (frTm k sz rs tm) = some s' → ∃ s,lk j tm = some s ∧ s' = frS k sz rs s ∧ ∃ Y,frNeedS k rs Y s
 | [],hn => ⟨hn,fun j s' h => by simp [frTm,lk] at h⟩
 | (i,s) :: r,hn => by
  simp only [frNeedT] at hn
  obtain ⟨q1,q2⟩ := frTm_lk (frNeedS_x hn)
  refine ⟨q1,fun j s' h => ?_⟩
  simp only [frTm,lk] at h ⊢
  cases hb : Nat.beq j i <;> rw [hb] at h
  ·exact q2 j s' h
  ·simp only [cond_true,Option.some.injEq] at h
   exact ⟨s,rfl,h.symm,_,hn⟩
theorem frOb_den {z : Fz} {X : Prop} (fz : Frz ρ z k sz rs) : ∀ {ob : List (Nat × Ob)} {hp : List (Nat × Hb)},frNeedO k rs X ob → ObsOk ρ z ob hp → X ∧ ObsOk ρ z (frOb k sz rs ob) hp
 | [],_,hn,h => ⟨hn,h⟩
 | (j,.bx t cs) :: r,hp,hn,⟨Y,hp',h1,⟨b,us,h2,h3,h4⟩,h5⟩ => by
  simp only [frNeedO] at hn
  obtain ⟨q1,q2⟩ := frOb_den fz (frNeedL_x hn) h5
  exact ⟨q1,Y,hp',h1,⟨b,us,by rw [frL_len];exact h2,by rw [frL_len];exact h3,frL_den fz hn h4⟩,q2⟩
 | (j,.ar t m ss) :: r,hp,hn,⟨Y,hp',h1,h2,h5⟩ => by
  simp only [frNeedO] at hn
  obtain ⟨q1,q2⟩ := frOb_den fz hn h5
  exact ⟨q1,Y,hp',h1,h2,q2⟩
 | (j,.fm t ss) :: r,hp,hn,⟨Y,hp',h1,h2,h5⟩ => by
  simp only [frNeedO] at hn
  obtain ⟨q1,q2⟩ := frOb_den fz hn h5
  exact ⟨q1,Y,hp',h1,h2,q2⟩
 | (j,.mp a b es) :: r,hp,hn,⟨Y,hp',h1,h2,h5⟩ => by
  simp only [frNeedO] at hn
  obtain ⟨q1,q2⟩ := frOb_den fz hn h5
  exact ⟨q1,Y,hp',h1,h2,q2⟩
 | (j,.fa a b es) :: r,hp,hn,⟨Y,hp',h1,h2,h5⟩ => by
  simp only [frNeedO] at hn
  obtain ⟨q1,q2⟩ := frOb_den fz hn h5
  exact ⟨q1,Y,hp',h1,h2,q2⟩
 | (j,.ab cs us zb φ) :: r,hp,hn,⟨Y,hp',h1,⟨h2,h3,h4⟩,h5⟩ => by
  simp only [frNeedO] at hn
  obtain ⟨q1,q2⟩ := frOb_den fz (frNeedL_x hn) h5
  exact ⟨q1,Y,hp',h1,⟨h2,h3,frL_den fz hn h4⟩,q2⟩
end
section
variable {c : Cx} {tm : List (Nat × Value)} {ρ : Rho} {w : World}
theorem Gd.freeze {st : St} {h : Hs} {G : FG} {k u sz : Nat} {rs : List (List V)} {X : Prop} (g : Gd c st tm h ρ G) (hw : Hp h w) (hk : lk k st.ob = some (.ar u sz rs)) (hn : frNeedT k rs (frNeedO k rs X (obr k st.ob)) st.tm) :
  X ∧ ∃ h' G',Gd c ⟨frTm k sz rs st.tm,frOb k sz rs (obr k st.ob)⟩ tm h' ρ G' ∧ Hp h' w ∧ ∀ w',Hp h' w' → Hp h w' := by
 obtain ⟨F,w0,hp⟩ := h
 obtain ⟨Y,f,⟨A,cc,us,rfl,g2,g3,g4,g5⟩,g6,_,g8⟩ := g.ob.set hk
 have hperm : hp.Perm (hbA A u us cc sz ++ f []) := by have := g6.perm (hbA A u us cc sz);rwa [g6.eq] at this
 have hnd : ((hbA A u us cc sz ++ f []).map Prod.fst).Nodup := (hperm.map _).nodup_iff.1 hw.nd
 have hmem : ∀ p,p ∈ hp ↔ p ∈ hbA A u us cc sz ∨ p ∈ f [] := fun p => by rw [hperm.mem_iff,List.mem_append]
 have hB : ∀ b,Bl (hbA A u us cc sz) b → ¬ F b := fun b ⟨x,hx⟩ => hw.out b x ((hmem _).2 (.inl hx))
 have hz : Mz ⟨G,w0⟩ ⟨G.or (Bl (hbA A u us cc sz)),w⟩ := ⟨fun _ h => .inl h,fun b hb => hw.same.block b (g.gF b hb),fun _ _ _ h => h⟩
 have g4' := g4.mono hz
 have fz : Frz ρ ⟨G.or (Bl (hbA A u us cc sz)),w⟩ k sz rs := ⟨fun n v hn h => by
  cases h with | @ow _ _ l h0 hA hnc =>
  rw [h0] at g2
  injection g2 with g2;subst g2
  rcases g3.form with ⟨rfl,h1,h2⟩ | ⟨b,rfl⟩
  ·have hrs : rs = [] := List.eq_nil_of_length_eq_zero h1
   subst hrs
   exact .sl (b := 0) (o := 0) [] hn hnc (Nat.le_trans hnc g3.max) g5 (fun h => absurd rfl h) (by simp) (fun j u h => by simp at h) rfl (fun j d u h => by simp at h)
  ·have hm : (b,(⟨u,us,cc * sz⟩ : Hb)) ∈ hbA (some ⟨b,0,none⟩) u us cc sz := by rw [hbA_some];exact List.mem_singleton.2 rfl
   exact .sl (b := b) (o := 0) us hn hnc (Nat.le_trans hnc g3.max) g5 (fun _ => ⟨rfl,.inr ⟨_,hm⟩⟩) g4'.len (fun j x hx => by rw [Nat.zero_add];exact (hw.blk b _ ((hmem _).2 (.inl hm))).cell (x := ⟨u,us,_⟩) hx) g4'.one g4'.den⟩
 obtain ⟨q1,q2⟩ := frTm_lk (sz := sz) hn
 obtain ⟨r1,r2⟩ := frOb_den fz q1 (g8.mono hz .refl)
 refine ⟨r1,⟨fun b => F b ∨ Bl (hbA A u us cc sz) b,w,f []⟩,G.or (Bl (hbA A u us cc sz)),⟨fun b hb => .inl (g.fF b hb),g.fw.trans (hw.same.mono g.fF),fun b hb => hb.imp (g.gF b) id,fun b hb => ?_,g.fm.or,fun j s' hj => ?_,r2⟩,⟨Same.refl _ _,fun b hb => ?_,fun b x hx => hw.blk b x ((hmem _).2 (.inr hx)),?_,fun b x hx hb => ?_⟩,fun w' hw' => ?_⟩
 ·rcases hb with hb | hb
  ·exact g.gx b hb
  ·exact .inr fun h0 => hB b hb (g.fF b h0)
 ·obtain ⟨s,e1,rfl,Z,e3⟩ := q2 j s' hj
  obtain ⟨v,v1,v2⟩ := g.tm j s e1
  exact ⟨v,v1,frS_den fz e3 (v2.mono hz .refl)⟩
 ·rcases hb with hb | ⟨x,hx⟩
  ·exact hw.Flt hb
  ·exact (hw.blk b x ((hmem _).2 (.inl hx))).lt
 ·rw [List.map_append,List.nodup_append] at hnd;exact hnd.2.1
 ·rcases hb with hb | ⟨y,hy⟩
  ·exact hw.out b x ((hmem _).2 (.inr hx)) hb
  ·rw [List.map_append,List.nodup_append] at hnd
   exact hnd.2.2 b (List.mem_map_of_mem (f := Prod.fst) hy) b (List.mem_map_of_mem (f := Prod.fst) hx) rfl
 ·refine ⟨hw.same.trans (hw'.same.mono fun _ h => .inl h),hw.inF,fun b x hx => ?_,hw.nd,hw.out⟩
  rcases (hmem _).1 hx with h1 | h1
  ·exact (hw.blk b x hx).of_block (hw'.same.block b (.inr ⟨x,h1⟩))
  ·exact hw'.blk b x h1
theorem frAll_out {K : Kt} : ∀ {ks : List Nat} {st : St} {h : Hs} {G : FG},Gd c st tm h ρ G → Hp h w → frAll K ks st.tm st.ob → ∃ st' h' G',Gd c st' tm h' ρ G' ∧ Hp h' w ∧ (∀ w',Hp h' w' → Hp h w') ∧ K st'.tm st'.ob
 | [],st,h,G,g,hw,k => ⟨st,h,G,g,hw,fun _ h => h,k⟩
 | k0 :: r,st,h,G,g,hw,k => by
  simp only [frAll] at k
  split at k
  ·rename_i u sz rs hk
   obtain ⟨q1,h',G',q2,q3,q4⟩ := g.freeze hw hk k
   obtain ⟨st2,h2,G2,r1,r2,r3,r4⟩ := frAll_out q2 q3 q1
   exact ⟨st2,h2,G2,r1,r2,fun w' hw' => q4 w' (r3 w' hw'),r4⟩
  ·exact k.elim
end
section
variable {P : Program} {T : List (Nat × Ty)} {nt : Nt} {Q : Exit → Act → World → Prop} {c : Cx} {st : St} {tm : List (Nat × Value)} {h : Hs} {ρ : Rho} {G : FG} {ty : TypeId} {pos : String} {af : Array Edge} {gd : Option (Nat × Bool)} {K : Kt}
theorem call_out (g : Gd c st tm h ρ G) {f : FuncId} {xs : List Operand} {ss : List SV} {KS : SV → Prop} (ha : argsT st.ob st.tm xs = some ss) (hn : needA st.ob st.tm (Cl P f ss (ownA st.tm xs) KS) xs) :
  ∃ vs,ArgsL tm xs vs ∧ ∀ w,Hp h w → FnOk P f ∧ Calls P f vs.toArray w fun e w' => ∃ v h',e = .returned v ∧ Hp h' w' ∧ ∃ s G',KS s ∧ DenS ρ ⟨G',h'.w0⟩ s v ∧ Gd c st tm h' ρ G' ∧ ∀ w,Hp h' w → Hp h w := by
 obtain ⟨vs,a1,a2,a3⟩ := argsT_ev (ρ' := ρ) g ha
 refine ⟨vs,a1,fun w hw => ?_⟩
 obtain ⟨cl,a4,a5⟩ := a3 w hw _ hn
 refine ⟨cl.out.fn,?_⟩
 have hF : ∀ b,Bl h.hp b → ¬ h.F b := fun b ⟨x,hx⟩ => hw.out b x hx
 have hin : ∀ b,h.F b ∨ Bl h.hp b → b < w.heap.size := fun b hb => by
  rcases hb with hb | ⟨x,hx⟩
  ·exact hw.Flt hb
  ·exact (hw.blk b x hx).lt
 have key : ∀ B : Nat → Prop,(∀ b,B b → h.F b ∨ Bl h.hp b) → (∀ (j : Nat) s v,ss[j]? = some s → vs[j]? = some v → DenS ρ ⟨⟨B,G.fam,fun _ => False⟩,w⟩ s v) →
   Calls P f vs.toArray w fun e w' => ∃ v h' s,∃ G' : FG,e = .returned v ∧ Hp h' w' ∧ (∀ w,Hp h' w → Hp h w) ∧ Gd c st tm h' ρ G ∧ (∀ b,G' b → B b ∨ ¬ (h.F b ∨ Bl h.hp b)) ∧ (∀ b,G' b → ¬ Bl h.hp b → h'.F b) ∧ G'.fam = G.fam ∧ DenS ρ ⟨G',h'.w0⟩ s v ∧ (ownA st.tm xs = true → flatS s = true) ∧ KS s := by
  intro B hB hden
  have hp0 : Hp ⟨fun b => h.F b ∨ Bl h.hp b,w,[]⟩ w := ⟨Same.refl _ _,hin,fun _ _ h => (by cases h),by simp,fun _ _ h => (by cases h)⟩
  refine (cl.out.out ⟨fun b => h.F b ∨ Bl h.hp b,w,⟨B,G.fam,fun _ => False⟩⟩ ρ [] vs w hp0 a2 ⟨fun _ hb => hb,Same.refl _ _,hB,fun _ hb => .inl hb,.refl _,fun k s hk => ?_,rfl⟩).mono ?_
  ·obtain ⟨h1,h2⟩ := lk_slT hk
   have hlt : k - 0 < vs.length := by rw [a2];exact (List.getElem?_eq_some_iff.1 h2).1
   exact ⟨vs[k - 0],lk_slots h1 (List.getElem?_eq_getElem hlt),hden _ s _ h2 (List.getElem?_eq_getElem hlt)⟩
  ·rintro e w' ⟨v,h',s,ob',ρ',G',rfl,hw',g',rfl,hpu,hfl,hk⟩
   have hhp : h'.hp = [] := g'.ob
   have hfam : G'.fam = G.fam := funext fun k => g'.fm.eq k (fun h => h)
   obtain ⟨v',e1,e2⟩ := g'.tm 0 s rfl
   simp only [lk,Nat.beq_refl,cond_true,Option.some.injEq] at e1
   subst e1
   have hkeep : ∀ b,h.F b ∨ Bl h.hp b → w'.heap[b]? = w.heap[b]? := fun b hb => (hw'.same.block b (g'.fF b hb)).trans (g'.fw.block b hb)
   refine ⟨v,⟨fun b => h'.F b ∧ ¬ Bl h.hp b,h'.w0,h.hp⟩,s,G',rfl,⟨hw'.same.mono fun _ hb => hb.1,fun b hb => hw'.inF b hb.1,fun b x hx => (hw.blk b x hx).of_block (hkeep b (.inr ⟨x,hx⟩)),hw.nd,fun b x hx hb => hb.2 ⟨x,hx⟩⟩,fun w2 hw2 => ?_,?_,g'.gx,fun b hb hnb => ⟨g'.gF b hb,hnb⟩,hfam,e2.pure hpu,hfl,hk⟩
   ·refine ⟨(hw.same.trans (g'.fw.mono fun b hb => .inl hb)).trans (hw2.same.mono fun b hb => ⟨g'.fF b (.inl hb),fun hbl => hF b hbl hb⟩),hw.inF,hw2.blk,hw2.nd,fun b x hx hb => hF b ⟨x,hx⟩ hb⟩
   have hm : Mz ⟨G,h.w0⟩ ⟨G,h'.w0⟩ := ⟨fun _ hb => hb,fun b hb => (g'.fw.block b (.inl (g.gF b hb))).trans (hw.same.block b (g.gF b hb)),fun _ _ _ h => h⟩
   refine ⟨fun b hb => ⟨g'.fF b (.inl (g.fF b hb)),fun hbl => hF b hbl (g.fF b hb)⟩,?_,fun b hb => ⟨g'.fF b (.inl (g.gF b hb)),fun hbl => hF b hbl (g.gF b hb)⟩,g.gx,g.fm,fun k s hk => ?_,g.ob.mono hm .refl⟩
   ·exact (g.fw.trans (hw.same.mono g.fF)).trans (g'.fw.mono fun b hb => .inl (g.fF b hb))
   ·obtain ⟨u,h1,h2⟩ := g.tm k s hk
    exact ⟨u,h1,h2.mono hm .refl⟩
 cases ho : ownA st.tm xs
 ·refine (key G.on (fun b hb => .inl (g.gF b hb)) (fun j s v e1 e2 => DenS.mono (z := ⟨G,w⟩) (z' := ⟨⟨G.on,G.fam,fun _ => False⟩,w⟩) ⟨fun _ h => h,fun _ _ => rfl,fun _ _ _ h => h⟩ .refl (a5 ho j s v e1 e2))).mono ?_
  rintro e w' ⟨v,h',s,G',rfl,hw',hkp,g',hg1,hg2,hfam,hd,_,hk⟩
  refine ⟨v,h',rfl,hw',s,G.or G',hk,DenS.mono (z := ⟨G',h'.w0⟩) (z' := ⟨G.or G',h'.w0⟩) ⟨fun _ hb => Or.inr hb,fun _ _ => rfl,fun k i b h => by rw [hfam] at h;exact h⟩ .refl hd,?_⟩
  have hm : Mz ⟨G,h'.w0⟩ ⟨G.or G',h'.w0⟩ := ⟨fun _ hb => Or.inl hb,fun _ _ => rfl,fun _ _ _ h => h⟩
  have hnb : ∀ b,G' b → ¬ Bl h.hp b := fun b hb hbl => by
   rcases hg1 b hb with h1 | h1
   ·exact hF b hbl (g.gF b h1)
   ·exact h1 (.inr hbl)
  refine ⟨⟨g'.fF,g'.fw,fun b hb => ?_,fun b hb => ?_,g'.fm.or,fun k s hk => ?_,g'.ob.mono hm .refl⟩,hkp⟩
  ·rcases hb with hb | hb
   ·exact g'.gF b hb
   ·exact hg2 b hb (hnb b hb)
  ·rcases hb with hb | hb
   ·exact g.gx b hb
   ·rcases hg1 b hb with h1 | h1
    ·exact g.gx b h1
    ·exact .inr fun h2 => h1 (.inl (g.fF b h2))
  ·obtain ⟨u,h1,h2⟩ := g'.tm k s hk
   exact ⟨u,h1,h2.mono hm .refl⟩
 ·refine (key (G.or (Bl h.hp)).on (fun b hb => hb.imp (g.gF b) id) (fun j s v e1 e2 => DenS.mono (z := ⟨G.or (Bl h.hp),w⟩) (z' := ⟨⟨(G.or (Bl h.hp)).on,G.fam,fun _ => False⟩,w⟩) ⟨fun _ h => h,fun _ _ => rfl,fun _ _ _ h => h⟩ .refl (a4 j s v e1 e2))).mono ?_
  rintro e w' ⟨v,h',s,G',rfl,hw',hkp,g',hg1,hg2,hfam,hd,hfl,hk⟩
  exact ⟨v,h',rfl,hw',s,G,hk,hd.flat (hfl ho),g',hkp⟩
theorem call_A {f : FuncId} {xs : Array Operand} {ts : Array TypeId} {d : Option Tmp} (g : Gd c st tm h ρ G) (k : vcA P nt d f xs st.tm st.ob K) : OpS P nt Q ⟨d,.call ⟨.value (.func f),xs,ts⟩,ty,pos,af,gd⟩ tm h (Kk h c K) := by
 simp only [vcA] at k
 cases ha : argsT st.ob st.tm xs.toList with
 | none => simp only [ha] at k
 | some ss =>
  simp only [ha] at k
  have hxs : xs = xs.toList.toArray := by simp
  cases d with
  | some d =>
   simp only at k
   cases hd : Nat.blt d nt
   ·rw [hd] at k;exact k.elim
   ·rw [hd] at k
    simp only [cond_true] at k
    have key : ∀ (st' : St) (h' : Hs) (G' : FG) (ss' : List SV) (own : Bool),Gd c st' tm h' ρ G' → argsT st'.ob st'.tm xs.toList = some ss' → ownA st'.tm xs.toList = own → needA st'.ob st'.tm (Cl P f ss' own fun s => K ((d,s) :: st'.tm) st'.ob) xs.toList → (∀ w,Hp h' w → Hp h w) →
      ∀ (a : Act) (w : World),Slt nt tm a → Hp h' w → Oper.wp P ⟨some d,.call ⟨.value (.func f),xs,ts⟩,ty,pos,af,gd⟩ a w (fun a w => ∃ tm' h',Slt nt tm' a ∧ Hp h' w ∧ Kk h c K tm' h') Q := by
     intro st' h' G' ss' own g' ha' ho' k' hkp' a w sl hw
     subst ho'
     obtain ⟨vs,a1,a2⟩ := call_out g' ha' k'
     obtain ⟨⟨fn,cd,f1,f2,f3⟩,-⟩ := a2 w hw
     rw [hxs]
     refine (OpS.call (P := P) (nt := nt) (Q := Q) (h := h') (fun v h2 => Kk h c K ((d,v) :: tm) h2) f1 f2 f3 a1 hd (fun w hw => (a2 w hw).2.mono ?_) fun _ _ hk => hk).out a w sl hw
     rintro e w' ⟨v,h2,rfl,hw2,s,G2,hk,hs,g2,hkp⟩
     exact ⟨v,h2,rfl,hw2,.of (fun w hw => hkp' w (hkp w hw)) (g2.put hs) hk⟩
    refine ⟨fun a w sl hw => ?_⟩
    cases ho : ownA st.tm xs.toList
    ·simp only [ho] at k
     exact key st h G ss false g ha ho k (fun _ h => h) a w sl hw
    ·simp only [ho] at k
     rcases k.out with k | k
     ·exact key st h G ss true g ha ho k (fun _ h => h) a w sl hw
     ·obtain ⟨st2,h2,G2,r1,r2,r3,r4⟩ := frAll_out g hw k
      split at r4
      ·rename_i ss2 ha2
       split at r4
       ·rename_i ho2
        exact key st2 h2 G2 ss2 false r1 ha2 ho2 r4 r3 a w sl r2
       ·exact r4.elim
      ·exact r4.elim
  | none =>
   simp only at k
   obtain ⟨vs,a1,a2⟩ := call_out g ha k
   refine ⟨fun a w sl hw => ?_⟩
   obtain ⟨⟨fn,cd,f1,f2,f3⟩,-⟩ := a2 w hw
   rw [hxs]
   refine (OpS.call0 (P := P) (nt := nt) (Q := Q) (h := h) (fun v h' => Kk h c K tm h') f1 f2 f3 a1 (fun w hw => (a2 w hw).2.mono ?_) fun _ _ hk => hk).out a w sl hw
   rintro e w' ⟨v,h',rfl,hw',s,G',hk,hs,g',hkp⟩
   exact ⟨v,h',rfl,hw',.of hkp g' hk⟩
end
end Go.Proofs.YtjpaaaecbgmcgaaGreatDoor
/-
 The layer of trees: code;entering and leaving.
-/
namespace Go.Proofs.YtjpaaaecbgmcgaaGreatDoor
open Go.RowKit
section
variable {P : Program} {T : List (Nat × Ty)} [hT : Tys P T] {nt : Nt} {Q : Exit → Act → World → Prop} {c : Cx} {st : St} {tm : List (Nat × Value)} {h : Hs} {ρ : Rho} {G : FG} {ty : TypeId} {pos : String} {af : Array Edge} {gd : Option (Nat × Bool)} {K : Kt}
def keepT : Op → Bool
 | .alloc _ | .box _ _ | .buildSlice _ _ _ => true
 | .call ⟨.value (.func _),_,_⟩ => true
 | _ => false
theorem vcM_keep {op : Op} {d : Option Tmp} (ho : keepT op = true) (g : Gd c st tm h ρ G) (k : vcM P T nt true ⟨d,op,ty,pos,af,gd⟩ st.tm st.ob K) : OpS P nt Q ⟨d,op,ty,pos,af,gd⟩ tm h (Kk h c K) := by
 cases op with
 | alloc t => exact alloc_keep g k
 | box t x => exact box_keep (T := T) g k
 | buildSlice t n ps => exact buildSlice_keep g k
 | call cl =>
  obtain ⟨cal,xs,ts⟩ := cl
  cases cal with
  | builtin b => cases ho
  | value f =>
   cases f with
   | func f =>
    simp only [vcM] at k
    rcases k.out with k | k
    ·exact call_A g k
    ·exact k.out Q c tm h ρ G g
   | _ => cases ho
  | invoke r m => cases ho
 | _ => cases ho
theorem vcM_sound {op : Op} {d : Option Tmp} (g : Gd c st tm h ρ G) {kp : Bool} (k : vcM P T nt kp ⟨d,op,ty,pos,af,gd⟩ st.tm st.ob K) : OpS P nt Q ⟨d,op,ty,pos,af,gd⟩ tm h (Kd c K) := by
 cases op with
 | alloc t => exact (alloc_keep g k).mono fun _ _ h => h.kd
 | box t x => exact (box_keep (T := T) g k).mono fun _ _ h => h.kd
 | store t x y => exact store_sound g k
 | buildSlice t n ps => exact (buildSlice_keep g k).mono fun _ _ h => h.kd
 | call cl =>
  obtain ⟨cal,xs,ts⟩ := cl
  cases cal with
  | builtin b =>
   cases b with
   | append => exact append_sound g k
   | _ => exact Raw.out k Q c tm h ρ G g
  | value f =>
   cases f with
   | func f =>
    simp only [vcM] at k
    rcases k.out with k | k
    ·exact (call_A g k).mono fun _ _ h => h.kd
    ·cases kp
     ·exact k.out Q c tm h ρ G g
     ·exact (k.out Q c tm h ρ G g).mono fun _ _ h => h.kd
   | _ => exact Raw.out k Q c tm h ρ G g
  | invoke r m => exact Raw.out k Q c tm h ρ G g
 | _ => exact Raw.out k Q c tm h ρ G g
theorem vcOp_sound {o : Oper} (g : Gd c st tm h ρ G) (k : vcOp P T nt o st.tm st.ob K) : OpS P nt Q o tm h (Kd c K) := by
 obtain ⟨d,op,ty,pos,af,gd⟩ := o
 simp only [vcOp] at k
 cases hy : vcY P T op st.tm st.ob (fun s => putT nt d s st.tm st.ob K) with
 | none => simp only [hy] at k;exact vcM_sound g k
 | some p =>
  simp only [hy] at k
  obtain ⟨s,v,q1,q2,q3⟩ := vcY_sound g hy k (P := P) (nt := nt) (ty := ty) (pos := pos) (af := af) (gd := gd) (d := d)
  exact putT_sound g q1 q2 q3
theorem vcOpK_sound {kp : Bool} {o : Oper} (g : Gd c st tm h ρ G) (k : vcOpK P T nt kp o st.tm st.ob K) : OpS P nt Q o tm h (Kd c K) := by
 obtain ⟨d,op,ty,pos,af,gd⟩ := o
 simp only [vcOpK] at k
 cases hy : vcY P T op st.tm st.ob (fun s => putT nt d s st.tm st.ob K) with
 | none => simp only [hy] at k;exact vcM_sound g k
 | some p =>
  simp only [hy] at k
  obtain ⟨s,v,q1,q2,q3⟩ := vcY_sound g hy k (P := P) (nt := nt) (ty := ty) (pos := pos) (af := af) (gd := gd) (d := d)
  exact putT_sound g q1 q2 q3
theorem vcOpK_keep {op : Op} {d : Option Tmp} (ho : keepT op = true) (g : Gd c st tm h ρ G) (k : vcOpK P T nt true ⟨d,op,ty,pos,af,gd⟩ st.tm st.ob K) : OpS P nt Q ⟨d,op,ty,pos,af,gd⟩ tm h (Kk h c K) := by
 have hy : ∀ X,vcY P T op st.tm st.ob X = none := fun X => by
  cases op with
  | alloc t => simp [vcY,yT]
  | box t x => simp [vcY,yT]
  | buildSlice t n ps => simp [vcY,yT]
  | call cl =>
   obtain ⟨cal,xs,ts⟩ := cl
   cases cal with
   | builtin b => cases ho
   | value f => simp [vcY,yT]
   | invoke r m => cases ho
  | _ => cases ho
 simp only [vcOpK,hy] at k
 exact vcM_keep ho g k
theorem AWl.wk {ops : Array Oper} {l : List Oper} {h' : Hs} (hh : ∀ w,Hp h w → Hp h' w) (k : AWl P nt ops Q l tm h') : AWl P nt ops Q l tm h := ⟨fun a w ha hw => k.out a w ha (hh w hw)⟩
theorem AWl_of_Kd {ops : Array Oper} {l : List Oper} (hK : ∀ st tm h ρ G,Gd c st tm h ρ G → K st.tm st.ob → AWl P nt ops Q l tm h) : ∀ tm h,Kd c K tm h → AWl P nt ops Q l tm h :=
 fun _ _ ⟨_,_,_,_,hh,g,k⟩ => (hK _ _ _ _ _ g k).wk hh
theorem gdT_eq {ops : Array Oper} {j t : Nat} (h : gdT ops j = some t) : (ops[j]?).bind (·.dst) = some t := by
 unfold gdT at h
 rw [nth_eq] at h
 simp only [Array.getElem?_toList] at h
 cases ho : ops[j]? with
 | none => rw [ho] at h;cases h
 | some o => rw [ho] at h;simpa using h
theorem evT_undef (g : Gd c st tm h ρ G) {x : Operand} (hx : evT st.tm x = some (.t [])) : ev tm x = some undef := by
 obtain ⟨v,h1,h2⟩ := g.ev hx
 cases h2 with | @t _ vs hl _ =>
 have : vs = [] := List.eq_nil_of_length_eq_zero (by simpa using hl)
 subst this
 exact h1
omit hT in
theorem yielded_undef {ops : Array Oper} {j t : Nat} {a : Act} (ha : Slt nt tm a) (hj : (ops[j]?).bind (·.dst) = some t) (hb : lk t tm = some undef) : yielded ops a.tmps j = none := by
 simp [yielded,hj,ha.tm t _ hb,undef]
omit hT in
theorem AWl.stepU {ops : Array Oper} {d : Tmp} {op : Op} {rest : List Oper} {j t : Nat} {want : Bool} (hj : (ops[j]?).bind (·.dst) = some t) (hb : lk t tm = some undef) (hd : Nat.blt d nt = true) (k : AWl P nt ops Q rest ((d,undef) :: tm) h) : AWl P nt ops Q (⟨some d,op,ty,pos,af,some (j,want)⟩ :: rest) tm h :=
 ⟨fun a w ha hw' => Lw_step fun K hK => by
  have : ¬ Region.wanted ⟨some d,op,ty,pos,af,some (j,want)⟩ (yielded ops a.tmps) = true := by
   simp [Region.wanted,yielded_undef ha hj hb]
  rw [if_neg this]
  exact hK _ _ (k.out _ w (ha.put (by simpa using hd) _) hw')⟩
omit hT in
theorem AWl.stepU' {ops : Array Oper} {op : Op} {rest : List Oper} {j t : Nat} {want : Bool} (hj : (ops[j]?).bind (·.dst) = some t) (hb : lk t tm = some undef) (k : AWl P nt ops Q rest tm h) : AWl P nt ops Q (⟨none,op,ty,pos,af,some (j,want)⟩ :: rest) tm h :=
 ⟨fun a w ha hw' => Lw_step fun K hK => by
  have : ¬ Region.wanted ⟨none,op,ty,pos,af,some (j,want)⟩ (yielded ops a.tmps) = true := by
   simp [Region.wanted,yielded_undef ha hj hb]
  rw [if_neg this]
  exact hK _ _ (k.out _ w ha hw')⟩
theorem AWl.stepY {ops : Array Oper} {op : Op} {d : Option Tmp} {rest : List Oper} {X : List (Nat × Value) → Hs → Prop} (k : ∀ a w,Slt nt tm a → Hp h w → ∀ ro,(⟨d,op,ty,pos,af,none⟩ : Oper).wpIn (RF ro) 0 P a w (fun a' w' => ∃ tm' h',Slt nt tm' a' ∧ Hp h' w' ∧ X tm' h') Q) (hX : ∀ tm h,X tm h → AWl P nt ops Q rest tm h) : AWl P nt ops Q (⟨d,op,ty,pos,af,none⟩ :: rest) tm h :=
 ⟨fun a w ha hw => Lw_in rfl fun ro => Oper.wpIn_mono (fun a' w' ⟨tm',h',q1,q2,q3⟩ => (hX tm' h' q3).out a' w' q1 q2) (k a w ha hw ro)⟩
theorem vcL_sound {ops : Array Oper} (hK : ∀ st tm h ρ G,Gd c st tm h ρ G → K st.tm st.ob → AWq nt Q .normal tm h) : ∀ (l : List Oper) (st : St) (tm : List (Nat × Value)) (h : Hs) (ρ : Rho) (G : FG),Gd c st tm h ρ G → vcL P T nt ops K l st.tm st.ob → AWl P nt ops Q l tm h
 | [],st,tm,h,ρ,G,g,k => .nil (hK st tm h ρ G g k)
 | ⟨d,op,ty,pos,af,gu⟩ :: r,st,tm,h,ρ,G,g,k => by
  have ih := vcL_sound (ops := ops) hK r
  simp only [vcL] at k
  cases gu with
  | none =>
   simp only at k
   cases hy : yldT st.tm op with
   | some l => simp only [hy] at k;exact AWl.stepY (k.out Q c tm h ρ G g) (AWl_of_Kd ih)
   | none => simp only [hy] at k;exact AWl.step ((vcOp_sound g k).mono (AWl_of_Kd ih))
  | some p =>
   obtain ⟨j,want⟩ := p
   simp only at k
   cases hj : gdT ops j with
   | none => simp only [hj] at k
   | some t =>
    simp only [hj] at k
    split at k
    ·rename_i b hb
     have eb := evT_bool g (x := .tmp t) hb
     have ej := gdT_eq hj
     have hskip : skipT nt d st.tm st.ob (vcL P T nt ops K r) → b = !want → AWl P nt ops Q (⟨d,op,ty,pos,af,some (j,want)⟩ :: r) tm h := fun hs hw => by
      cases d with
      | none => exact AWl.stepF' ej eb hw (ih _ _ _ _ _ g hs)
      | some d =>
       simp only [skipT] at hs
       cases hd : Nat.blt d nt
       ·rw [hd] at hs;exact hs.elim
       ·rw [hd] at hs
        exact AWl.stepF ej eb hw hd (ih _ _ _ _ _ (g.put (.t (vs := []) rfl (by simp))) hs)
     cases want
     ·simp only at k
      cases b
      ·exact AWl.stepT ej eb rfl ((vcOp_sound g (k.f rfl)).mono (AWl_of_Kd ih))
      ·exact hskip (k.t rfl) rfl
     ·simp only at k
      cases b
      ·exact hskip (k.f rfl) rfl
      ·exact AWl.stepT ej eb rfl ((vcOp_sound g (k.t rfl)).mono (AWl_of_Kd ih))
    ·rename_i hb
     have eb := evT_undef g (x := .tmp t) hb
     have ej := gdT_eq hj
     cases d with
     | none => exact AWl.stepU' ej eb (ih _ _ _ _ _ g k)
     | some d =>
      simp only [skipT] at k
      cases hd : Nat.blt d nt
      ·rw [hd] at k;exact k.elim
      ·rw [hd] at k
       exact AWl.stepU ej eb hd (ih _ _ _ _ _ (g.put (.t (vs := []) rfl (by simp))) k)
    ·exact k.elim
end
end Go.Proofs.YtjpaaaecbgmcgaaGreatDoor
/-
 The layer of trees: a state seen as another one;code;leaving a function.
-/
namespace Go.Proofs.YtjpaaaecbgmcgaaGreatDoor
open Go.RowKit
def Shr (x y : Nat × Hb) : Prop := y.1 = x.1 ∧ y.2.ty = x.2.ty ∧ y.2.tot = x.2.tot ∧ ∃ r,x.2.cs = y.2.cs ++ r
inductive ShL : List (Nat × Hb) → List (Nat × Hb) → Prop
 | nil : ShL [] []
 | cons {x y : Nat × Hb} {r s : List (Nat × Hb)} : Shr x y → ShL r s → ShL (x :: r) (y :: s)
theorem Shr.refl (x : Nat × Hb) : Shr x x := ⟨rfl,rfl,rfl,[],by simp⟩
theorem ShL.refl : ∀ l : List (Nat × Hb),ShL l l
 | [] => .nil
 | x :: r => .cons (.refl x) (ShL.refl r)
theorem ShL.append {a b c d : List (Nat × Hb)} (h : ShL a b) (h' : ShL c d) : ShL (a ++ c) (b ++ d) := by
 induction h with
 | nil => exact h'
 | cons h0 _ ih => exact .cons h0 ih
theorem ShL.fst {a b : List (Nat × Hb)} (h : ShL a b) : b.map Prod.fst = a.map Prod.fst := by
 induction h with
 | nil => rfl
 | cons h0 _ ih => simp [ih,h0.1]
theorem ShL.get {a b : List (Nat × Hb)} (h : ShL a b) : ∀ y ∈ b,∃ x ∈ a,Shr x y := by
 induction h with
 | nil => intro y hy;cases hy
 | cons h0 _ ih =>
  intro y hy
  rcases List.mem_cons.1 hy with rfl | hy
  ·exact ⟨_,List.mem_cons_self,h0⟩
  ·obtain ⟨x,h1,h2⟩ := ih y hy;exact ⟨x,List.mem_cons_of_mem _ h1,h2⟩
theorem HasB.shr {w : World} {b : Nat} {x y : Hb} (h : HasB w b x) (s : Shr (b,x) (b,y)) : HasB w b y := by
 obtain ⟨_,e1,e2,r,e3⟩ := s
 dsimp only at e1 e2 e3
 rcases h.or with ⟨k,junk,h0,h1,h2⟩ | ⟨h0,_,_,h1⟩
 ·unfold HasB
  rw [e2,h0]
  refine ⟨r ++ junk,by rw [h1,e3,e1,List.append_assoc],?_⟩
  rw [← h2,e3];simp [Nat.add_assoc]
 ·rw [e3] at h0
  exact h1 y (List.append_eq_nil_iff.1 h0).1 e2
theorem Hp.shl {F : Nat → Prop} {w0 w : World} {hp hp' : List (Nat × Hb)} (hw : Hp ⟨F,w0,hp⟩ w) (s : ShL hp hp') : Hp ⟨F,w0,hp'⟩ w :=
 ⟨hw.same,hw.inF,fun b y hy => by
  obtain ⟨⟨b',x⟩,h1,h2⟩ := s.get _ hy
  obtain rfl : b = b' := h2.1
  exact (hw.blk _ x h1).shr h2,by rw [s.fst];exact hw.nd,fun b y hy => by
  obtain ⟨⟨b',x⟩,h1,h2⟩ := s.get _ hy
  obtain rfl : b = b' := h2.1
  exact hw.out _ x h1⟩
inductive So where
 | k (k : Nat)
 | n (sz : Nat)
abbrev Src := List (Nat × So)
inductive LeN (src : Src) : List Nat → List Nat → Prop
 | nil : LeN src [] []
 | cons {k K : Nat} {r R : List Nat} : lk K src = some (.k k) → LeN src r R → LeN src (k :: r) (K :: R)
inductive LeD (src : Src) : D → D → Prop
 | u {x y : V} : x = y → LeD src (.u x) (.u y)
 | no {K sz n : Nat} : lk K src = some (.n sz) → n = 0 → LeD src (.u .nl) (.ow K n)
 | nl {sz : Nat} {rs : List (List V)} : rs = [] → LeD src (.u .nl) (.u (.sl sz rs))
 | ow {k K n m : Nat} : lk K src = some (.k k) → n = m → LeD src (.ow k n) (.ow K m)
 | p {k K o : Nat} : lk K src = some (.k k) → LeD src (.p k o) (.p K o)
 | e {k K i j o : Nat} : lk K src = some (.k k) → i = j → LeD src (.e k i o) (.e K j o)
 | q {cs ds : List V} {o : Nat} : cs = ds → LeD src (.q cs o) (.q ds o)
 | fn {f : FuncId} {ks Ks : List Nat} : LeN src ks Ks → LeD src (.fn f ks) (.fn f Ks)
 | mp {k K : Nat} : lk K src = some (.k k) → LeD src (.mp k) (.mp K)
 | r {k i o sz n m : Nat} : n = m → LeD src (.r k i o sz n) (.r k i o sz m)
 | ows {k K off off' n n' : Nat} : lk K src = some (.k k) → off = off' → n = n' → LeD src (.ows k off n) (.ows K off' n')
 | any {x : D} : x = .any → LeD src x .any
 | re {k i o j f : Nat} : LeD src (.re k i o j f) (.re k i o j f)
inductive LeL (src : Src) : List D → List D → Prop
 | nil : LeL src [] []
 | cons {x y : D} {r s : List D} : LeD src x y → LeL src r s → LeL src (x :: r) (y :: s)
inductive LeC (src : Src) : SC → SC → Prop
 | d {x y : D} : LeD src x y → LeC src (.d x) (.d y)
 | a {xs ys : List D} : LeL src xs ys → LeC src (.a xs) (.a ys)
inductive LeCs (src : Src) : List SC → List SC → Prop
 | nil : LeCs src [] []
 | cons {x y : SC} {r s : List SC} : LeC src x y → LeCs src r s → LeCs src (x :: r) (y :: s)
inductive LeS (src : Src) : SV → SV → Prop
 | ts {vs ws : List SC} : LeCs src vs ws → LeS src (.t vs) (.t ws)
 | d {x y : D} : LeD src x y → LeS src (.d x) (.d y)
 | a {xs ys : List D} : LeL src xs ys → LeS src (.a xs) (.a ys)
 | t {vs ws : List SC} : pureC vs = true → vs = ws → LeS src (.t vs) (.t ws)
inductive LeT (src : Src) (tm : List (Nat × SV)) : List (Nat × SV) → Prop
 | nil : LeT src tm []
 | cons {k : Nat} {s t : SV} {r : List (Nat × SV)} : lk k tm = some s → LeS src s t → LeT src tm r → LeT src tm ((k,t) :: r)
inductive LeO (src : Src) : List (Nat × Ob) → List (Nat × Ob) → Prop
 | nil {ob : List (Nat × Ob)} : LeO src ob []
 | bx {k K : Nat} {t : TypeId} {cs ds : List D} {ob r : List (Nat × Ob)} : lk K src = some (.k k) → lk k ob = some (.bx t cs) → LeL src cs ds → LeO src (obr k ob) r → LeO src ob ((K,.bx t ds) :: r)
 | ar {k K : Nat} {t : TypeId} {sz : Nat} {rs ss : List (List V)} {ob r : List (Nat × Ob)} : lk K src = some (.k k) → lk k ob = some (.ar t sz rs) → rs = ss → LeO src (obr k ob) r → LeO src ob ((K,.ar t sz ss) :: r)
 | fm {k : Nat} {t : TypeId} {rs ss : List (List E)} {ob r : List (Nat × Ob)} : lk k ob = some (.fm t rs) → rs = ss → LeO src (obr k ob) r → LeO src ob ((k,.fm t ss) :: r)
 | mp {k K : Nat} {a b : Bool} {es fs : List (List V × List V)} {ob r : List (Nat × Ob)} : lk K src = some (.k k) → lk k ob = some (.mp a b es) → es = fs → LeO src (obr k ob) r → LeO src ob ((K,.mp a b fs) :: r)
 | fa {k : Nat} {t : TypeId} {sz : Nat} {rs ss : List (List E)} {ob r : List (Nat × Ob)} : lk k src = some (.k k) → lk k ob = some (.fa t sz rs) → rs = ss → LeO src (obr k ob) r → LeO src ob ((k,.fa t sz ss) :: r)
 | ab {k K : Nat} {cs ds : List D} {us : List Value} {zb : Fz} {φ φ' : List (Nat × Hb) → Prop} {ob r : List (Nat × Ob)} : lk K src = some (.k k) → lk k ob = some (.ab cs us zb φ) → LeL src cs ds → φ = φ' → LeO src (obr k ob) r → LeO src ob ((K,.ab ds us zb φ') :: r)
 | tr {k K m : Nat} {t : TypeId} {sz : Nat} {rs ss : List (List V)} {ob r : List (Nat × Ob)} : lk K src = some (.k k) → lk k ob = some (.ar t sz rs) → m ≤ rs.length → rs.take m = ss → LeO src (obr k ob) r → LeO src ob ((K,.ar t sz ss) :: r)
 | no {K : Nat} {t : TypeId} {sz : Nat} {ss : List (List V)} {ob r : List (Nat × Ob)} : lk K src = some (.n sz) → ss = [] → LeO src ob r → LeO src ob ((K,.ar t sz ss) :: r)
structure LeSt (src : Src) (st S : St) : Prop where
 tm : LeT src st.tm S.tm
 ob : LeO src st.ob S.ob
section
variable {src : Src} {ρ : Rho} {z : Fz}
def srcR (src : Src) (ρ : Rho) : Rho := ⟨fun K => match lk K src with
 | some (.k k) => ρ k
 | some (.n sz) => some ⟨none,0,sz⟩
 | none => none,ρ.os⟩
theorem srcR_k {k K : Nat} (h : lk K src = some (.k k)) : srcR src ρ K = ρ k := by simp [srcR,h]
theorem srcR_n {sz K : Nat} (h : lk K src = some (.n sz)) : srcR src ρ K = some ⟨none,0,sz⟩ := by simp [srcR,h]
theorem LeN.len {ks Ks : List Nat} (h : LeN src ks Ks) : ks.length = Ks.length := by
 induction h with
 | nil => rfl
 | cons _ _ ih => simp [ih]
theorem LeN.get {ks Ks : List Nat} (h : LeN src ks Ks) : ∀ (j : Nat) K,Ks[j]? = some K → ∃ k,ks[j]? = some k ∧ lk K src = some (.k k) := by
 induction h with
 | nil => intro j K h;simp at h
 | cons h0 _ ih =>
  intro j K hj
  cases j with
  | zero => simp at hj;subst hj;exact ⟨_,rfl,h0⟩
  | succ j => exact ih j K (by simpa using hj)
theorem LeD.den {d d' : D} {v : Value} (l : LeD src d d') (h : Den ρ z d v) : Den (srcR src ρ) z d' v := by
 cases l with
 | u e => subst e;cases h with | u h => exact .u h
 | no h0 e =>
  subst e
  cases h with | u h => cases h with | nl => exact .ow (l := ⟨none,0,_⟩) (srcR_n h0) (fun _ => rfl) (Nat.le_refl _)
 | nl e =>
  subst e
  cases h with | u h => cases h with | nl => exact .u (.sl (b := 0) (o := 0) [] rfl (Nat.le_refl _) (Nat.zero_le _) (by simp) (fun h => absurd rfl h) (by simp) (fun j u h => by simp at h) rfl (fun j d u h => by simp at h))
 | ow h0 e => subst e;cases h with | ow h hA hc => exact .ow (by rw [srcR_k h0];exact h) hA hc
 | p h0 => cases h with | p h => exact .p (by rw [srcR_k h0];exact h)
 | e h0 e => subst e;cases h with | e h => exact .e (by rw [srcR_k h0];exact h)
 | q e => subst e;cases h with | q hb hu hd => exact .q hb hu hd
 | fn hk =>
  cases h with | fn us hl hd =>
  refine .fn us (by rw [hl,hk.len]) fun j K u h1 h2 => ?_
  obtain ⟨k,h3,h4⟩ := hk.get j K h1
  obtain ⟨b,c,sz,h5,h6⟩ := hd j k u h3 h2
  exact ⟨b,c,sz,by rw [srcR_k h4];exact h5,h6⟩
 | mp h0 => cases h with | mp h hA => exact .mp (by rw [srcR_k h0];exact h) hA
 | r e => subst e;cases h with | r h hA hc hm => exact .r h hA hc hm
 | re => cases h with | re h => exact .re h
 | ows h0 e1 e2 => subst e1 e2;cases h with | ows h hc => exact .ows (by rw [srcR_k h0];exact h) hc
 | any e => subst e;cases h with | any h1 => exact .any h1
theorem LeL.len {xs ys : List D} (l : LeL src xs ys) : xs.length = ys.length := by
 induction l with
 | nil => rfl
 | cons _ _ ih => simp [ih]
theorem LeL.get {xs ys : List D} (l : LeL src xs ys) : ∀ (j : Nat) y,ys[j]? = some y → ∃ x,xs[j]? = some x ∧ LeD src x y := by
 induction l with
 | nil => intro j K h;simp at h
 | cons h0 _ ih =>
  intro j K hj
  cases j with
  | zero => simp at hj;subst hj;exact ⟨_,rfl,h0⟩
  | succ j => exact ih j K (by simpa using hj)
theorem LeL.den {xs ys : List D} {us : List Value} (l : LeL src xs ys) (h : DenL ρ z xs us) : DenL (srcR src ρ) z ys us := ⟨by rw [h.len,l.len],h.one,fun j d u h1 h2 => by
 obtain ⟨x,h3,h4⟩ := l.get j d h1
 exact h4.den (h.den j x u h3 h2)⟩
theorem LeCs.get {xs ys : List SC} (l : LeCs src xs ys) : xs.length = ys.length ∧ ∀ (j : Nat) y,ys[j]? = some y → ∃ x,xs[j]? = some x ∧ LeC src x y := by
 induction l with
 | nil => exact ⟨rfl,fun j K h => by simp at h⟩
 | cons h0 _ ih =>
  refine ⟨by simp [ih.1],fun j K hj => ?_⟩
  cases j with
  | zero => simp at hj;subst hj;exact ⟨_,rfl,h0⟩
  | succ j => exact ih.2 j K (by simpa using hj)
theorem LeC.den {x y : SC} {v : Value} (l : LeC src x y) (h : DenC ρ z x v) : DenC (srcR src ρ) z y v := by
 cases l with
 | d l => cases h with | d h => exact .d (l.den h)
 | a l => cases h with | a h => exact .a (l.den h)
theorem LeS.den {s s' : SV} {v : Value} (l : LeS src s s') (h : DenS ρ z s v) : DenS (srcR src ρ) z s' v := by
 cases l with
 | d l => cases h with | d h => exact .d (l.den h)
 | a l => cases h with | a h => exact .a (l.den h)
 | t hp e => subst e;exact h.pure hp
 | ts l =>
  cases h with | t hl hd =>
  obtain ⟨e1,e2⟩ := l.get
  refine .t (by rw [hl,e1]) fun j s v h1 h2 => ?_
  obtain ⟨x,h3,h4⟩ := e2 j s h1
  exact h4.den (hd j x v h3 h2)
theorem LeT.den {tm tm' : List (Nat × SV)} (l : LeT src tm tm') : ∀ k s,lk k tm' = some s → ∃ s0,lk k tm = some s0 ∧ LeS src s0 s := by
 induction l with
 | nil => intro k s h;simp [lk] at h
 | @cons j s t r h0 h1 _ ih =>
  intro k u hk
  simp only [lk] at hk
  cases hb : Nat.beq k j
  ·rw [hb] at hk;exact ih k u hk
  ·rw [hb] at hk
   simp only [cond_true,Option.some.injEq] at hk
   subst hk
   rw [Nat.eq_of_beq_eq_true hb]
   exact ⟨s,h0,h1⟩
theorem LeO.den {ob S : List (Nat × Ob)} (l : LeO src ob S) : ∀ {hp : List (Nat × Hb)},ObsOk ρ z ob hp → ∃ hp' l rest,ObsOk (srcR src ρ) z S hp' ∧ hp.Perm (l ++ rest) ∧ ShL l hp' := by
 induction l with
 | nil => intro hp h;exact ⟨[],[],hp,rfl,.refl _,.nil⟩
 | @bx k K t cs ds ob r h0 h1 h2 _ ih =>
  intro hp h
  obtain ⟨X,f,⟨b,us,rfl,g2,g3⟩,g4,_,g6⟩ := h.set h1
  obtain ⟨hp',l,rest,i1,i2,i3⟩ := ih g6
  refine ⟨[(b,⟨t,us,cs.length⟩)] ++ hp',[(b,⟨t,us,cs.length⟩)] ++ l,rest,⟨_,hp',rfl,⟨b,us,by rw [h2.len],by rw [srcR_k h0,← h2.len];exact g2,h2.den g3⟩,i1⟩,?_,(ShL.refl _).append i3⟩
  have := g4.perm [(b,⟨t,us,cs.length⟩)]
  rw [g4.eq] at this
  rw [List.append_assoc]
  exact this.trans (i2.append_left _)
 | @ar k K t sz rs ss ob r h0 h1 h2 _ ih =>
  intro hp h
  subst h2
  obtain ⟨X,f,⟨A,c,us,rfl,g2,g3⟩,g4,_,g6⟩ := h.set h1
  obtain ⟨hp',l,rest,i1,i2,i3⟩ := ih g6
  refine ⟨hbA A t us c sz ++ hp',hbA A t us c sz ++ l,rest,⟨_,hp',rfl,⟨A,c,us,rfl,by rw [srcR_k h0];exact g2,g3⟩,i1⟩,?_,(ShL.refl _).append i3⟩
  have := g4.perm (hbA A t us c sz)
  rw [g4.eq] at this
  rw [List.append_assoc]
  exact this.trans (i2.append_left _)
 | @fm k t rs ss ob r h1 h2 _ ih =>
  intro hp h
  subst h2
  obtain ⟨X,f,⟨g2,g3⟩,g4,_,g6⟩ := h.set h1
  obtain ⟨hp',l,rest,i1,i2,i3⟩ := ih g6
  refine ⟨X ++ hp',X ++ l,rest,⟨_,hp',rfl,⟨g2.congr fun _ _ => rfl,g3⟩,i1⟩,?_,(ShL.refl _).append i3⟩
  have := g4.perm X
  rw [g4.eq] at this
  rw [List.append_assoc]
  exact this.trans (i2.append_left _)
 | @mp k K a b es fs ob r h0 h1 h2 _ ih =>
  intro hp h
  subst h2
  obtain ⟨X,f,⟨bb,vs,rfl,g2,g3⟩,g4,_,g6⟩ := h.set h1
  obtain ⟨hp',l,rest,i1,i2,i3⟩ := ih g6
  refine ⟨[(bb,⟨0,[],.m vs⟩)] ++ hp',[(bb,⟨0,[],.m vs⟩)] ++ l,rest,⟨_,hp',rfl,⟨bb,vs,rfl,by rw [srcR_k h0];exact g2,g3⟩,i1⟩,?_,(ShL.refl _).append i3⟩
  have := g4.perm [(bb,⟨0,[],.m vs⟩)]
  rw [g4.eq] at this
  rw [List.append_assoc]
  exact this.trans (i2.append_left _)
 | @fa k t sz rs ss ob r h0 h1 h2 _ ih =>
  intro hp h
  subst h2
  obtain ⟨X,f,⟨A,c,us,Y,rfl,g2,g3,g3',g3''⟩,g4,_,g6⟩ := h.set h1
  obtain ⟨hp',l,rest,i1,i2,i3⟩ := ih g6
  refine ⟨hbA A t us c sz ++ Y ++ hp',hbA A t us c sz ++ Y ++ l,rest,⟨_,hp',rfl,⟨A,c,us,Y,rfl,by rw [srcR_k h0];exact g2,g3,g3'.congr fun _ _ => rfl,g3''⟩,i1⟩,?_,(ShL.refl _).append i3⟩
  have := g4.perm (hbA A t us c sz ++ Y)
  rw [g4.eq] at this
  rw [List.append_assoc (hbA A t us c sz ++ Y)]
  exact this.trans (i2.append_left _)
 | @ab k K cs ds us zb φ φ' ob r h0 h1 h2 h3 _ ih =>
  intro hp h
  subst h3
  obtain ⟨X,f,⟨g1,g2,g3⟩,g4,_,g6⟩ := h.set h1
  obtain ⟨hp',l,rest,i1,i2,i3⟩ := ih g6
  refine ⟨X ++ hp',X ++ l,rest,⟨_,hp',rfl,⟨g1,g2,h2.den g3⟩,i1⟩,?_,(ShL.refl _).append i3⟩
  have := g4.perm X
  rw [g4.eq] at this
  rw [List.append_assoc]
  exact this.trans (i2.append_left _)
 | @tr k K m t sz rs ss ob r h0 h1 hm h2 _ ih =>
  intro hp h
  subst h2
  obtain ⟨X,f,⟨A,c,us,rfl,g2,g3,g3',g3''⟩,g4,_,g6⟩ := h.set h1
  obtain ⟨hp',l,rest,i1,i2,i3⟩ := ih g6
  have hlen : (rs.take m).length = m := by rw [List.length_take,Nat.min_eq_left hm]
  have hfl : (rs.take m).flatten = rs.flatten.take (m * sz) := by
   conv => rhs;rw [← List.take_append_drop m rs,List.flatten_append]
   rw [List.take_left' (by rw [flat_len (sz := sz) (fun r h => g3'' r (List.mem_of_mem_take h)),hlen])]
  have hul : m * sz ≤ us.length := by rw [g3.len];exact Nat.mul_le_mul_right _ hm
  have hok : OkA A (us.take (m * sz)) (rs.take m).length c sz := by
   rw [hlen]
   refine ⟨?_,by rw [List.length_take,Nat.min_eq_left hul],Nat.le_trans hm g3.cap,g3.max⟩
   rcases g3.form with ⟨e1,e2,e3⟩ | e
   ·exact .inl ⟨e1,by omega,e3⟩
   ·exact .inr e
  have hden : DenVL z (rs.take m).flatten (us.take (m * sz)) := by
   rw [hfl]
   refine ⟨by rw [List.length_take,List.length_take,g3'.len],by rw [List.all_eq_true];intro x hx;exact List.all_eq_true.1 g3'.one x (List.mem_of_mem_take hx),fun j d u e1 e2 => ?_⟩
   have hj : j < m * sz := by have := (List.getElem?_eq_some_iff.1 e1).1;simp at this;omega
   rw [List.getElem?_take_of_lt hj] at e1 e2
   exact g3'.den j d u e1 e2
  refine ⟨hbA A t (us.take (m * sz)) c sz ++ hp',hbA A t us c sz ++ l,rest,⟨_,hp',rfl,⟨A,c,_,rfl,by rw [srcR_k h0];exact g2,hok,hden,fun r hr => g3'' r (List.mem_of_mem_take hr)⟩,i1⟩,?_,ShL.append ?_ i3⟩
  ·have := g4.perm (hbA A t us c sz)
   rw [g4.eq] at this
   rw [List.append_assoc]
   exact this.trans (i2.append_left _)
  ·rcases A with _ | a
   ·exact .nil
   ·exact .cons ⟨rfl,rfl,rfl,us.drop (m * sz),by simp⟩ .nil
 | @no K t sz ss ob r h0 h1 _ ih =>
  intro hp h
  subst h1
  obtain ⟨hp',l,rest,i1,i2,i3⟩ := ih h
  exact ⟨hp',l,rest,⟨[],hp',rfl,⟨none,0,[],rfl,srcR_n h0,OkA.nil sz,.nil,by simp⟩,i1⟩,i2,i3⟩
theorem Gd.leF {c : Cx} {st S : St} {tm : List (Nat × Value)} {F : Nat → Prop} {w0 : World} {hp : List (Nat × Hb)} {G : FG} (g : Gd c st tm ⟨F,w0,hp⟩ ρ G) (l : LeSt src st S) : ∃ hp',(∀ w,Hp ⟨F,w0,hp⟩ w → Hp ⟨F,w0,hp'⟩ w) ∧ Gd c S tm ⟨F,w0,hp'⟩ (srcR src ρ) G := by
 obtain ⟨hp',l',rest,i1,i2,i3⟩ := l.ob.den g.ob
 refine ⟨hp',fun w hw => ((hw.perm i2).sub (List.sublist_append_left _ _)).shl i3,g.fF,g.fw,g.gF,g.gx,g.fm,fun k s hk => ?_,i1⟩
 obtain ⟨s0,h1,h2⟩ := l.tm.den k s hk
 obtain ⟨v,h3,h4⟩ := g.tm k s0 h1
 exact ⟨v,h3,h2.den h4⟩
theorem Gd.le {c : Cx} {st S : St} {tm : List (Nat × Value)} {h : Hs} {G : FG} (g : Gd c st tm h ρ G) (l : LeSt src st S) : ∃ h',(∀ w,Hp h w → Hp h' w) ∧ Gd c S tm h' (srcR src ρ) G := by
 obtain ⟨F,w0,hp⟩ := h
 obtain ⟨hp',h1,h2⟩ := g.leF l
 exact ⟨_,h1,h2⟩
end
structure Drw (P : Program) (nt : Nt) (i : Nat) (ops : Array Oper) (K : Kt) (tmT : List (Nat × SV)) (ob : List (Nat × Ob)) : Prop where
 out : ∀ (c : Cx) (tm : List (Nat × Value)) (h : Hs) (ρ : Rho) (G : FG),Gd c ⟨tmT,ob⟩ tm h ρ G → ∀ (Q : Exit → Act → World → Prop) [PanicOk Q],(∀ st tm h ρ G,Gd c st tm h ρ G → K st.tm st.ob → AWq nt Q .normal tm h) → ops.toList.all noDf = true → AWc P nt Q (.region i ops true) tm h
structure Ghost (tmT : List (Nat × SV)) (ob : List (Nat × Ob)) (tmT' : List (Nat × SV)) (ob' : List (Nat × Ob)) : Prop where
 out : ∀ (c : Cx) (tm : List (Nat × Value)) (h : Hs) (ρ : Rho) (G : FG) (w : World),Gd c ⟨tmT,ob⟩ tm h ρ G → Hp h w → ∃ h' ρ' G',Gd c ⟨tmT',ob'⟩ tm h' ρ' G' ∧ Hp h' w
theorem Ghost.refl {tmT : List (Nat × SV)} {ob : List (Nat × Ob)} : Ghost tmT ob tmT ob := ⟨fun _ _ h ρ G _ g hw => ⟨h,ρ,G,g,hw⟩⟩
theorem Ghost.trans {a c e : List (Nat × SV)} {b d f : List (Nat × Ob)} (g : Ghost a b c d) (g' : Ghost c d e f) : Ghost a b e f := ⟨fun c tm h ρ G w k hw => by
 obtain ⟨h1,ρ1,G1,k1,hw1⟩ := g.out c tm h ρ G w k hw
 exact g'.out c tm h1 ρ1 G1 w k1 hw1⟩
structure Gs (i : Nat) (X : Kt) (tm : List (Nat × SV)) (ob : List (Nat × Ob)) : Prop where
 out : ∃ tm' ob',Ghost tm ob tm' ob' ∧ X tm' ob'
theorem Gs.id {i : Nat} {X : Kt} {tm : List (Nat × SV)} {ob : List (Nat × Ob)} (k : X tm ob) : Gs i X tm ob := ⟨tm,ob,.refl,k⟩
theorem Gs.go {i : Nat} {X : Kt} {tm tm' : List (Nat × SV)} {ob ob' : List (Nat × Ob)} (g : Ghost tm ob tm' ob') (k : X tm' ob') : Gs i X tm ob := ⟨tm',ob',g,k⟩
theorem Drw.ghost {P : Program} {nt : Nt} {i : Nat} {ops : Array Oper} {K : Kt} {tm tm' : List (Nat × SV)} {ob ob' : List (Nat × Ob)} (g : Ghost tm ob tm' ob') (k : Drw P nt i ops K tm' ob') : Drw P nt i ops K tm ob := ⟨fun c tmv h ρ G gd Q _ hK hnd => ⟨fun a w ha hw => by
 obtain ⟨h1,ρ1,G1,k1,hw1⟩ := g.out c tmv h ρ G w gd hw
 exact (k.out c tmv h1 ρ1 G1 k1 Q hK hnd).out a w ha hw1⟩⟩
structure Lp (body : Kt → Kt) (tm : List (Nat × SV)) (ob : List (Nat × Ob)) : Prop where
 out : ∃ (ι : Type) (Φ : ι → Prop) (m : ι → Nat) (S : ι → St) (x0 : ι),Φ x0 ∧ (∃ src,LeSt src ⟨tm,ob⟩ (S x0)) ∧ ∀ x,Φ x → body (fun tm ob => ∃ y,Φ y ∧ m y < m x ∧ ∃ src,LeSt src ⟨tm,ob⟩ (S y)) (S x).tm (S x).ob
inductive NlV : V → V → Prop
 | refl {x : V} : NlV x x
 | nl {sz : Nat} {rs : List (List V)} : rs = [] → NlV .nl (.sl sz rs)
inductive NlD : D → D → Prop
 | refl {x : D} : NlD x x
 | u {x y : V} : NlV x y → NlD (.u x) (.u y)
inductive NlL : List D → List D → Prop
 | nil : NlL [] []
 | cons {x y : D} {r s : List D} : NlD x y → NlL r s → NlL (x :: r) (y :: s)
inductive NlC : SC → SC → Prop
 | d {x y : D} : NlD x y → NlC (.d x) (.d y)
 | a {xs ys : List D} : NlL xs ys → NlC (.a xs) (.a ys)
inductive NlCs : List SC → List SC → Prop
 | nil : NlCs [] []
 | cons {x y : SC} {r s : List SC} : NlC x y → NlCs r s → NlCs (x :: r) (y :: s)
inductive NlS : SV → SV → Prop
 | refl {s : SV} : NlS s s
 | d {x y : D} : NlD x y → NlS (.d x) (.d y)
 | a {xs ys : List D} : NlL xs ys → NlS (.a xs) (.a ys)
 | t {xs ys : List SC} : NlCs xs ys → NlS (.t xs) (.t ys)
inductive NlSs : List SV → List SV → Prop
 | nil : NlSs [] []
 | cons {x y : SV} {r s : List SV} : NlS x y → NlSs r s → NlSs (x :: r) (y :: s)
section
variable {ρ : Rho} {z : Fz}
theorem NlV.den {x y : V} {v : Value} (l : NlV x y) (h : DenV z x v) : DenV z y v := by
 cases l with
 | refl => exact h
 | nl e =>
  subst e
  cases h with | nl => exact .sl (b := 0) (o := 0) [] rfl (Nat.le_refl _) (Nat.zero_le _) (by simp) (fun h => absurd rfl h) (by simp) (fun j u h => by simp at h) rfl (fun j d u h => by simp at h)
theorem NlD.den {x y : D} {v : Value} (l : NlD x y) (h : Den ρ z x v) : Den ρ z y v := by
 cases l with
 | refl => exact h
 | u l => cases h with | u h => exact .u (l.den h)
theorem NlL.den {xs ys : List D} (l : NlL xs ys) : ∀ {us : List Value},DenL ρ z xs us → DenL ρ z ys us := by
 induction l with
 | nil => intro us h;exact h
 | cons l0 _ ih =>
  intro us h
  have hl := h.len
  cases us with
  | nil => simp at hl
  | cons u us => exact (ih ⟨by simpa using hl,by have := h.one;simp at this;simpa using this.2,fun j d v e1 e2 => h.den (j + 1) d v (by simpa using e1) (by simpa using e2)⟩).cons (l0.den (h.den 0 _ u rfl rfl))
theorem NlC.den {x y : SC} {v : Value} (l : NlC x y) (h : DenC ρ z x v) : DenC ρ z y v := by
 cases l with
 | d l => cases h with | d h => exact .d (l.den h)
 | a l => cases h with | a h => exact .a (l.den h)
theorem NlCs.get {xs ys : List SC} (l : NlCs xs ys) : xs.length = ys.length ∧ ∀ (j : Nat) y,ys[j]? = some y → ∃ x,xs[j]? = some x ∧ NlC x y := by
 induction l with
 | nil => exact ⟨rfl,fun j y h => by simp at h⟩
 | cons l0 _ ih =>
  refine ⟨by simp [ih.1],fun j y h => ?_⟩
  cases j with
  | zero => simp at h;subst h;exact ⟨_,rfl,l0⟩
  | succ j => exact ih.2 j y (by simpa using h)
theorem NlS.den {x y : SV} {v : Value} (l : NlS x y) (h : DenS ρ z x v) : DenS ρ z y v := by
 cases l with
 | refl => exact h
 | d l => cases h with | d h => exact .d (l.den h)
 | a l => cases h with | a h => exact .a (l.den h)
 | t l =>
  cases h with | t hl hd =>
  refine .t (by rw [hl,l.get.1]) fun j s v h1 h2 => ?_
  obtain ⟨x,h3,h4⟩ := l.get.2 j s h1
  exact h4.den (hd j x v h3 h2)
end
structure Ret (Q : SV → List (Nat × Ob) → Prop) (s : SV) : Prop where
 out : ∃ s',NlS s s' ∧ Q s' []
section
variable (P : Program) (T : List (Nat × Ty)) (nt : Nt)
def vcC (Kr : Kt) : Code → Kt → (Nat → Kt) → Kt
 | .skip,Kn,_,tm,ob => Kn tm ob
 | .label _,Kn,_,tm,ob => Kn tm ob
 | .region i ops draw,Kn,_,tm,ob => bif ops.toList.all noDf then (match draw with
  | true => Drw P nt i ops Kn tm ob
  | false => Gs i (vcL P T nt ops Kn ops.toList) tm ob) else False
 | .seq a b,Kn,Ke,tm,ob => vcC Kr a (vcC Kr b Kn Ke) Ke tm ob
 | .cond c x y,Kn,Ke,tm,ob => match evT tm c with
  | some (.d (.u (.bool b))) => Brn b (vcC Kr x Kn Ke tm ob) (vcC Kr y Kn Ke tm ob)
  | _ => False
 | .block i c,Kn,Ke,tm,ob => vcC Kr c Kn (fun j tm ob => bif Nat.beq j i then Kn tm ob else Ke j tm ob) tm ob
 | .loop c,_,Ke,tm,ob => Lp (fun Kn => vcC Kr c Kn Ke) tm ob
 | .exit i,_,Ke,tm,ob => Ke i tm ob
 | .ret,_,_,tm,ob => Gs 1000 Kr tm ob
 | _,_,_,_,_ => False
def resT (tm : List (Nat × SV)) (ob : List (Nat × Ob)) : ResultVar → Option SV
 | .tmp t => lk t tm
 | .cell c t => yT T tm ob (.load t (.tmp c))
def resLT (tm : List (Nat × SV)) (ob : List (Nat × Ob)) : List ResultVar → Option (List SV)
 | [] => some []
 | r :: l => match resT T tm ob r with
  | none => none
  | some s => match resLT tm ob l with
   | none => none
   | some vs => some (s :: vs)
def frzL (ob : List (Nat × Ob)) : List SV → Option (List SC)
 | [] => some []
 | s :: r => match borS ob s with
  | some (.d x) => match frzL ob r with
   | some l => some (.d x :: l)
   | none => none
  | some (.a xs) => match frzL ob r with
   | some l => some (.a xs :: l)
   | none => none
  | _ => none
def needR (ob : List (Nat × Ob)) (X : Prop) : List SV → Prop
 | [] => X
 | s :: r => needS ob (needR ob X r) s
def tupT : List SC → SV
 | [x] => x.up
 | l => .t l
def RetK (rs : List ResultVar) (Q : SV → List (Nat × Ob) → Prop) : Kt := fun tm ob => match resLT T tm ob rs with
 | none => False
 | some ss => match frzL ob ss with
  | none => False
  | some l => needR ob (Ret Q (tupT l)) ss
end
end Go.Proofs.YtjpaaaecbgmcgaaGreatDoor
/-
 The layer of trees: code is sound;a contract by its code.
-/
namespace Go.Proofs.YtjpaaaecbgmcgaaGreatDoor
open Go.RowKit
section
variable {P : Program} {T : List (Nat × Ty)} [hT : Tys P T] {nt : Nt} {c : Cx} {st : St} {tm : List (Nat × Value)} {h : Hs} {ρ : Rho} {G : FG}
theorem subT_refl (tm : List (Nat × Value)) : ∃ tm',SubT tm tm' ∧ ∀ k v,lk k tm = some v → lk k tm' = some v := by
 suffices ∀ l : List (Nat × Value),∃ l',SubT tm l' ∧ ∀ k v,lk k l = some v → lk k tm = some v → lk k l' = some v by
  obtain ⟨l',h1,h2⟩ := this tm
  exact ⟨l',h1,fun k v h => h2 k v h h⟩
 intro l
 induction l with
 | nil => exact ⟨[],.nil,fun k v h => by simp [lk] at h⟩
 | cons p r ih =>
  obtain ⟨l',h1,h2⟩ := ih
  obtain ⟨j,u⟩ := p
  cases hj : lk j tm with
  | none =>
   refine ⟨l',h1,fun k v hk hk' => ?_⟩
   simp only [lk] at hk
   cases hb : Nat.beq k j
   ·rw [hb] at hk;exact h2 k v hk hk'
   ·rw [Nat.eq_of_beq_eq_true hb,hj] at hk';cases hk'
  | some v0 =>
   refine ⟨(j,v0) :: l',.cons hj h1,fun k v hk hk' => ?_⟩
   simp only [lk] at hk ⊢
   cases hb : Nat.beq k j
   ·rw [hb] at hk;exact h2 k v hk hk'
   ·rw [Nat.eq_of_beq_eq_true hb,hj] at hk'
    simpa using hk'
theorem vcC_sound {Kr : Kt} : ∀ (cd : Code) (Kn : Kt) (Ke : Nat → Kt) (st : St) (tm : List (Nat × Value)) (h : Hs) (ρ : Rho) (G : FG) (Q : Exit → Act → World → Prop) [PanicOk Q],
  (∀ st tm h ρ G,Gd c st tm h ρ G → Kn st.tm st.ob → AWq nt Q .normal tm h) → (∀ i st tm h ρ G,Gd c st tm h ρ G → Ke i st.tm st.ob → AWq nt Q (.exit i) tm h) → (∀ st tm h ρ G,Gd c st tm h ρ G → Kr st.tm st.ob → AWq nt Q .ret tm h) →
  Gd c st tm h ρ G → vcC P T nt Kr cd Kn Ke st.tm st.ob → AWc P nt Q cd tm h
 | .skip,Kn,Ke,st,tm,h,ρ,G,Q,_,hn,he,hr,g,k => .skip (hn _ _ _ _ _ g k)
 | .label _,Kn,Ke,st,tm,h,ρ,G,Q,_,hn,he,hr,g,k => .label (hn _ _ _ _ _ g k)
 | .region i ops draw,Kn,Ke,st,tm,h,ρ,G,Q,_,hn,he,hr,g,k => by
  simp only [vcC] at k
  cases hnd : ops.toList.all noDf <;> rw [hnd] at k
  ·exact k.elim
  simp only [cond_true] at k
  cases draw with
  | true => exact k.out c tm h ρ G g Q hn hnd
  | false =>
   obtain ⟨tm',ob',gh,k⟩ := k.out
   refine ⟨fun a w ha hw => ?_⟩
   obtain ⟨h',ρ',G',g',hw'⟩ := gh.out c tm h ρ G w g hw
   have := AWc.region (P := P) (nt := nt) (Q := Q) (i := i) (l := ops.toList) (tm := tm) (h := h') hnd (by simpa using vcL_sound hn ops.toList ⟨tm',ob'⟩ tm h' ρ' G' g' k)
   exact (show AWc P nt Q (.region i ops false) tm h' by simpa using this).out a w ha hw'
 | .seq a b,Kn,Ke,st,tm,h,ρ,G,Q,_,hn,he,hr,g,k => by
  refine AWc.seq (vcC_sound a _ Ke st tm h ρ G _ (fun st tm h ρ G g k => ?_) (fun i st tm h ρ G g k => AWq.pass_exit (he i st tm h ρ G g k)) (fun st tm h ρ G g k => AWq.pass_ret (hr st tm h ρ G g k)) g k)
  exact AWq.then_ (vcC_sound b Kn Ke st tm h ρ G Q hn he hr g k)
 | .cond cn x y,Kn,Ke,st,tm,h,ρ,G,Q,_,hn,he,hr,g,k => by
  simp only [vcC] at k
  split at k
  ·rename_i b hc
   exact AWc.cond (evT_bool g hc) (fun e => vcC_sound x Kn Ke st tm h ρ G Q hn he hr g (k.t e)) (fun e => vcC_sound y Kn Ke st tm h ρ G Q hn he hr g (k.f e))
  ·exact k.elim
 | .block i cd,Kn,Ke,st,tm,h,ρ,G,Q,_,hn,he,hr,g,k => by
  refine AWc.block (vcC_sound cd Kn _ st tm h ρ G _ (fun st tm h ρ G g k => AWq.blk (hn st tm h ρ G g k)) (fun j st2 tm2 h2 ρ2 G2 g2 k2 => ?_) (fun st tm h ρ G g k => AWq.blk_ret (hr st tm h ρ G g k)) g k)
  cases hb : Nat.beq j i
  ·simp only [hb,cond_false] at k2
   exact AWq.blk_miss hb (he j st2 tm2 h2 ρ2 G2 g2 k2)
  ·simp only [hb,cond_true] at k2
   have := Nat.eq_of_beq_eq_true hb
   subst this
   exact AWq.blk_hit (hn st2 tm2 h2 ρ2 G2 g2 k2)
 | .loop cd,Kn,Ke,st,tm,h,ρ,G,Q,_,hn,he,hr,g,k => by
  obtain ⟨ι,Φ,m,S,x0,h0,⟨src,hs⟩,hk⟩ := k.out
  obtain ⟨h',hh,g'⟩ := g.le hs
  obtain ⟨tm',s1,s2⟩ := subT_refl tm
  have gw : ∀ {S : St} {tm h ρ} {tm' : List (Nat × Value)},(∀ k v,lk k tm = some v → lk k tm' = some v) → Gd c S tm h ρ G → Gd c S tm' h ρ G := fun hl g => ⟨g.fF,g.fw,g.gF,g.gx,g.fm,fun k s hk => by
   obtain ⟨v,h1,h2⟩ := g.tm k s hk
   exact ⟨v,hl k v h1,h2⟩,g.ob⟩
  refine AWc.loopS (Q := Q) (ι := ι × List (Nat × Value) × Hs × Rho × FG) (fun x => Φ x.1 ∧ Gd c (S x.1) x.2.1 x.2.2.1 x.2.2.2.1 x.2.2.2.2) (fun x => m x.1) (fun x => x.2.1) (fun x => x.2.2.1) (x0,tm',h',srcR src ρ,G) ⟨h0,gw s2 g'⟩ s1 hh fun x hx => ?_
  obtain ⟨x,tmx,hx',ρx,Gx⟩ := x
  refine vcC_sound cd _ Ke (S x) tmx hx' ρx Gx _ (fun st tm h ρ G g k => ?_) (fun i st tm h ρ G g k => AWq.pass_exit (he i st tm h ρ G g k)) (fun st tm h ρ G g k => AWq.pass_ret (hr st tm h ρ G g k)) hx.2 (hk x hx.1)
  obtain ⟨y,hy,hm,src',hs'⟩ := k
  obtain ⟨h2,hh2,g2⟩ := g.le hs'
  obtain ⟨tm2,t1,t2⟩ := subT_refl tm
  refine AWq.round (y,tm2,h2,srcR src' ρ,G) ⟨hy,⟨g2.fF,g2.fw,g2.gF,g2.gx,g2.fm,fun k s hk => ?_,g2.ob⟩⟩ hm t1 hh2
  obtain ⟨v,q1,q2⟩ := g2.tm k s hk
  exact ⟨v,t2 k v q1,q2⟩
 | .exit i,Kn,Ke,st,tm,h,ρ,G,Q,_,hn,he,hr,g,k => .exit (he i _ _ _ _ _ g k)
 | .ret,Kn,Ke,st,tm,h,ρ,G,Q,_,hn,he,hr,g,k => by
  obtain ⟨tm',ob',gh,k⟩ := k.out
  refine AWc.ret ⟨fun a w ha hw => ?_⟩
  obtain ⟨h',ρ',G',g',hw'⟩ := gh.out c tm h ρ G w g hw
  exact (hr ⟨tm',ob'⟩ tm h' ρ' G' g' k).out a w ha hw'
 | .rangeFunc ..,Kn,Ke,st,tm,h,ρ,G,Q,_,hn,he,hr,g,k => False.elim k
 | .scope _,Kn,Ke,st,tm,h,ρ,G,Q,_,hn,he,hr,g,k => False.elim k
 | .goto _,Kn,Ke,st,tm,h,ρ,G,Q,_,hn,he,hr,g,k => False.elim k
 | .refuse _,Kn,Ke,st,tm,h,ρ,G,Q,_,hn,he,hr,g,k => False.elim k
theorem resT_ok (g : Gd c st tm h ρ G) {r : ResultVar} {s : SV} (hr : resT T st.tm st.ob r = some s) : ∃ v,Res P nt tm h r v ∧ DenS ρ ⟨G,h.w0⟩ s v := by
 cases r with
 | tmp t =>
  obtain ⟨v,h1,h2⟩ := g.tm t s hr
  exact ⟨v,.tmp h1,h2⟩
 | cell cc t =>
  simp only [resT,yT,evT] at hr
  cases hx : lk cc st.tm with
  | none => simp [hx] at hr
  | some q =>
   simp only [hx] at hr
   cases hc : cellsT st.ob q with
   | none => simp [hc] at hr
   | some p =>
    obtain ⟨cs,o⟩ := p
    simp only [hc] at hr
    obtain ⟨v,hv,hq⟩ := g.tm cc q hx
    obtain ⟨b,o',us,rfl,hd,hcell⟩ := g.cells hq hc
    cases ht : lk t T with
    | none => simp [ht] at hr
    | some i =>
     simp only [ht] at hr
     cases hk : i.k.agg
     ·simp only [hk] at hr
      cases hn : nth cs o with
      | none => simp [hn] at hr
      | some e =>
       simp only [hn,Option.some.injEq] at hr
       subst hr
       rw [nth_eq] at hn
       obtain ⟨u,hu,hdu⟩ := hd.get hn
       exact ⟨u,Res.cell1 hv ht hk ⟨fun w hw => hcell w hw o u hu⟩,.d hdu⟩
     ·simp only [hk] at hr
      cases hl : cutT cs o i.size with
      | none => simp [hl] at hr
      | some l =>
       simp only [hl,Option.some.injEq] at hr
       subst hr
       obtain ⟨h1,h2⟩ := cutT_get hl
       obtain ⟨vs,q1,q2⟩ := hd.part (o := o) h2
       refine ⟨_,Res.cell (vs := vs) hv ht hk ⟨fun w hw j u hu => ?_⟩ (by rw [q1.len,h1]),.a q1⟩
       rw [Nat.add_assoc]
       exact hcell w hw (o + j) u (q2 j u hu)
theorem resLT_ok (g : Gd c st tm h ρ G) : ∀ {rs : List ResultVar} {ss : List SV},resLT T st.tm st.ob rs = some ss → ∃ vs,vs.length = ss.length ∧ (∀ (j : Nat) s v,ss[j]? = some s → vs[j]? = some v → DenS ρ ⟨G,h.w0⟩ s v) ∧ ∀ (a : Act) w,Slt nt tm a → Hp h w → (rs.mapM (resRun a.tmps)).run P w = .ok vs w
 | [],ss,hr => by simp [resLT] at hr;subst hr;exact ⟨[],rfl,by simp,fun a w _ _ => by simp⟩
 | r :: l,ss,hr => by
  simp only [resLT] at hr
  cases h1 : resT T st.tm st.ob r with
  | none => simp [h1] at hr
  | some s =>
   cases h2 : resLT T st.tm st.ob l with
   | none => simp [h1,h2] at hr
   | some ss' =>
    simp only [h1,h2,Option.some.injEq] at hr
    subst hr
    obtain ⟨v,q1,q2⟩ := resT_ok g h1 (P := P) (nt := nt)
    obtain ⟨vs,r1,r2,r3⟩ := resLT_ok g h2
    refine ⟨v :: vs,by simp [r1],fun j s0 v0 e1 e2 => ?_,fun a w ha hw => ?_⟩
    ·cases j with
     | zero => simp at e1 e2;subst e1 e2;exact q2
     | succ j => exact r2 j s0 v0 (by simpa using e1) (by simpa using e2)
    ·rw [List.mapM_cons]
     simp only [Sem.run_bind,q1.out a w ha hw,Result.andThen_ok,r3 a w ha hw,Sem.run_pure]
omit hT in
theorem frzL_den (g : Gd c st tm h ρ G) {w : World} (hw : Hp h w) {X : Prop} : ∀ {ss : List SV} {l : List SC} {vs : List Value},frzL st.ob ss = some l → vs.length = ss.length → (∀ (j : Nat) s v,ss[j]? = some s → vs[j]? = some v → DenS ρ ⟨G,h.w0⟩ s v) → needR st.ob X ss →
  X ∧ vs.length = l.length ∧ ∀ (j : Nat) s v,l[j]? = some s → vs[j]? = some v → DenC ρ ⟨G.or (Bl h.hp),w⟩ s v
 | [],l,vs,hf,hl,hd,hn => by
  simp [frzL] at hf
  subst hf
  exact ⟨hn,by simpa using hl,by simp⟩
 | s :: r,l,vs,hf,hl,hd,hn => by
  cases vs with
  | nil => simp at hl
  | cons v vs =>
   simp only [needR] at hn
   have hd' : ∀ (j : Nat) s v,r[j]? = some s → vs[j]? = some v → DenS ρ ⟨G,h.w0⟩ s v := fun j s0 v0 e1 e2 => hd (j + 1) s0 v0 (by simpa using e1) (by simpa using e2)
   simp only [frzL] at hf
   split at hf
   ·rename_i x hb
    split at hf
    ·rename_i l' hl'
     injection hf with hf;subst hf
     obtain ⟨q1,q2,_⟩ := borS_den (ρ' := ρ) g hw hb hn (hd 0 s v rfl rfl)
     obtain ⟨r1,r2,r3⟩ := frzL_den g hw hl' (by simpa using hl) hd' q2
     refine ⟨r1,by simp [r2],fun j s0 v0 e1 e2 => ?_⟩
     cases j with
     | zero => simp at e1 e2;subst e1 e2;cases q1 with | d q1 => exact .d q1
     | succ j => exact r3 j s0 v0 (by simpa using e1) (by simpa using e2)
    ·cases hf
   ·rename_i x hb
    split at hf
    ·rename_i l' hl'
     injection hf with hf;subst hf
     obtain ⟨q1,q2,_⟩ := borS_den (ρ' := ρ) g hw hb hn (hd 0 s v rfl rfl)
     obtain ⟨r1,r2,r3⟩ := frzL_den g hw hl' (by simpa using hl) hd' q2
     refine ⟨r1,by simp [r2],fun j s0 v0 e1 e2 => ?_⟩
     cases j with
     | zero => simp at e1 e2;subst e1 e2;cases q1 with | a q1 => exact .a q1
     | succ j => exact r3 j s0 v0 (by simpa using e1) (by simpa using e2)
    ·cases hf
   ·cases hf
def tupV : List Value → Value
 | [v] => v
 | vs => .tuple vs.toArray
def Ans (c : Cx) (Q : SV → List (Nat × Ob) → Prop) (e : Ending) (w' : World) : Prop := ∃ v h' s ob' ρ' G',e = .returned v ∧ Hp h' w' ∧ Gd c ⟨[(0,s)],ob'⟩ [(0,v)] h' ρ' G' ∧ Q s ob'
theorem RetK_ok {Q : SV → List (Nat × Ob) → Prop} (g : Gd c st tm h ρ G) {fn : Func} (k : RetK T fn.results.toList Q st.tm st.ob) : ∀ (a : Act) w,Slt nt tm a → Hp h w → a.defers = nt.d ∧ ∃ v,(results fn a.tmps).run P w = .ok v w ∧ Ans c Q (.returned v) w := by
 intro a w ha hw
 refine ⟨ha.df,?_⟩
 simp only [RetK] at k
 cases hr : resLT T st.tm st.ob fn.results.toList with
 | none => simp only [hr] at k
 | some ss =>
  simp only [hr] at k
  cases hf : frzL st.ob ss with
  | none => simp only [hf] at k
  | some l =>
   simp only [hf] at k
   obtain ⟨vs,r1,r2,r3⟩ := resLT_ok g hr (P := P) (nt := nt)
   obtain ⟨hX,f1,f2⟩ := frzL_den g hw hf r1 r2 k
   have hm := r3 a w ha hw
   have h2 : (fn.results.mapM (resRun a.tmps)).run P w = .ok vs.toArray w := by
    rw [Array.mapM_eq_mapM_toList]
    simp only [map_eq_pure_bind,Sem.run_bind,hm,Result.andThen_ok,Sem.run_pure]
   have h3 : (results fn a.tmps).run P w = .ok (tupV vs) w := by
    rw [results_eq]
    simp only [Sem.run_bind,h2,Result.andThen_ok,Sem.run_pure]
    rcases vs with _ | ⟨v,_ | ⟨u,l⟩⟩ <;> simp [tupV]
   have hden : DenS ρ ⟨G.or (Bl h.hp),w⟩ (tupT l) (tupV vs) := by
    rcases vs with _ | ⟨v,_ | ⟨u,vs⟩⟩
    ·have : l = [] := List.eq_nil_of_length_eq_zero (by simpa using f1.symm)
     subst this
     exact .t rfl f2
    ·match l,f1 with
     | [x],_ => exact (f2 0 x v rfl rfl).up
    ·match l,f1 with
     | x :: y :: l',f1 => exact .t f1 f2
   obtain ⟨s',hnl,hq⟩ := hX.out
   refine ⟨_,h3,_,⟨fun b => h.F b ∨ Bl h.hp b,w,[]⟩,s',[],ρ,G.or (Bl h.hp),rfl,⟨Same.refl _ _,fun b hb => ?_,fun _ _ h => (by cases h),by simp,fun _ _ h => (by cases h)⟩,⟨fun b hb => .inl (g.fF b hb),g.fw.trans (hw.same.mono g.fF),fun b hb => hb.imp (g.gF b) id,fun b hb => ?_,g.fm.or,fun k s hk => ?_,rfl⟩,hq⟩
   ·rcases hb with hb | ⟨x,hx⟩
    ·exact hw.Flt hb
    ·exact (hw.blk b x hx).lt
   ·rcases hb with hb | ⟨x,hx⟩
    ·exact g.gx b hb
    ·exact .inr fun h0 => hw.out b x hx (g.fF b h0)
   ·simp only [lk] at hk ⊢
    cases hb : Nat.beq k 0
    ·rw [hb] at hk;cases hk
    ·rw [hb] at hk
     simp only [cond_true,Option.some.injEq] at hk
     subst hk
     exact ⟨_,rfl,hnl.den hden⟩
instance {c : Cx} {Q : SV → List (Nat × Ob) → Prop} : NoOut (Ans c Q) := ⟨fun w ⟨v,_,_,_,_,_,h,_⟩ => by cases h⟩
theorem callsA_of_vc {n : Nat} {f : FuncId} {fn : Func} {cd : Code} {ss : List SV} {ob : List (Nat × Ob)} {Q : SV → List (Nat × Ob) → Prop} {rs : List ResultVar} (hf : P.funcs[f]? = some fn) (hb : fn.body = some cd) (hnm : (fn.name == "runtime.NumGoroutine") = false) (hn : fn.ntmps = n) (hrs : fn.results.toList = rs) (hv : Nat.ble ss.length n = true)
  (k : vcC P T ⟨n,[]⟩ (RetK T rs Q) cd (RetK T rs Q) (fun _ _ _ => False) (slT 0 ss) ob) : CallsA P f ss ob Q := by
 subst hrs
 refine ⟨⟨fn,cd,hf,hb,hnm⟩,fun c ρ hp vs w hw hl g => ?_⟩
 refine calls_of_AW (nt := ⟨n,[]⟩) hf hb hn rfl (by rw [hl];exact hv) hw ?_
 refine vcC_sound (c := c) cd _ _ _ _ _ ρ c.G (bodyPost P fn (Ans c Q)) (fun st tm h ρ G g k => ⟨RetK_ok g k⟩) (fun _ _ _ _ _ _ _ k => k.elim) (fun st tm h ρ G g k => ⟨RetK_ok g k⟩) g k
theorem CallsA.mono {f : FuncId} {ss : List SV} {ob : List (Nat × Ob)} {Q Q' : SV → List (Nat × Ob) → Prop} (k : CallsA P f ss ob Q) (hq : ∀ s ob,Q s ob → Q' s ob) : CallsA P f ss ob Q' :=
 ⟨k.fn,fun c ρ hp vs w hw hl g => (k.out c ρ hp vs w hw hl g).mono fun _ _ ⟨v,h',s,ob',ρ',G',h1,h2,h3,h4⟩ => ⟨v,h',s,ob',ρ',G',h1,h2,h3,hq s ob' h4⟩⟩
end
end Go.Proofs.YtjpaaaecbgmcgaaGreatDoor
/-
 The layer of trees: rules for a walk.
-/
namespace Go.Proofs.YtjpaaaecbgmcgaaGreatDoor
open Go.RowKit
theorem Brn.T {b : Bool} {X Y : Prop} (h : b = true) (k : X) : Brn b X Y := ⟨fun _ => k,fun e => (by rw [e] at h;cases h)⟩
theorem Brn.F {b : Bool} {X Y : Prop} (h : b = false) (k : Y) : Brn b X Y := ⟨fun e => (by rw [e] at h;cases h),fun _ => k⟩
theorem Ix.map {α : Type} {xs : List α} {f : α → List V} {i : Int} {m : Nat} {K : List V → Prop} (hi : i = (m : Int)) (h : m < xs.length) (k : K (f (xs[m]'h))) : Ix (xs.map f) i K := ⟨m,_,hi,by rw [List.getElem?_map,List.getElem?_eq_getElem h];rfl,k⟩
def putR {α : Type} (rs new : List α) (n : Nat) : List α := rs.take n ++ new ++ rs.drop (n + new.length)
theorem smT : (∀ a b : Bool,((a && b) = true) = (a = true ∧ b = true)) ∧ (∀ a b : Bool,((a && b) = false) = (a = false ∨ b = false)) ∧ (∀ a b : Bool,((a || b) = true) = (a = true ∨ b = true)) ∧ (∀ a b : Bool,((a || b) = false) = (a = false ∧ b = false)) ∧
  (∀ (p : Prop) [Decidable p],(decide p = true) = p) ∧ (∀ (p : Prop) [Decidable p],(decide p = false) = ¬ p) ∧ (∀ a b : Int,(¬ a < b) = (b ≤ a)) ∧ (∀ a b : Int,(¬ a ≤ b) = (b < a)) ∧
  (∀ a b : Int,((a == b) = true) = (a = b)) ∧ (∀ a b : Int,((a == b) = false) = ¬ (a = b)) ∧ (∀ a b : Int,((a != b) = true) = ¬ (a = b)) ∧ (∀ a b : Int,((a != b) = false) = (a = b)) ∧ (∀ p : Prop,(¬ ¬ p) = p) ∧
  (∀ b : Bool,(¬ b = true) = (b = false)) ∧ (∀ b : Bool,(¬ b = false) = (b = true)) ∧ (∀ b : Bool,((!b) = true) = (b = false)) ∧ (∀ b : Bool,((!b) = false) = (b = true)) ∧ ((true = false) = False) ∧ ((false = true) = False) ∧
  (∀ {α β : Type} (f : α → β) (l : List α),(l.map f).length = l.length) ∧ (∀ {α : Type} (l m : List α),(l ++ m).length = l.length + m.length) ∧ (∀ {α : Type} (a : α) (l : List α),(a :: l).length = l.length + 1) ∧ (∀ {α : Type},([] : List α).length = 0) ∧
  (∀ {α : Type} (n : Nat) (l : List α),(l.take n).length = min n l.length) ∧ (∀ {α : Type} (n : Nat) (l : List α),(l.drop n).length = l.length - n) ∧ (maxLen = 9223372036854775807) ∧ (∀ {α : Type} (rs new : List α) (n : Nat),(putR rs new n).length = min n rs.length + new.length + (rs.length - (n + new.length))) ∧ (∀ {α : Type} (n : Nat) (a : α),(List.replicate n a).length = n) ∧ (∀ n : Nat,(List.range n).length = n) := by
 refine ⟨?_,?_,?_,?_,?_,?_,?_,?_,?_,?_,?_,?_,?_,?_,?_,?_,?_,?_,?_,?_,?_,?_,?_,?_,?_,?_,?_,?_,?_⟩ <;> first | (intros;simp;done) | (intro a b;cases a <;> cases b <;> simp;done) | (intros;simp;omega) | rfl | (intros;simp [putR];omega)
abbrev Is (s0 : SV) (s : SV) (ob : List (Nat × Ob)) : Prop := s = s0 ∧ ob = []
theorem Cl.is {P : Program} {f : FuncId} {ss : List SV} {own : Bool} {K : SV → Prop} {s0 : SV} (h : CallsA P f ss [] (Is s0)) (hp : pureS s0 = true) (hf : own = true → flatS s0 = true) (k : K s0) : Cl P f ss own K :=
 ⟨h.mono fun s ob ⟨e1,e2⟩ => by subst e1 e2;exact ⟨rfl,hp,hf,k⟩⟩
theorem Ret.is {s s0 : SV} (h : s = s0) : Ret (Is s0) s := ⟨s0,h ▸ .refl,rfl,rfl⟩
end Go.Proofs.YtjpaaaecbgmcgaaGreatDoor
/-
 The layer of trees: regions that draw their order.
-/
namespace Go.Proofs.YtjpaaaecbgmcgaaGreatDoor
open Go.RowKit
section
variable {P : Program} {ops : Array Oper} {Q : Exit → Act → World → Prop} {md : Region.Mode} {S S' : World → Prop} {late : List Nat}
def wpAnyF (P : Program) (md : Region.Mode) (ops : Array Oper) (Q : Exit → Act → World → Prop) (S : World → Prop) (late free : List Nat) : Nat → Array Bool → Act → World → Prop
 | 0,listed,a,w => Region.ready md ops listed = [] ∧ Q .normal a w
 | fuel + 1,listed,a,w =>
  (Region.ready md ops listed = [] → Q .normal a w) ∧
  ∀ i ∈ Region.ready md ops listed,wpOp P ops Q i (fun a' w' => ((free.contains i = true → w' = w) ∧ (late.contains i = false → free.contains i = false → S w')) ∧ wpAnyF P md ops Q S late free fuel (listed.setIfInBounds i true) a' w') a w
theorem wpAny_of_F {free : List Nat} : ∀ (fuel : Nat) (listed : Array Bool) (a : Act) (w : World),wpAnyF P md ops Q S late free fuel listed a w → wpAny P md ops Q fuel listed a w
 | 0,_,_,_,h => h
 | fuel + 1,_,_,_,h => ⟨h.1,fun i hi => wpOp_mono (fun a' w' h' => wpAny_of_F fuel _ a' w' h'.2) (h.2 i hi)⟩
theorem wpAnyF_first {free : List Nat} {i : Nat} {oi : Oper} {v : Value} (hi : ops[i]? = some oi) (hsel : ∀ (j : Nat) (o : Oper) cs b,ops[j]? = some o → o.op ≠ .select cs b)
  (hQ : ∀ c a w,Q (.panic c) (a.put oi.dst v) w → Q (.panic c) a w) {n : Nat} (hlate : ∀ j,late.contains j = true → waits md ops n j i = true) :
  ∀ (fuel : Nat) (listed : Array Bool) (a : Act) (w : World),DC md ops listed →
   (∀ j oj,ops[j]? = some oj → j ≠ i → listed.getD j true = false → (∀ e ∈ oj.after,Region.binds md e = true → e.on ≠ i) → oi.apart ops oj = true) →
   i ∈ Region.ready md ops listed → YieldsIf P ops S oi v a → S w →
   wpAnyF P md ops Q S late free fuel (listed.setIfInBounds i true) (a.put oi.dst v) w → wpAnyF P md ops Q S late free (fuel + 1) listed a w := by
 intro fuel
 induction fuel with
 | zero =>
  intro listed a w _ _ hr hy hS H
  refine ⟨fun h => (by rw [h] at hr;cases hr),fun j hj => ?_⟩
  by_cases hji : j = i
  ·subst hji;exact hy.wpOp hi hS ⟨⟨fun _ => rfl,fun _ _ => hS⟩,H⟩
  ·have := ready_mono hj hji
   rw [H.1] at this
   cases this
 | succ fuel ih =>
  intro listed a w hdc hfree hr hy hS H
  refine ⟨fun h => (by rw [h] at hr;cases hr),fun j hj => ?_⟩
  by_cases hji : j = i
  ·subst hji;exact hy.wpOp hi hS ⟨⟨fun _ => rfl,fun _ _ => hS⟩,H⟩
  ·have h1 := H.2 j (ready_mono hj hji)
   obtain ⟨hjun,oj,hoj,hall⟩ := mem_ready.1 hj
   have hiun : listed.getD i false ≠ true := fun h' => by
    have h0 := (mem_ready.1 hr).1
    rcases Nat.lt_or_ge i listed.size with h2 | h2
    ·simp [h2] at h0 h';rw [h0] at h';cases h'
    ·simp [Array.getElem?_eq_none h2] at h'
   have hnl : late.contains j = false := by
    cases hc : late.contains j
    ·rfl
    ·exact absurd (waits_listed hdc n j oj hoj hall (hlate j hc)) hiun
   have hnot : ∀ e ∈ oj.after,Region.binds md e = true → e.on ≠ i := fun e he hb heq => hiun (heq ▸ hall e he hb)
   have h2 := wpOp_putIf hoj (hfree j oj hoj hji hjun hnot) (fun cs b => hsel i oi cs b hi) (fun cs b => hsel j oj cs b hoj) hQ hy h1
   have hfree' : ∀ k ok,ops[k]? = some ok → k ≠ i → (listed.setIfInBounds j true).getD k true = false →
     (∀ e ∈ ok.after,Region.binds md e = true → e.on ≠ i) → oi.apart ops ok = true := fun k ok hk hki hun hno => by
    refine hfree k ok hk hki ?_ hno
    by_cases hjk : j = k
    ·subst hjk;exact hjun
    ·rw [getD_set_ne true hjk] at hun;exact hun
   have hSw : ∀ w',((free.contains j = true → w' = w) ∧ (late.contains j = false → free.contains j = false → S w')) → S w' := fun w' hg => by
    cases hfr : free.contains j
    ·exact hg.2 hnl hfr
    ·rw [hg.1 hfr];exact hS
   refine wpOp_mono (fun a' w' h3 => ⟨h3.2.1,ih (listed.setIfInBounds j true) a' w' (hdc.set hoj hall) hfree' (ready_mono hr (Ne.symm hji)) h3.1 (hSw w' h3.2.1) ?_⟩) h2
   rw [Array.setIfInBounds_comm _ _ hji]
   exact h3.2.2
theorem wpAnyF_free {free : List Nat} {i : Nat} {oi : Oper} {v : Value} (hi : ops[i]? = some oi) (hsel : ∀ (j : Nat) (o : Oper) cs b,ops[j]? = some o → o.op ≠ .select cs b)
  (hQ : ∀ c a w,Q (.panic c) (a.put oi.dst v) w → Q (.panic c) a w) (hfi : free.contains i = true) :
  ∀ (fuel : Nat) (listed : Array Bool) (a : Act) (w : World),DC md ops listed →
   (∀ j oj,ops[j]? = some oj → j ≠ i → listed.getD j true = false → (∀ e ∈ oj.after,Region.binds md e = true → e.on ≠ i) → oi.apart ops oj = true) →
   i ∈ Region.ready md ops listed → YieldsIf P ops (fun _ => True) oi v a →
   wpAnyF P md ops Q S late free fuel (listed.setIfInBounds i true) (a.put oi.dst v) w → wpAnyF P md ops Q S late free (fuel + 1) listed a w := by
 intro fuel
 induction fuel with
 | zero =>
  intro listed a w _ _ hr hy H
  refine ⟨fun h => (by rw [h] at hr;cases hr),fun j hj => ?_⟩
  by_cases hji : j = i
  ·subst hji;exact hy.wpOp hi trivial ⟨⟨fun _ => rfl,fun _ hf => by rw [hfi] at hf;cases hf⟩,H⟩
  ·have := ready_mono hj hji
   rw [H.1] at this
   cases this
 | succ fuel ih =>
  intro listed a w hdc hfree hr hy H
  refine ⟨fun h => (by rw [h] at hr;cases hr),fun j hj => ?_⟩
  by_cases hji : j = i
  ·subst hji;exact hy.wpOp hi trivial ⟨⟨fun _ => rfl,fun _ hf => by rw [hfi] at hf;cases hf⟩,H⟩
  ·have h1 := H.2 j (ready_mono hj hji)
   obtain ⟨hjun,oj,hoj,hall⟩ := mem_ready.1 hj
   have hiun : listed.getD i false ≠ true := fun h' => by
    have h0 := (mem_ready.1 hr).1
    rcases Nat.lt_or_ge i listed.size with h2 | h2
    ·simp [h2] at h0 h';rw [h0] at h';cases h'
    ·simp [Array.getElem?_eq_none h2] at h'
   have hnot : ∀ e ∈ oj.after,Region.binds md e = true → e.on ≠ i := fun e he hb heq => hiun (heq ▸ hall e he hb)
   have h2 := wpOp_putIf hoj (hfree j oj hoj hji hjun hnot) (fun cs b => hsel i oi cs b hi) (fun cs b => hsel j oj cs b hoj) hQ hy h1
   have hfree' : ∀ k ok,ops[k]? = some ok → k ≠ i → (listed.setIfInBounds j true).getD k true = false →
     (∀ e ∈ ok.after,Region.binds md e = true → e.on ≠ i) → oi.apart ops ok = true := fun k ok hk hki hun hno => by
    refine hfree k ok hk hki ?_ hno
    by_cases hjk : j = k
    ·subst hjk;exact hjun
    ·rw [getD_set_ne true hjk] at hun;exact hun
   refine wpOp_mono (fun a' w' h3 => ⟨h3.2.1,ih (listed.setIfInBounds j true) a' w' (hdc.set hoj hall) hfree' (ready_mono hr (Ne.symm hji)) h3.1 ?_⟩) h2
   rw [Array.setIfInBounds_comm _ _ hji]
   exact h3.2.2
theorem wpAnyF_mono {free : List Nat} (hS : ∀ w,S' w → S w) : ∀ (fuel : Nat) (listed : Array Bool) (a : Act) (w : World),wpAnyF P md ops Q S' late free fuel listed a w → wpAnyF P md ops Q S late free fuel listed a w
 | 0,_,_,_,h => h
 | fuel + 1,_,_,_,h => ⟨h.1,fun i hi => wpOp_mono (fun a' w' h' => ⟨⟨h'.1.1,fun hl hf => hS w' (h'.1.2 hl hf)⟩,wpAnyF_mono hS fuel _ a' w' h'.2⟩) (h.2 i hi)⟩
theorem wpAnyF_late {free : List Nat} : ∀ (fuel : Nat) (listed : Array Bool) (a : Act) (w : World),(∀ j,listed.getD j true = false → late.contains j = true ∧ free.contains j = false) → wpAny P md ops Q fuel listed a w → wpAnyF P md ops Q S late free fuel listed a w
 | 0,_,_,_,_,h => h
 | fuel + 1,listed,_,_,hl,h => ⟨h.1,fun i hi => wpOp_mono (fun a' w' h' => ⟨⟨fun hn => (by
   rw [(hl i (mem_ready.1 hi).1).2] at hn;cases hn),fun hn => (by
   rw [(hl i (mem_ready.1 hi).1).1] at hn;cases hn)⟩,wpAnyF_late fuel _ a' w' (fun j hj => hl j (by
   by_cases hij : i = j
   ·subst hij
    exact (mem_ready.1 hi).1
   ·rw [getD_set_ne true hij] at hj;exact hj)) h'⟩) (h.2 i hi)⟩
end
section
variable (P : Program) (T : List (Nat × Ty)) (nt : Nt)
def vcYP (o : Oper) (tm : List (Nat × SV)) (ob : List (Nat × Ob)) (K : Kt) : Prop := match vcY P T o.op tm ob (fun s => putT nt o.dst s tm ob K) with
 | some p => p
 | none => False
def vcR (late : List Nat) (ops : Array Oper) (K : Kt) : List (Nat × Bool) → Kt
 | [],tm,ob => K tm ob
 | (i,y) :: r,tm,ob => match nth ops.toList i with
  | none => False
  | some o => match o.guard with
   | none => match y with
    | true => vcYP P T nt o tm ob (vcR late ops K r)
    | false => vcOpK P T nt (!late.contains i) o tm ob (vcR late ops K r)
   | some (j,want) => match gdT ops j with
    | none => False
    | some t => match lk t tm with
     | some (.d (.u (.bool b))) => match y with
      | true => match want with
       | true => Brn b (vcYP P T nt o tm ob (vcR late ops K r)) (skipT nt o.dst tm ob (vcR late ops K r))
       | false => Brn b (skipT nt o.dst tm ob (vcR late ops K r)) (vcYP P T nt o tm ob (vcR late ops K r))
      | false => match want with
       | true => Brn b (vcOpK P T nt (!late.contains i) o tm ob (vcR late ops K r)) (skipT nt o.dst tm ob (vcR late ops K r))
       | false => Brn b (skipT nt o.dst tm ob (vcR late ops K r)) (vcOpK P T nt (!late.contains i) o tm ob (vcR late ops K r))
     | some (.t []) => skipT nt o.dst tm ob (vcR late ops K r)
     | _ => False
end
def allLate (late : List Nat) : List (Nat × Bool) → Bool
 | [] => true
 | (i,y) :: r => !y && late.contains i && allLate late r
def keepAt (ops : Array Oper) (i : Nat) : Bool := match ops[i]? with
 | some o => keepT o.op
 | none => false
def dstAt (ops : Array Oper) (i : Nat) : Bool := match ops[i]? with
 | some o => o.dst.isSome
 | none => false
def freeT : Op → Bool
 | .move _ | .assign _ | .extract _ _ => true
 | _ => false
def moveAt (ops : Array Oper) (i : Nat) : Bool := match ops[i]? with
 | some o => freeT o.op
 | none => false
theorem freeT_run {P : Program} {o : Oper} {f : Operand → Value} {v : Value} {w : World} (hf : freeT o.op = true) (h : (execOp f o).run P w = .ok (.value v) w) (w' : World) : (execOp f o).run P w' = .ok (.value v) w' := by
 obtain ⟨d,op,ty,pos,af,gu⟩ := o
 cases op <;> simp only [freeT] at hf <;> try cases hf
 ·simp only [execOp,Sem.run_pure] at h ⊢
  injection h with h _
  rw [h]
 ·simp only [execOp,Sem.run_pure] at h ⊢
  injection h with h _
  rw [h]
 ·rename_i t ix
  simp only [execOp,Instr.extract] at h ⊢
  generalize f t = x at h
  cases x with
  | tuple vs =>
   simp only at h ⊢
   cases hv : vs[ix]? with
   | none => rw [hv] at h;exact absurd h (by intro h;cases h)
   | some u =>
    rw [hv] at h
    have h' : Next.value u = .value v := by injection h
    rw [← h'];rfl
  | _ => exact absurd h (by intro h;cases h)
def ordOk (ops : Array Oper) (late free : List Nat) : Array Bool → List (Nat × Bool) → Bool
 | listed,[] => Region.ready .any ops listed == []
 | listed,(i,true) :: r => (bif free.contains i then regOk ops listed [] i && moveAt ops i else regOk ops listed late i) && (dstAt ops i && ordOk ops late free (listed.setIfInBounds i true) r)
 | listed,(i,false) :: r => (Region.ready .any ops listed == [i]) && ((bif late.contains i then allLate late r && (List.range ops.size).all (fun j => listed.getD j true || (late.contains j && !free.contains j)) else keepAt ops i && !free.contains i) && ordOk ops late free (listed.setIfInBounds i true) r)
section
variable {P : Program} {T : List (Nat × Ty)} [hT : Tys P T] {nt : Nt} {ops : Array Oper} {Q : Exit → Act → World → Prop} {late free : List Nat} {c : Cx} {K : Kt}
theorem vcR_guard {o : Oper} {i : Nat} {X : Kt} {Y : Prop} {st : St} {tm : List (Nat × Value)} {h : Hs} {ρ : Rho} {G : FG} (g : Gd c st tm h ρ G) (a : Act) (ha : Slt nt tm a)
  (k : (match o.guard with
   | none => Y
   | some (j,want) => match gdT ops j with
    | none => False
    | some t => match lk t st.tm with
     | some (.d (.u (.bool b))) => match want with
      | true => Brn b Y (skipT nt o.dst st.tm st.ob X)
      | false => Brn b (skipT nt o.dst st.tm st.ob X) Y
     | some (.t []) => skipT nt o.dst st.tm st.ob X
     | _ => False)) : (Region.wanted o (yielded ops a.tmps) = true ∧ Y) ∨ (Region.wanted o (yielded ops a.tmps) = false ∧ skipT nt o.dst st.tm st.ob X) := by
 cases hg : o.guard with
 | none => simp only [hg] at k;exact .inl ⟨by simp [Region.wanted,hg],k⟩
 | some p =>
  obtain ⟨j,want⟩ := p
  simp only [hg] at k
  cases hj : gdT ops j with
  | none => simp only [hj] at k
  | some t =>
   simp only [hj] at k
   split at k
   ·rename_i b hb
    have eb := evT_bool g (x := .tmp t) hb
    have hy := yielded_of ha (gdT_eq hj) eb
    have hw : Region.wanted o (yielded ops a.tmps) = (b == want) := by
     simp only [Region.wanted,hg,hy]
     cases b <;> cases want <;> rfl
    cases want <;> cases b
    ·exact .inl ⟨by rw [hw];rfl,k.f rfl⟩
    ·exact .inr ⟨by rw [hw];rfl,k.t rfl⟩
    ·exact .inr ⟨by rw [hw];rfl,k.f rfl⟩
    ·exact .inl ⟨by rw [hw];rfl,k.t rfl⟩
   ·rename_i hb
    exact .inr ⟨by simp [Region.wanted,hg,yielded_undef ha (gdT_eq hj) (evT_undef g (x := .tmp t) hb)],k⟩
   ·exact k.elim
omit hT in
theorem vcR_split {i : Nat} {y : Bool} {r : List (Nat × Bool)} {o : Oper} {tm : List (Nat × SV)} {ob : List (Nat × Ob)} (ho : ops[i]? = some o) (k : vcR P T nt late ops K ((i,y) :: r) tm ob) :
  (match o.guard with
   | none => (match y with | true => vcYP P T nt o tm ob (vcR P T nt late ops K r) | false => vcOpK P T nt (!late.contains i) o tm ob (vcR P T nt late ops K r))
   | some (j,want) => match gdT ops j with
    | none => False
    | some t => match lk t tm with
     | some (.d (.u (.bool b))) => match want with
      | true => Brn b (match y with | true => vcYP P T nt o tm ob (vcR P T nt late ops K r) | false => vcOpK P T nt (!late.contains i) o tm ob (vcR P T nt late ops K r)) (skipT nt o.dst tm ob (vcR P T nt late ops K r))
      | false => Brn b (skipT nt o.dst tm ob (vcR P T nt late ops K r)) (match y with | true => vcYP P T nt o tm ob (vcR P T nt late ops K r) | false => vcOpK P T nt (!late.contains i) o tm ob (vcR P T nt late ops K r))
     | some (.t []) => skipT nt o.dst tm ob (vcR P T nt late ops K r)
     | _ => False) := by
 have hn : nth ops.toList i = some o := by rw [nth_eq];simpa using ho
 simp only [vcR,hn] at k
 cases y <;> exact k
theorem vcR_tail (hK : ∀ st tm h ρ G,Gd c st tm h ρ G → K st.tm st.ob → AWq nt Q .normal tm h) : ∀ (r : List (Nat × Bool)) (listed : Array Bool) (fuel : Nat) (st : St) (tm : List (Nat × Value)) (h : Hs) (ρ : Rho) (G : FG),r.length ≤ fuel → allLate late r = true → ordOk ops late free listed r = true → Gd c st tm h ρ G → vcR P T nt late ops K r st.tm st.ob →
  ∀ (a : Act) (w : World),Slt nt tm a → Hp h w → wpAny P .any ops Q fuel listed a w
 | [],listed,fuel,st,tm,h,ρ,G,_,_,ho,g,k,a,w,ha,hw => by
  have hr : Region.ready .any ops listed = [] := by simpa [ordOk] using ho
  have hq := (hK st tm h ρ G g k).out a w ha hw
  cases fuel with
  | zero => exact ⟨hr,hq⟩
  | succ n => exact ⟨fun _ => hq,by rw [hr];simp⟩
 | (i,true) :: r,listed,fuel,st,tm,h,ρ,G,_,hl,ho,g,k,a,w,ha,hw => by simp [allLate] at hl
 | (i,false) :: r,listed,0,st,tm,h,ρ,G,hf,hl,ho,g,k,a,w,ha,hw => by simp at hf
 | (i,false) :: r,listed,fuel + 1,st,tm,h,ρ,G,hf,hl,ho,g,k,a,w,ha,hw => by
  simp only [ordOk,Bool.and_eq_true] at ho
  simp only [allLate,Bool.and_eq_true] at hl
  have hr : Region.ready .any ops listed = [i] := eq_of_beq ho.1
  refine ⟨fun h' => (by rw [hr] at h';cases h'),fun j hj => ?_⟩
  have hj' := hj
  rw [hr] at hj
  obtain rfl : j = i := by simpa using hj
  obtain ⟨_,o,hoj,_⟩ := mem_ready.1 hj'
  have ih : ∀ tm' h',Kd c (vcR P T nt late ops K r) tm' h' → ∀ (a : Act) (w : World),Slt nt tm' a → Hp h' w → wpAny P .any ops Q fuel (listed.setIfInBounds j true) a w :=
   fun tm' h' ⟨st',ρ',G',h2,hh,g',k'⟩ a w ha hw => vcR_tail hK r _ fuel st' tm' h2 ρ' G' (by simp at hf;omega) hl.2 ho.2.2 g' k' a w ha (hh w hw)
  unfold wpOp
  simp only [hoj]
  obtain ⟨d,op,ty,pos,af,gu⟩ := o
  rcases vcR_guard (X := vcR P T nt late ops K r) (i := j) g a ha (vcR_split hoj k) with ⟨hw1,k1⟩ | ⟨hw1,k1⟩
  ·rw [if_pos hw1]
   refine .inl (Oper.wp_mono ?_ ((vcOpK_sound (P := P) (T := T) (Q := Q) g k1).out a w ha hw))
   rintro a' w' ⟨tm',h',h1,h2,h3⟩
   exact ih tm' h' h3 a' w' h1 h2
  ·rw [if_neg (by rw [hw1];simp)]
   cases d with
   | none => exact ih tm h (.of g k1) a w ha hw
   | some d =>
    simp only [skipT] at k1
    cases hd : Nat.blt d nt
    ·rw [hd] at k1;exact k1.elim
    ·rw [hd] at k1
     exact ih _ h (.of (g.put (.t (vs := []) rfl (by simp))) k1) _ w (ha.put (by simpa using hd) undef) hw
theorem vcR_sound [q : PanicOk Q] (hK : ∀ st tm h ρ G,Gd c st tm h ρ G → K st.tm st.ob → AWq nt Q .normal tm h) : ∀ (r : List (Nat × Bool)) (listed : Array Bool) (fuel : Nat) (st : St) (tm : List (Nat × Value)) (h : Hs) (ρ : Rho) (G : FG),r.length ≤ fuel → ordOk ops late free listed r = true → DC .any ops listed → listed.size = ops.size → Gd c st tm h ρ G → vcR P T nt late ops K r st.tm st.ob →
  ∀ (a : Act) (w : World),Slt nt tm a → Hp h w → wpAnyF P .any ops Q (Hp h) late free fuel listed a w
 | [],listed,fuel,st,tm,h,ρ,G,_,ho,_,_,g,k,a,w,ha,hw => by
  have hr : Region.ready .any ops listed = [] := by simpa [ordOk] using ho
  have hq := (hK st tm h ρ G g k).out a w ha hw
  cases fuel with
  | zero => exact ⟨hr,hq⟩
  | succ n => exact ⟨fun _ => hq,by rw [hr];simp⟩
 | (i,y) :: r,listed,0,st,tm,h,ρ,G,hf,ho,_,_,g,k,a,w,ha,hw => by simp at hf
 | (i,true) :: r,listed,fuel + 1,st,tm,h,ρ,G,hf,ho,hdc,hsz,g,k,a,w,ha,hw => by
  simp only [ordOk,Bool.and_eq_true] at ho
  obtain ⟨hB,hds,ho⟩ := ho
  have hB' : Region.noSelect ops = true ∧ Region.free .any ops listed i = true ∧ (Region.ready .any ops listed).contains i = true ∧ ((free.contains i = true ∧ moveAt ops i = true) ∨ ∀ j,late.contains j = true → waits .any ops ops.size j i = true) := by
   cases hfr : free.contains i
   ·rw [hfr] at hB
    simp only [cond_false,regOk,Bool.and_eq_true] at hB
    obtain ⟨b1,b2,b3,b4⟩ := hB
    exact ⟨b1,b2,b3,.inr fun j hj => List.all_eq_true.1 b4 j (by simpa using hj)⟩
   ·rw [hfr] at hB
    simp only [cond_true,regOk,Bool.and_eq_true] at hB
    exact ⟨hB.1.1,hB.1.2.1,hB.1.2.2.1,.inl ⟨rfl,hB.2⟩⟩
  obtain ⟨b1,b2,b3,b4⟩ := hB'
  have hr' : i ∈ Region.ready .any ops listed := by simpa using b3
  obtain ⟨_,o,hoj,hdep⟩ := mem_ready.1 hr'
  have hdc' := hdc.set hoj hdep
  have hsz' : (listed.setIfInBounds i true).size = ops.size := by simp [hsz]
  have hdd : ∃ d,o.dst = some d := by
   simp only [dstAt,hoj] at hds
   exact Option.isSome_iff_exists.1 hds
  obtain ⟨d0,hd0⟩ := hdd
  have hf' : r.length ≤ fuel := by simp at hf;omega
  obtain ⟨d,op,ty,pos,af,gu⟩ := o
  simp only at hd0
  subst hd0
  rcases vcR_guard (X := vcR P T nt late ops K r) (i := i) g a ha (vcR_split hoj k) with ⟨hw1,k1⟩ | ⟨hw1,k1⟩
  ·simp only [vcYP] at k1
   cases hy : vcY P T op st.tm st.ob (fun s => putT nt (some d0) s st.tm st.ob (vcR P T nt late ops K r)) with
   | none => simp only [hy] at k1
   | some p =>
    simp only [hy] at k1
    obtain ⟨s,v,q1,q2,q3⟩ := vcY_sound g hy k1 (P := P) (nt := nt) (ty := ty) (pos := pos) (af := af) (gd := gu) (d := some d0)
    simp only [putT] at q3
    cases hd : Nat.blt d0 nt
    ·rw [hd] at q3;exact q3.elim
    ·rw [hd] at q3
     have hrest := vcR_sound hK r _ fuel _ _ h ρ G hf' ho hdc' hsz' (g.put (d := d0) q2) q3 _ w (ha.put (by simpa using hd) v) hw
     rcases b4 with ⟨hfr,hmv⟩ | hlate
     ·simp only [moveAt,hoj] at hmv
      exact wpAnyF_free hoj (Region.noSelect_spec b1) (fun c a w hq => q.ok c a _ _ w hq) hfr fuel listed a w hdc (Region.free_spec hoj b2) hr' (.inl ⟨hw1,fun w' _ => freeT_run hmv (q1.out a w ha hw) w'⟩) hrest
     ·exact wpAnyF_first hoj (Region.noSelect_spec b1) (fun c a w hq => q.ok c a _ _ w hq) (n := ops.size) hlate fuel listed a w hdc (Region.free_spec hoj b2) hr' (.inl ⟨hw1,fun w hw => q1.out a w ha hw⟩) hw hrest
  ·simp only [skipT] at k1
   cases hd : Nat.blt d0 nt
   ·rw [hd] at k1;exact k1.elim
   ·rw [hd] at k1
    have hrest := vcR_sound hK r _ fuel _ _ h ρ G hf' ho hdc' hsz' (g.put (d := d0) (.t (vs := []) rfl (by simp))) k1 _ w (ha.put (by simpa using hd) undef) hw
    rcases b4 with ⟨hfr,_⟩ | hlate
    ·exact wpAnyF_free hoj (Region.noSelect_spec b1) (fun c a w hq => q.ok c a _ _ w hq) hfr fuel listed a w hdc (Region.free_spec hoj b2) hr' (.inr ⟨hw1,rfl⟩) hrest
    ·exact wpAnyF_first hoj (Region.noSelect_spec b1) (fun c a w hq => q.ok c a _ _ w hq) (n := ops.size) hlate fuel listed a w hdc (Region.free_spec hoj b2) hr' (.inr ⟨hw1,rfl⟩) hw hrest
 | (i,false) :: r,listed,fuel + 1,st,tm,h,ρ,G,hf,ho,hdc,hsz,g,k,a,w,ha,hw => by
  have ho0 := ho
  simp only [ordOk,Bool.and_eq_true] at ho
  have hr : Region.ready .any ops listed = [i] := eq_of_beq ho.1
  have hf' : r.length ≤ fuel := by simp at hf;omega
  cases hc : late.contains i
  ·rw [hc] at ho
   simp only [cond_false] at ho
   refine ⟨fun h' => (by rw [hr] at h';cases h'),fun j hj => ?_⟩
   have hj' := hj
   rw [hr] at hj
   obtain rfl : j = i := by simpa using hj
   obtain ⟨_,o,hoj,hdep⟩ := mem_ready.1 hj'
   simp only [Bool.and_eq_true,Bool.not_eq_true'] at ho
   have hkp : keepT o.op = true := by have := ho.2.1.1;simpa only [keepAt,hoj] using this
   have hnf : free.contains j = false := ho.2.1.2
   have hg : ∀ w',Hp h w' → (free.contains j = true → w' = w) ∧ (late.contains j = false → free.contains j = false → Hp h w') := fun w' hw' => ⟨fun hf => absurd hf (by rw [hnf];simp),fun _ _ => hw'⟩
   have hdc' := hdc.set hoj hdep
   have hsz' : (listed.setIfInBounds j true).size = ops.size := by simp [hsz]
   unfold wpOp
   simp only [hoj]
   obtain ⟨d,op,ty,pos,af,gu⟩ := o
   rcases vcR_guard (X := vcR P T nt late ops K r) (i := j) g a ha (vcR_split hoj k) with ⟨hw1,k1⟩ | ⟨hw1,k1⟩
   ·rw [if_pos hw1]
    refine .inl (Oper.wp_mono ?_ ((vcOpK_keep (P := P) (T := T) (Q := Q) hkp g (by simp only [hc,Bool.not_false] at k1;exact k1)).out a w ha hw))
    rintro a' w' ⟨tm',h',h1,h2,st',ρ',G',h3,hh,hkeep,g',k'⟩
    exact ⟨hg w' (hkeep w' (hh w' h2)),wpAnyF_mono hkeep _ _ _ _ (vcR_sound hK r _ fuel st' tm' h3 ρ' G' hf' ho.2.2 hdc' hsz' g' k' a' w' h1 (hh w' h2))⟩
   ·rw [if_neg (by rw [hw1];simp)]
    cases d with
    | none => exact ⟨⟨fun hf => absurd hf (by rw [hnf];simp),fun _ _ => hw⟩,vcR_sound hK r _ fuel st tm h ρ G hf' ho.2.2 hdc' hsz' g k1 a w ha hw⟩
    | some d =>
     simp only [skipT] at k1
     cases hd : Nat.blt d nt
     ·rw [hd] at k1;exact k1.elim
     ·rw [hd] at k1
      exact ⟨⟨fun hf => absurd hf (by rw [hnf];simp),fun _ _ => hw⟩,vcR_sound hK r _ fuel _ _ h ρ G hf' ho.2.2 hdc' hsz' (g.put (d := d) (.t (vs := []) rfl (by simp))) k1 _ w (ha.put (by simpa using hd) undef) hw⟩
  ·rw [hc] at ho
   simp only [cond_true,Bool.and_eq_true] at ho
   refine wpAnyF_late _ _ _ _ (fun j hj => ?_) (vcR_tail hK _ listed (fuel + 1) st tm h ρ G hf (by simp only [allLate,Bool.and_eq_true];exact ⟨⟨rfl,hc⟩,ho.2.1.1⟩) ho0 g k a w ha hw)
   have hjs : j < ops.size := by
    rcases Nat.lt_or_ge j listed.size with h' | h'
    ·omega
    ·simp [Array.getElem?_eq_none h'] at hj
   have := List.all_eq_true.1 ho.2.1.2 j (List.mem_range.2 hjs)
   simp only [hj,Bool.false_or,Bool.and_eq_true,Bool.not_eq_true'] at this
   exact this
theorem Drw.of {i : Nat} {tmT : List (Nat × SV)} {ob : List (Nat × Ob)} (late free : List Nat) (r : List (Nat × Bool)) (ho : (Nat.ble r.length ops.size && ordOk ops late free (Array.replicate ops.size false) r) = true) (k : vcR P T nt late ops K r tmT ob) : Drw P nt i ops K tmT ob :=
 ⟨fun c tm h ρ G g Q q hK hnd => ⟨fun a w ha hw => Cw.region_any q.no hT.mo hnd (wpAny_of_F (S := Hp h) (late := late) (free := free) _ _ _ _ (by
  simp only [Bool.and_eq_true,Nat.ble_eq] at ho
  exact vcR_sound (P := P) (T := T) (free := free) hK r _ _ ⟨tmT,ob⟩ tm h ρ G ho.1 ho.2 DC.start (by simp) g k a { w with drawn := w.drawn + 1 } ha (hw.drawn _)))⟩⟩
end
inductive OT where
 | nil
 | alt (i : Nat) (s r : OT)
def OT.heads : OT → List Nat
 | .nil => []
 | .alt i _ r => i :: r.heads
def OT.depth : OT → Nat
 | .nil => 0
 | .alt _ s r => max (s.depth + 1) r.depth
def OT.chk (ops : Array Oper) : OT → Bool → Array Bool → Bool
 | .nil,top,listed => bif top then Region.ready .any ops listed == [] else true
 | .alt i s r,top,listed => (bif top then Region.ready .any ops listed == (OT.alt i s r).heads else true) && (s.chk ops true (listed.setIfInBounds i true) && r.chk ops false listed)
section
variable (P : Program) (T : List (Nat × Ty)) (nt : Nt)
def vcG (ops : Array Oper) (i : Nat) (X : Kt) : Kt := fun tm ob => match nth ops.toList i with
 | none => False
 | some o => match o.guard with
  | none => vcOpK P T nt false o tm ob X
  | some (j,want) => match gdT ops j with
   | none => False
   | some t => match lk t tm with
    | some (.d (.u (.bool b))) => match want with
     | true => Brn b (vcOpK P T nt false o tm ob X) (skipT nt o.dst tm ob X)
     | false => Brn b (skipT nt o.dst tm ob X) (vcOpK P T nt false o tm ob X)
    | some (.t []) => skipT nt o.dst tm ob X
    | _ => False
end
section
variable {P : Program} {T : List (Nat × Ty)} [hT : Tys P T] {nt : Nt} {ops : Array Oper} {Q : Exit → Act → World → Prop} {c : Cx} {K : Kt}
theorem vcG_sound {i : Nat} {X : Kt} {st : St} {tm : List (Nat × Value)} {h : Hs} {ρ : Rho} {G : FG} {R : Act → World → Prop} (g : Gd c st tm h ρ G) (k : vcG P T nt ops i X st.tm st.ob) (ih : ∀ tm' h',Kd c X tm' h' → ∀ (a : Act) (w : World),Slt nt tm' a → Hp h' w → R a w) (a : Act) (w : World) (ha : Slt nt tm a) (hw : Hp h w) : wpOp P ops Q i R a w := by
 unfold vcG at k
 cases ho : nth ops.toList i with
 | none => simp only [ho] at k
 | some o =>
  simp only [ho] at k
  have hoj : ops[i]? = some o := by rw [nth_eq] at ho;simpa using ho
  unfold wpOp
  simp only [hoj]
  obtain ⟨d,op,ty,pos,af,gu⟩ := o
  rcases vcR_guard (X := X) (i := i) g a ha k with ⟨hw1,k1⟩ | ⟨hw1,k1⟩
  ·rw [if_pos hw1]
   refine .inl (Oper.wp_mono ?_ ((vcOpK_sound (P := P) (T := T) (Q := Q) g k1).out a w ha hw))
   rintro a' w' ⟨tm',h',h1,h2,h3⟩
   exact ih tm' h' h3 a' w' h1 h2
  ·rw [if_neg (by rw [hw1];simp)]
   cases d with
   | none => exact ih tm h (.of g k1) a w ha hw
   | some d =>
    simp only [skipT] at k1
    cases hd : Nat.blt d nt
    ·rw [hd] at k1;exact k1.elim
    ·rw [hd] at k1
     exact ih _ h (.of (g.put (.t (vs := []) rfl (by simp))) k1) _ w (ha.put (by simpa using hd) undef) hw
end
end Go.Proofs.YtjpaaaecbgmcgaaGreatDoor
/-
 The layer of trees: calls that lend own objects and give own objects back.
-/
namespace Go.Proofs.YtjpaaaecbgmcgaaGreatDoor
open Go.RowKit
def D.okP (p : Nat → Bool) : D → Bool
 | .u _ => true
 | .ow j _ => p j
 | .p j _ => p j
 | .e j _ _ => p j
 | .q _ _ => true
 | .fn _ ks => okN p ks
 | .mp j => p j
 | D.r j .. => p j
 | D.re j .. => p j
 | .ows j _ _ => p j
 | .any => true
where
 okN (p : Nat → Bool) : List Nat → Bool
  | [] => true
  | j :: js => bif p j then okN p js else false
def okL (p : Nat → Bool) : List D → Bool
 | [] => true
 | x :: r => bif x.okP p then okL p r else false
def okC (p : Nat → Bool) : List SC → Bool
 | [] => true
 | .d x :: r => bif x.okP p then okC p r else false
 | .a cs :: r => bif okL p cs then okC p r else false
def SV.okP (p : Nat → Bool) : SV → Bool
 | .d x => x.okP p
 | .a cs => okL p cs
 | .t vs => okC p vs
def okTm (p : Nat → Bool) : List (Nat × SV) → Bool
 | [] => true
 | (_,s) :: r => bif s.okP p then okTm p r else false
def okO (p : Nat → Bool) : List (Nat × Ob) → Bool
 | [] => true
 | (j,.bx _ cs) :: r => bif p j then (bif okL p cs then okO p r else false) else false
 | (j,.ar _ _ _) :: r => bif p j then okO p r else false
 | (j,.fm _ _) :: r => bif p j then okO p r else false
 | (j,.mp _ _ _) :: r => bif p j then okO p r else false
 | (j,.fa _ _ _) :: r => bif p j then okO p r else false
 | (j,.ab cs _ _ _) :: r => bif p j then (bif okL p cs then okO p r else false) else false
def inN : List Nat → Nat → Bool
 | [],_ => false
 | k :: r,j => bif Nat.beq j k then true else inN r j
section
variable {ρ ρ' : Rho} {z : Fz} {p : Nat → Bool}
theorem bif_and {a b : Bool} (h : (bif a then b else false) = true) : a = true ∧ b = true := by cases a <;> simp_all
theorem D.okN_get {ks : List Nat} (h : D.okP.okN p ks = true) : ∀ (j : Nat) k,ks[j]? = some k → p k = true := by
 induction ks with
 | nil => intro j k hj;simp at hj
 | cons x r ih =>
  obtain ⟨h1,h2⟩ := bif_and h
  intro j k hj
  cases j with
  | zero => simp at hj;subst hj;exact h1
  | succ j => exact ih h2 j k (by simpa using hj)
theorem Den.okP (e : ∀ k,p k = true → ρ' k = ρ k) (e' : ∀ k,p k = true → ∀ i o,ρ'.os k i o = ρ.os k i o) {d : D} {v : Value} (hd : d.okP p = true) (h : Den ρ z d v) : Den ρ' z d v := by
 cases h with
 | u h => exact .u h
 | ow h hA hc => exact .ow (by rw [e _ hd];exact h) hA hc
 | p h => exact .p (by rw [e _ hd];exact h)
 | e h => exact .e (by rw [e _ hd];exact h)
 | q hb hu hd' => exact .q hb hu hd'
 | fn us hl hu =>
  refine .fn us hl fun j i u h1 h2 => ?_
  obtain ⟨b,c,sz,h3,h4⟩ := hu j i u h1 h2
  exact ⟨b,c,sz,by rw [e _ (D.okN_get hd j i h1)];exact h3,h4⟩
 | mp h hA => exact .mp (by rw [e _ hd];exact h) hA
 | r h hA hc hm => exact .r (by rw [e' _ hd];exact h) hA hc hm
 | re h => exact .re (by rw [e' _ hd];exact h)
 | ows h hc => exact .ows (by rw [e _ hd];exact h) hc
 | any h1 => exact .any h1
theorem okL_get {cs : List D} (h : okL p cs = true) : ∀ (j : Nat) d,cs[j]? = some d → d.okP p = true := by
 induction cs with
 | nil => intro j d hj;simp at hj
 | cons x r ih =>
  obtain ⟨h1,h2⟩ := bif_and h
  intro j d hj
  cases j with
  | zero => simp at hj;subst hj;exact h1
  | succ j => exact ih h2 j d (by simpa using hj)
theorem okC_get {cs : List SC} (h : okC p cs = true) : ∀ (j : Nat) s,cs[j]? = some s → s.up.okP p = true := by
 induction cs with
 | nil => intro j d hj;simp at hj
 | cons x r ih =>
  have : x.up.okP p = true ∧ okC p r = true := by
   cases x with
   | d x => exact bif_and h
   | a x => exact bif_and h
  intro j d hj
  cases j with
  | zero => simp at hj;subst hj;exact this.1
  | succ j => exact ih this.2 j d (by simpa using hj)
theorem DenL.okP (e : ∀ k,p k = true → ρ' k = ρ k) (e' : ∀ k,p k = true → ∀ i o,ρ'.os k i o = ρ.os k i o) {cs : List D} {us : List Value} (hd : okL p cs = true) (h : DenL ρ z cs us) : DenL ρ' z cs us :=
 ⟨h.len,h.one,fun j d u h1 h2 => (h.den j d u h1 h2).okP e e' (okL_get hd j d h1)⟩
theorem DenS.okP (e : ∀ k,p k = true → ρ' k = ρ k) (e' : ∀ k,p k = true → ∀ i o,ρ'.os k i o = ρ.os k i o) {s : SV} {v : Value} (hd : s.okP p = true) (h : DenS ρ z s v) : DenS ρ' z s v := by
 cases h with
 | d h => exact .d (h.okP e e' hd)
 | a h => exact .a (h.okP e e' hd)
 | t hl hh =>
  refine .t hl fun j s v h1 h2 => ?_
  have hs := okC_get hd j s h1
  cases hh j s v h1 h2 with
  | d h => exact .d (h.okP e e' hs)
  | a h => exact .a (h.okP e e' hs)
theorem okTm_get {tm : List (Nat × SV)} (h : okTm p tm = true) : ∀ j s,lk j tm = some s → s.okP p = true := by
 induction tm with
 | nil => intro j s hj;simp [lk] at hj
 | cons q r ih =>
  obtain ⟨i,x⟩ := q
  obtain ⟨h1,h2⟩ := bif_and h
  intro j s hj
  simp only [lk] at hj
  cases hi : Nat.beq j i
  ·rw [hi] at hj;exact ih h2 j s hj
  ·rw [hi] at hj;simp at hj;subst hj;exact h1
theorem okO_cons {k : Nat} {o : Ob} {r : List (Nat × Ob)} (h : okO p ((k,o) :: r) = true) : p k = true ∧ okO p r = true := by
 cases o with
 | bx t cs => obtain ⟨h1,h2⟩ := bif_and h;exact ⟨h1,(bif_and h2).2⟩
 | ar t sz rs => exact bif_and h
 | fm t rs => exact bif_and h
 | mp kg vg es => exact bif_and h
 | fa t sz rs => exact bif_and h
 | ab cs us zb φ => obtain ⟨h1,h2⟩ := bif_and h;exact ⟨h1,(bif_and h2).2⟩
theorem okO_mem : ∀ {ob : List (Nat × Ob)},okO p ob = true → ∀ k o,(k,o) ∈ ob → p k = true
 | [],_,k,o,hm => by cases hm
 | (j,x) :: r,h,k,o,hm => by
  rcases List.mem_cons.1 hm with hm | hm
  ·cases hm;exact (okO_cons h).1
  ·exact okO_mem (okO_cons h).2 k o hm
theorem ObsOk.okP (e : ∀ k,p k = true → ρ' k = ρ k) (e' : ∀ k,p k = true → ∀ i o,ρ'.os k i o = ρ.os k i o) : ∀ {ob : List (Nat × Ob)} {hp : List (Nat × Hb)},okO p ob = true → ObsOk ρ z ob hp → ObsOk ρ' z ob hp
 | [],_,_,h => h
 | (k,.bx t cs) :: r,_,ho,⟨X,hp',h1,⟨b,us,h2,h3,h4⟩,h5⟩ => by
  obtain ⟨q1,q2⟩ := bif_and ho
  obtain ⟨q2,q3⟩ := bif_and q2
  exact ⟨X,hp',h1,⟨b,us,h2,by rw [e k q1];exact h3,h4.okP e e' q2⟩,h5.okP e e' q3⟩
 | (k,.ar t sz rs) :: r,_,ho,⟨X,hp',h1,⟨A,c,us,h2,h3,h4⟩,h5⟩ => by
  obtain ⟨q1,q2⟩ := bif_and ho
  exact ⟨X,hp',h1,⟨A,c,us,h2,by rw [e k q1];exact h3,h4⟩,h5.okP e e' q2⟩
 | (k,.fm t rs) :: r,_,ho,⟨X,hp',h1,⟨h2,h3⟩,h5⟩ => by
  obtain ⟨q1,q2⟩ := bif_and ho
  exact ⟨X,hp',h1,⟨h2.congr (e' k q1),h3⟩,h5.okP e e' q2⟩
 | (k,.mp kg vg es) :: r,_,ho,⟨X,hp',h1,⟨b,vs,h2,h3,h4⟩,h5⟩ => by
  obtain ⟨q1,q2⟩ := bif_and ho
  exact ⟨X,hp',h1,⟨b,vs,h2,by rw [e k q1];exact h3,h4⟩,h5.okP e e' q2⟩
 | (k,.fa t sz rs) :: r,_,ho,⟨X,hp',h1,⟨A,c,us,Y,h2,h3,h4,h6,h7⟩,h5⟩ => by
  obtain ⟨q1,q2⟩ := bif_and ho
  exact ⟨X,hp',h1,⟨A,c,us,Y,h2,by rw [e k q1];exact h3,h4,h6.congr (e' k q1),h7⟩,h5.okP e e' q2⟩
 | (k,.ab cs us zb φ) :: r,_,ho,⟨X,hp',h1,⟨h2,h3,h4⟩,h5⟩ => by
  obtain ⟨q1,q2⟩ := bif_and ho
  obtain ⟨q2,q3⟩ := bif_and q2
  exact ⟨X,hp',h1,⟨h2,h3,h4.okP e e' q2⟩,h5.okP e e' q3⟩
theorem ObsOk.append : ∀ {a b : List (Nat × Ob)} {ha hb : List (Nat × Hb)},ObsOk ρ z a ha → ObsOk ρ z b hb → ObsOk ρ z (a ++ b) (ha ++ hb)
 | [],_,_,_,h,h' => by
  have : _ = [] := h
  subst this
  exact h'
 | (_,_) :: _,_,_,_,⟨X,hp',h1,h2,h3⟩,h' => ⟨X,hp' ++ _,by rw [h1,List.append_assoc],h2,h3.append h'⟩
theorem ObsOk.split : ∀ {a b : List (Nat × Ob)} {hp : List (Nat × Hb)},ObsOk ρ z (a ++ b) hp → ∃ ha hb,hp = ha ++ hb ∧ ObsOk ρ z a ha ∧ ObsOk ρ z b hb
 | [],_,_,h => ⟨[],_,rfl,rfl,h⟩
 | (_,_) :: _,_,_,⟨X,hp',h1,h2,h3⟩ => by
  obtain ⟨ha,hb,q1,q2,q3⟩ := h3.split
  exact ⟨X ++ ha,hb,by rw [h1,q1,List.append_assoc],⟨X,ha,rfl,h2,q2⟩,q3⟩
end
def famIn (ob : List (Nat × Ob)) (k : Nat) : Prop := ∃ t rs,(k,Ob.fm t rs) ∈ ob
theorem ObsOk.fam {ρ : Rho} {z : Fz} : ∀ {ob : List (Nat × Ob)} {hp : List (Nat × Hb)},ObsOk ρ z ob hp → ∀ k,famIn ob k → z.G.own k
 | [],_,_,k,⟨t,rs,hm⟩ => by cases hm
 | (j,o) :: r,_,⟨X,hp',h1,h2,h3⟩,k,⟨t,rs,hm⟩ => by
  rcases List.mem_cons.1 hm with hm | hm
  ·cases hm;exact h2.2
  ·exact h3.fam k ⟨t,rs,hm⟩
def evLT (tm : List (Nat × SV)) : List Operand → Option (List SV)
 | [] => some []
 | x :: r => match evT tm x with
  | none => none
  | some s => match evLT tm r with
   | none => none
   | some l => some (s :: l)
inductive SubTm (tm : List (Nat × SV)) : List (Nat × SV) → Prop
 | nil : SubTm tm []
 | cons {k : Nat} {s : SV} {r : List (Nat × SV)} : lk k tm = some s → SubTm tm r → SubTm tm ((k,s) :: r)
structure Bk (d : Option Tmp) (ns : List Nat) (tmK : List (Nat × SV)) (obF : List (Nat × Ob)) (K : Kt) (s : SV) (ob' : List (Nat × Ob)) : Prop where
 hs : s.okP (inN ns) = true
 ho : okO (inN ns) ob' = true
 k : K (match d with | some d => (d,s) :: tmK | none => tmK) (ob' ++ obF)
section
variable {P : Program} {T : List (Nat × Ty)} {nt : Nt} {Q : Exit → Act → World → Prop} {c : Cx} {st : St} {tm : List (Nat × Value)} {h : Hs} {ρ : Rho} {G : FG} {ty : TypeId} {pos : String} {af : Array Edge} {gd : Option (Nat × Bool)} {K : Kt}
theorem evLT_ev (g : Gd c st tm h ρ G) : ∀ {xs : List Operand} {ss : List SV},evLT st.tm xs = some ss → ∃ vs,ArgsL tm xs vs ∧ vs.length = ss.length ∧ ∀ (j : Nat) s v,ss[j]? = some s → vs[j]? = some v → DenS ρ ⟨G,h.w0⟩ s v
 | [],ss,ha => by simp [evLT] at ha;subst ha;exact ⟨[],.nil,rfl,by simp⟩
 | x :: r,ss,ha => by
  simp only [evLT] at ha
  cases hx : evT st.tm x with
  | none => simp [hx] at ha
  | some s =>
   simp only [hx] at ha
   cases hr : evLT st.tm r with
   | none => simp [hr] at ha
   | some l =>
    simp only [hr,Option.some.injEq] at ha
    subst ha
    obtain ⟨v,q1,q2⟩ := g.ev hx
    obtain ⟨vs,r1,r2,r3⟩ := evLT_ev g hr
    refine ⟨v :: vs,.cons q1 r1,by simp [r2],fun j s0 v0 e1 e2 => ?_⟩
    cases j with
    | zero => simp at e1 e2;subst e1 e2;exact q2
    | succ j => exact r3 j s0 v0 (by simpa using e1) (by simpa using e2)
theorem callO_vals {f : FuncId} {ss : List SV} {obP obF : List (Nat × Ob)} {tmS tmK : List (Nat × SV)} {ns : List Nat} {QS : SV → List (Nat × Ob) → Prop} (g : Gd c ⟨tmS,obP ++ obF⟩ tm h ρ G) {vs : List Value} (a2 : vs.length = ss.length) (a3 : ∀ (j : Nat) s v,ss[j]? = some s → vs[j]? = some v → DenS ρ ⟨G,h.w0⟩ s v) (hk : ∀ k s,lk k tmK = some s → lk k tmS = some s)
  (h1 : okTm (fun k => !inN ns k) tmK = true) (h2 : okO (fun k => !inN ns k) obF = true) (h3 : okO (inN ns) obP = true) (hc : CallsA P f ss obP QS) :
  ∀ w,Hp h w → Calls P f vs.toArray w fun e w' => ∃ v h' s ob' ρ' G',e = .returned v ∧ Hp h' w' ∧ QS s ob' ∧ (s.okP (inN ns) = true → okO (inN ns) ob' = true → DenS ρ' ⟨G',h'.w0⟩ s v ∧ Gd c ⟨tmK,ob' ++ obF⟩ tm h' ρ' G') ∧ (obP = [] → ∀ w2,Hp h' w2 → Hp h w2) := by
 intro w hw
 obtain ⟨F,w0,hp⟩ := h
 obtain ⟨hpP,hpF,e0,oP,oF⟩ := ObsOk.split g.ob
 dsimp only at e0 oP oF
 subst e0
 have hnd := hw.nd
 rw [List.map_append,List.nodup_append] at hnd
 have hbF : ∀ b,Bl hpF b → ¬ F b := fun b ⟨x,hx⟩ => hw.out b x (List.mem_append_right _ hx)
 have hPF : ∀ b x,(b,x) ∈ hpP → ¬ Bl hpF b := fun b x hx ⟨y,hy⟩ => hnd.2.2 b (List.mem_map_of_mem (f := Prod.fst) hx) b (List.mem_map_of_mem (f := Prod.fst) hy) rfl
 have hm0 : Mz ⟨G,w0⟩ ⟨⟨G.on,G.fam,famIn obP⟩,w⟩ := ⟨fun _ h => h,fun b hb => hw.same.block b (g.gF b hb),fun _ _ _ h => h⟩
 refine (hc.out ⟨fun b => F b ∨ Bl hpF b,w,⟨G.on,G.fam,famIn obP⟩⟩ ρ hpP vs w ⟨Same.refl _ _,fun b hb => ?_,fun b x hx => hw.blk b x (List.mem_append_left _ hx),hnd.1,fun b x hx hb => ?_⟩ a2 ⟨fun _ h => h,Same.refl _ _,fun b hb => .inl (g.gF b hb),fun b hb => .inl hb,.refl _,fun k s hk => ?_,?_⟩).mono ?_
 ·rcases hb with hb | ⟨x,hx⟩
  ·exact hw.Flt hb
  ·exact (hw.blk b x (List.mem_append_right _ hx)).lt
 ·rcases hb with hb | hb
  ·exact hw.out b x (List.mem_append_left _ hx) hb
  ·exact hPF b x hx hb
 ·obtain ⟨q1,q2⟩ := lk_slT hk
  have hlt : k - 0 < vs.length := by rw [a2];exact (List.getElem?_eq_some_iff.1 q2).1
  exact ⟨vs[k - 0],lk_slots q1 (List.getElem?_eq_getElem hlt),(a3 _ s _ q2 (List.getElem?_eq_getElem hlt)).mono hm0 .refl⟩
 ·refine oP.monoF hm0 .refl fun k o hm => ?_
  refine Fms.of fun t rs e => ?_
  subst e
  exact ⟨rfl,fun _ => ⟨_,_,hm⟩⟩
 ·rintro e w' ⟨v,h',s,ob',ρ',G',rfl,hw',g',hq⟩
  obtain ⟨v',e1,e2⟩ := g'.tm 0 s rfl
  simp only [lk,Nat.beq_refl,cond_true,Option.some.injEq] at e1
  subst e1
  have hkeep : ∀ b,F b ∨ Bl hpF b → w'.heap[b]? = w.heap[b]? := fun b hb => (hw'.same.block b (g'.fF b hb)).trans (g'.fw.block b hb)
  let ρ2 : Rho := ⟨fun k => if inN ns k = true then ρ' k else ρ k,fun k => if inN ns k = true then ρ'.os k else ρ.os k⟩
  let G2 : FG := ⟨fun b => G b ∨ G' b,G'.fam,G.own⟩
  have hgn : ∀ b,G' b → ¬ Bl hpF b := fun b hb hbl => by
   rcases g'.gx b hb with q | q
   ·exact hbF b hbl (g.gF b q)
   ·exact q (.inr hbl)
  refine ⟨v,⟨fun b => h'.F b ∧ ¬ Bl hpF b,h'.w0,h'.hp ++ hpF⟩,s,ob',ρ2,G2,rfl,⟨hw'.same.mono fun _ hb => hb.1,fun b hb => hw'.inF b hb.1,fun b x hx => ?_,?_,fun b x hx hb => ?_⟩,hq,fun hs ho => ⟨?_,?_⟩,fun h0 w2 hw2 => ?_⟩
  ·rcases List.mem_append.1 hx with hx | hx
   ·exact hw'.blk b x hx
   ·exact (hw.blk b x (List.mem_append_right _ hx)).of_block (hkeep b (.inr ⟨x,hx⟩))
  ·rw [List.map_append,List.nodup_append]
   refine ⟨hw'.nd,hnd.2.1,fun a ha b hb hab => ?_⟩
   subst hab
   obtain ⟨⟨_,x⟩,hx,rfl⟩ := List.mem_map.1 ha
   obtain ⟨⟨_,y⟩,hy,hxy⟩ := List.mem_map.1 hb
   dsimp only at hxy
   subst hxy
   exact hw'.out _ x hx (g'.fF _ (.inr ⟨y,hy⟩))
  ·rcases List.mem_append.1 hx with hx | hx
   ·exact hw'.out b x hx hb.1
   ·exact hb.2 ⟨x,hx⟩
  ·refine DenS.okP (p := inN ns) (fun k hk => ?_) (fun k hk i o => ?_) hs (DenS.mono (z := ⟨G',h'.w0⟩) (z' := ⟨G2,h'.w0⟩) ⟨fun _ hb => Or.inr hb,fun _ _ => rfl,fun _ _ _ h => h⟩ .refl e2)
   ·simp only [ρ2,hk,if_true]
   ·simp only [ρ2,hk,if_true]
  ·have hm : Mz ⟨G,w0⟩ ⟨G2,h'.w0⟩ := ⟨fun _ hb => .inl hb,fun b hb => (g'.fw.block b (.inl (g.gF b hb))).trans (hw.same.block b (g.gF b hb)),fun k i b hb => g'.fm.gr k i b hb⟩
   have hno : ∀ k,(!inN ns k) = true → ¬ inN ns k = true := fun k hk => by simpa using hk
   have ee : ∀ k,(!inN ns k) = true → ρ2 k = ρ k := fun k hk => by show (if inN ns k = true then ρ' k else ρ k) = _;rw [if_neg (hno k hk)]
   have eo : ∀ k,(!inN ns k) = true → ∀ i o,ρ2.os k i o = ρ.os k i o := fun k hk i o => by show (if inN ns k = true then ρ'.os k else ρ.os k) i o = _;rw [if_neg (hno k hk)]
   have hfp : ∀ k,¬ famIn obP k → G'.fam k = G.fam k := fun k hk => g'.fm.eq k hk
   refine ⟨fun b hb => ⟨g'.fF b (.inl (g.fF b hb)),fun hbl => hbF b hbl (g.fF b hb)⟩,(g.fw.trans (hw.same.mono g.fF)).trans (g'.fw.mono fun b hb => .inl (g.fF b hb)),fun b hb => ?_,fun b hb => ?_,⟨g.fm.own,fun k hk => ?_,fun k i b hb => g'.fm.gr k i b (g.fm.gr k i b hb)⟩,fun k s0 hk0 => ?_,ObsOk.append ?_ ?_⟩
   ·rcases hb with hb | hb
    ·exact ⟨g'.fF b (.inl (g.gF b hb)),fun hbl => hbF b hbl (g.gF b hb)⟩
    ·exact ⟨g'.gF b hb,hgn b hb⟩
   ·rcases hb with hb | hb
    ·exact g.gx b hb
    ·rcases g'.gx b hb with q | q
     ·exact g.gx b q
     ·exact .inr fun h0 => q (.inl (g.fF b h0))
   ·refine (hfp k fun hf => hk ?_).trans (g.fm.eq k hk)
    rw [← g.fm.own]
    exact oP.fam k hf
   ·obtain ⟨u,u1,u2⟩ := g.tm k s0 (hk k s0 hk0)
    exact ⟨u,u1,(u2.mono hm .refl).okP ee eo (okTm_get h1 k s0 hk0)⟩
   ·refine ObsOk.okP (p := inN ns) (fun k hk => ?_) (fun k hk i o => ?_) ho (ObsOk.monoF (z := ⟨G',h'.w0⟩) (z' := ⟨G2,h'.w0⟩) ⟨fun _ hb => Or.inr hb,fun _ _ => rfl,fun _ _ _ h => h⟩ .refl (fun k o hm' => ?_) g'.ob)
    ·simp only [ρ2,hk,if_true]
    ·simp only [ρ2,hk,if_true]
    ·cases o <;> simp only [Fms]
     refine ⟨rfl,fun hown => ?_⟩
     have hown' : famIn obP k := by have := hown;rwa [g'.fm.own] at this
     exact oP.fam k hown'
   ·refine ObsOk.okP ee eo h2 (oF.monoF hm .refl fun k o hm' => ?_)
    refine Fms.of fun t rs e => ?_
    subst e
    refine ⟨hfp k fun ⟨t,rs,hf⟩ => ?_,id⟩
    have q1 := okO_mem h3 k _ hf
    have q2 := okO_mem h2 k _ hm'
    rw [q1] at q2
    cases q2
  ·subst h0
   have hP : hpP = [] := oP
   subst hP
   refine ⟨(hw.same.trans (g'.fw.mono fun b hb => .inl hb)).trans (hw2.same.mono fun b hb => ⟨g'.fF b (.inl hb),fun hbl => hbF b hbl hb⟩),hw.inF,fun b x hx => hw2.blk b x (List.mem_append_right _ (by simpa using hx)),hw.nd,hw.out⟩
theorem callO_out {f : FuncId} {xs : List Operand} {ss : List SV} {obP obF : List (Nat × Ob)} {tmS tmK : List (Nat × SV)} {ns : List Nat} {QS : SV → List (Nat × Ob) → Prop} (g : Gd c ⟨tmS,obP ++ obF⟩ tm h ρ G) (hx : evLT tmS xs = some ss) (hk : ∀ k s,lk k tmK = some s → lk k tmS = some s)
  (h1 : okTm (fun k => !inN ns k) tmK = true) (h2 : okO (fun k => !inN ns k) obF = true) (h3 : okO (inN ns) obP = true) (hc : CallsA P f ss obP QS) :
  ∃ vs,ArgsL tm xs vs ∧ FnOk P f ∧ ∀ w,Hp h w → Calls P f vs.toArray w fun e w' => ∃ v h' s ob' ρ' G',e = .returned v ∧ Hp h' w' ∧ QS s ob' ∧ (s.okP (inN ns) = true → okO (inN ns) ob' = true → DenS ρ' ⟨G',h'.w0⟩ s v ∧ Gd c ⟨tmK,ob' ++ obF⟩ tm h' ρ' G') ∧ (obP = [] → ∀ w2,Hp h' w2 → Hp h w2) := by
 obtain ⟨vs,a1,a2,a3⟩ := evLT_ev g hx
 exact ⟨vs,a1,hc.fn,callO_vals g a2 a3 hk h1 h2 h3 hc⟩
end
def scT : SV → Option SC
 | .d x => some (.d x)
 | .a xs => some (.a xs)
 | .t _ => none
def scL : List SV → Option (List SC)
 | [] => some []
 | s :: r => match scT s with
  | none => none
  | some x => match scL r with
   | none => none
   | some l => some (x :: l)
structure RetO (Q : SV → List (Nat × Ob) → Prop) (s : SV) (ob : List (Nat × Ob)) : Prop where
 out : ∃ src s' ob',LeS src s s' ∧ LeO src ob ob' ∧ Q s' ob'
def RetKO (T : List (Nat × Ty)) (rs : List ResultVar) (Q : SV → List (Nat × Ob) → Prop) : Kt := fun tm ob => match resLT T tm ob rs with
 | none => False
 | some ss => match scL ss with
  | none => False
  | some l => RetO Q (tupT l) ob
section
variable {P : Program} {T : List (Nat × Ty)} [hT : Tys P T] {nt : Nt} {c : Cx} {st : St} {tm : List (Nat × Value)} {h : Hs} {ρ : Rho} {G : FG}
omit hT in
theorem scL_den {z : Fz} : ∀ {ss : List SV} {l : List SC} {vs : List Value},scL ss = some l → vs.length = ss.length → (∀ (j : Nat) s v,ss[j]? = some s → vs[j]? = some v → DenS ρ z s v) → vs.length = l.length ∧ ∀ (j : Nat) s v,l[j]? = some s → vs[j]? = some v → DenC ρ z s v
 | [],l,vs,hf,hl,hd => by
  simp [scL] at hf
  subst hf
  exact ⟨by simpa using hl,by simp⟩
 | s :: r,l,vs,hf,hl,hd => by
  cases vs with
  | nil => simp at hl
  | cons v vs =>
   simp only [scL] at hf
   cases h1 : scT s with
   | none => simp [h1] at hf
   | some x =>
    cases h2 : scL r with
    | none => simp [h1,h2] at hf
    | some l' =>
     simp only [h1,h2,Option.some.injEq] at hf
     subst hf
     obtain ⟨r1,r2⟩ := scL_den h2 (vs := vs) (by simpa using hl) (fun j s0 v0 e1 e2 => hd (j + 1) s0 v0 (by simpa using e1) (by simpa using e2))
     refine ⟨by simp [r1],fun j s0 v0 e1 e2 => ?_⟩
     cases j with
     | zero =>
      simp at e1 e2
      subst e1 e2
      have h0 := hd 0 s v rfl rfl
      cases s with
      | d y => simp only [scT,Option.some.injEq] at h1;subst h1;cases h0 with | d h0 => exact .d h0
      | a y => simp only [scT,Option.some.injEq] at h1;subst h1;cases h0 with | a h0 => exact .a h0
      | t y => cases h1
     | succ j => exact r2 j s0 v0 (by simpa using e1) (by simpa using e2)
theorem RetKO_ok {Q : SV → List (Nat × Ob) → Prop} (g : Gd c st tm h ρ G) {fn : Func} (k : RetKO T fn.results.toList Q st.tm st.ob) : ∀ (a : Act) w,Slt nt tm a → Hp h w → a.defers = nt.d ∧ ∃ v,(results fn a.tmps).run P w = .ok v w ∧ Ans c Q (.returned v) w := by
 intro a w ha hw
 refine ⟨ha.df,?_⟩
 simp only [RetKO] at k
 cases hr : resLT T st.tm st.ob fn.results.toList with
 | none => simp only [hr] at k
 | some ss =>
  simp only [hr] at k
  cases hf : scL ss with
  | none => simp only [hf] at k
  | some l =>
   simp only [hf] at k
   obtain ⟨vs,r1,r2,r3⟩ := resLT_ok g hr (P := P) (nt := nt)
   obtain ⟨f1,f2⟩ := scL_den hf r1 r2
   have hm := r3 a w ha hw
   have h2 : (fn.results.mapM (resRun a.tmps)).run P w = .ok vs.toArray w := by
    rw [Array.mapM_eq_mapM_toList]
    simp only [map_eq_pure_bind,Sem.run_bind,hm,Result.andThen_ok,Sem.run_pure]
   have h3 : (results fn a.tmps).run P w = .ok (tupV vs) w := by
    rw [results_eq]
    simp only [Sem.run_bind,h2,Result.andThen_ok,Sem.run_pure]
    rcases vs with _ | ⟨v,_ | ⟨u,l⟩⟩ <;> simp [tupV]
   have hden : DenS ρ ⟨G,h.w0⟩ (tupT l) (tupV vs) := by
    rcases vs with _ | ⟨v,_ | ⟨u,vs⟩⟩
    ·have : l = [] := List.eq_nil_of_length_eq_zero (by simpa using f1.symm)
     subst this
     exact .t rfl f2
    ·match l,f1 with
     | [x],_ => exact (f2 0 x v rfl rfl).up
    ·match l,f1 with
     | x :: y :: l',f1 => exact .t f1 f2
   obtain ⟨src,s',ob',l1,l2,hq⟩ := k.out
   have g0 : Gd c ⟨[(0,tupT l)],st.ob⟩ [(0,tupV vs)] h ρ G := ⟨g.fF,g.fw,g.gF,g.gx,g.fm,fun k s hk => by
    simp only [lk] at hk ⊢
    cases hb : Nat.beq k 0 <;> rw [hb] at hk
    ·cases hk
    ·simp at hk;subst hk;exact ⟨_,rfl,hden⟩,g.ob⟩
   obtain ⟨h',hh,g'⟩ := g0.le (S := ⟨[(0,s')],ob'⟩) ⟨.cons rfl l1 .nil,l2⟩
   exact ⟨_,h3,_,h',s',ob',_,G,rfl,hh w hw,g',hq⟩
theorem callsA_of_vcO {n : Nat} {f : FuncId} {fn : Func} {cd : Code} {ss : List SV} {ob : List (Nat × Ob)} {Q : SV → List (Nat × Ob) → Prop} {rs : List ResultVar} (hf : P.funcs[f]? = some fn) (hb : fn.body = some cd) (hnm : (fn.name == "runtime.NumGoroutine") = false) (hn : fn.ntmps = n) (hrs : fn.results.toList = rs) (hv : Nat.ble ss.length n = true)
  (k : vcC P T ⟨n,[]⟩ (RetKO T rs Q) cd (RetKO T rs Q) (fun _ _ _ => False) (slT 0 ss) ob) : CallsA P f ss ob Q := by
 subst hrs
 refine ⟨⟨fn,cd,hf,hb,hnm⟩,fun c ρ hp vs w hw hl g => ?_⟩
 refine calls_of_AW (nt := ⟨n,[]⟩) hf hb hn rfl (by rw [hl];exact hv) hw ?_
 refine vcC_sound (c := c) cd _ _ _ _ _ ρ c.G (bodyPost P fn (Ans c Q)) (fun st tm h ρ G g k => ⟨RetKO_ok g k⟩) (fun _ _ _ _ _ _ _ k => k.elim) (fun st tm h ρ G g k => ⟨RetKO_ok g k⟩) g k
abbrev Iso (s0 : SV) (ob0 : List (Nat × Ob)) (s : SV) (ob : List (Nat × Ob)) : Prop := s = s0 ∧ ob = ob0
end
end Go.Proofs.YtjpaaaecbgmcgaaGreatDoor
/-
 The layer of trees: own arrays that are written in place;answers in new own arrays.
-/
namespace Go.Proofs.YtjpaaaecbgmcgaaGreatDoor
open Go.RowKit
section
def ArgsAt (ρ : Rho) (G : FG) (w : World) (ss : List SV) (vs : List Value) : Prop := vs.length = ss.length ∧ (∀ (j : Nat) s v,ss[j]? = some s → vs[j]? = some v → DenS ρ ⟨G,w⟩ s v) ∧ ∀ b,G b → b < w.heap.size
end
section
variable {P : Program} {T : List (Nat × Ty)} [hT : Tys P T] {nt : Nt} {Q : Exit → Act → World → Prop} {c : Cx} {st : St} {tm : List (Nat × Value)} {h : Hs} {ρ : Rho} {G : FG} {ty : TypeId} {pos : String} {af : Array Edge} {gd : Option (Nat × Bool)} {K : Kt}
end
section
variable {P : Program} {f : FuncId} {ss : List SV}
theorem CallsA.renO {ob ob0 ob1 : List (Nat × Ob)} {s0 s1 : SV} (h : CallsA P f ss ob (Iso s0 ob0)) (src : Src) (ls : LeS src s0 s1) (lo : LeO src ob0 ob1) : CallsA P f ss ob (Iso s1 ob1) :=
 ⟨h.fn,fun c ρ hp vs w hw hl g => (h.out c ρ hp vs w hw hl g).mono fun e w' ⟨v,h',s,ob',ρ',G',e1,e2,e3,e4,e5⟩ => by
  subst e4 e5
  obtain ⟨h2,hh,g2⟩ := e3.le (S := ⟨[(0,s1)],ob1⟩) ⟨.cons rfl ls .nil,lo⟩
  exact ⟨v,h2,s1,ob1,_,G',e1,hh w' e2,g2,rfl,rfl⟩⟩
end
def keepTm (p : Nat → Bool) : List Nat → List (Nat × SV) → List (Nat × SV)
 | _,[] => []
 | ks,(k,s) :: r => bif inN ks k then keepTm p ks r else bif s.okP p then (k,s) :: keepTm p ks r else keepTm p (k :: ks) r
theorem keepTm_get {p : Nat → Bool} : ∀ {tm : List (Nat × SV)} {ks : List Nat} {k : Nat} {s : SV},lk k (keepTm p ks tm) = some s → inN ks k = false ∧ lk k tm = some s
 | [],_,_,_,h => by simp [keepTm,lk] at h
 | (j,x) :: r,ks,k,s,h => by
  simp only [keepTm] at h
  simp only [lk]
  cases h1 : inN ks j <;> simp only [h1,cond_false,cond_true] at h
  ·cases h2 : x.okP p <;> simp only [h2,cond_false,cond_true] at h
   ·obtain ⟨q1,q2⟩ := keepTm_get h
    simp only [inN] at q1
    cases hb : Nat.beq k j <;> simp only [hb,cond_false,cond_true] at q1 ⊢
    ·exact ⟨q1,q2⟩
    ·cases q1
   ·simp only [lk] at h
    cases hb : Nat.beq k j <;> simp only [hb,cond_false,cond_true] at h ⊢
    ·exact keepTm_get h
    ·rw [Nat.eq_of_beq_eq_true hb];exact ⟨h1,h⟩
  ·obtain ⟨q1,q2⟩ := keepTm_get h
   cases hb : Nat.beq k j
   ·exact ⟨q1,q2⟩
   ·rw [Nat.eq_of_beq_eq_true hb,h1] at q1;cases q1
theorem keepTm_ok {p : Nat → Bool} : ∀ {tm : List (Nat × SV)} {ks : List Nat},okTm p (keepTm p ks tm) = true
 | [],_ => rfl
 | (j,x) :: r,ks => by
  simp only [keepTm]
  cases inN ks j
  ·cases h2 : x.okP p
   ·exact keepTm_ok
   ·simp only [cond_false,cond_true,okTm,h2];exact keepTm_ok
  ·exact keepTm_ok
def splitOb (ps : List Nat) : List (Nat × Ob) → List (Nat × Ob) × List (Nat × Ob)
 | [] => ([],[])
 | (k,o) :: r => bif inN ps k then ((k,o) :: (splitOb ps r).1,(splitOb ps r).2) else ((splitOb ps r).1,(k,o) :: (splitOb ps r).2)
theorem splitOb_ok {ρ : Rho} {z : Fz} {ps : List Nat} : ∀ {ob : List (Nat × Ob)} {hp : List (Nat × Hb)},ObsOk ρ z ob hp → ∃ ha hb,ObsOk ρ z (splitOb ps ob).1 ha ∧ ObsOk ρ z (splitOb ps ob).2 hb ∧ hp.Perm (ha ++ hb)
 | [],hp,h => ⟨[],[],rfl,rfl,by have : hp = [] := h;subst this;exact .refl _⟩
 | (k,o) :: r,hp,⟨X,hp',h1,h2,h3⟩ => by
  obtain ⟨ha,hb,q1,q2,q3⟩ := splitOb_ok (ps := ps) h3
  simp only [splitOb]
  subst h1
  cases inN ps k
  ·refine ⟨ha,X ++ hb,q1,⟨X,hb,rfl,h2,q2⟩,?_⟩
   refine (q3.append_left X).trans ?_
   rw [← List.append_assoc,← List.append_assoc]
   exact List.perm_append_comm.append_right _
  ·exact ⟨X ++ ha,hb,⟨X,ha,rfl,h2,q1⟩,q2,by rw [List.append_assoc];exact q3.append_left X⟩
def cleanL (p : Nat → Bool) : List D → List D
 | [] => []
 | x :: r => (bif x.okP p then x else .any) :: cleanL p r
def cleanOb (p : Nat → Bool) : List (Nat × Ob) → List (Nat × Ob)
 | [] => []
 | (k,.bx t cs) :: r => (k,.bx t (cleanL p cs)) :: cleanOb p r
 | (k,.ar t sz rs) :: r => (k,.ar t sz rs) :: cleanOb p r
 | (k,.fm t rs) :: r => (k,.fm t rs) :: cleanOb p r
 | (k,.mp a b es) :: r => (k,.mp a b es) :: cleanOb p r
 | (k,.fa t m rs) :: r => (k,.fa t m rs) :: cleanOb p r
 | (k,.ab cs us zb φ) :: r => (k,.ab (cleanL p cs) us zb φ) :: cleanOb p r
theorem cleanL_ok {ρ : Rho} {z : Fz} {p : Nat → Bool} : ∀ {cs : List D} {us : List Value},DenL ρ z cs us → (cleanL p cs).length = cs.length ∧ DenL ρ z (cleanL p cs) us
 | [],us,h => ⟨rfl,h⟩
 | x :: r,us,h => by
  have hl := h.len
  cases us with
  | nil => simp at hl
  | cons u us =>
   obtain ⟨q1,q2⟩ := cleanL_ok (p := p) (us := us) (cs := r) ⟨by simpa using hl,by have := h.one;simp at this;simpa using this.2,fun j d v e1 e2 => h.den (j + 1) d v (by simpa using e1) (by simpa using e2)⟩
   have h0 := h.den 0 x u rfl rfl
   refine ⟨by simp [cleanL,q1],?_⟩
   simp only [cleanL]
   cases x.okP p
   ·exact q2.cons (.any h0.one)
   ·exact q2.cons h0
theorem cleanOb_ok {ρ : Rho} {z : Fz} {p : Nat → Bool} : ∀ {ob : List (Nat × Ob)} {hp : List (Nat × Hb)},ObsOk ρ z ob hp → ObsOk ρ z (cleanOb p ob) hp
 | [],_,h => h
 | (k,.bx t cs) :: r,_,⟨X,hp',h1,⟨b,us,h2,h3,h4⟩,h5⟩ => by
  obtain ⟨q1,q2⟩ := cleanL_ok (p := p) h4
  exact ⟨X,hp',h1,⟨b,us,by rw [q1];exact h2,by rw [q1];exact h3,q2⟩,cleanOb_ok h5⟩
 | (k,.ar t sz rs) :: r,_,⟨X,hp',h1,h2,h5⟩ => ⟨X,hp',h1,h2,cleanOb_ok h5⟩
 | (k,.fm t rs) :: r,_,⟨X,hp',h1,h2,h5⟩ => ⟨X,hp',h1,h2,cleanOb_ok h5⟩
 | (k,.mp a b es) :: r,_,⟨X,hp',h1,h2,h5⟩ => ⟨X,hp',h1,h2,cleanOb_ok h5⟩
 | (k,.fa t m rs) :: r,_,⟨X,hp',h1,h2,h5⟩ => ⟨X,hp',h1,h2,cleanOb_ok h5⟩
 | (k,.ab cs us zb φ) :: r,_,⟨X,hp',h1,⟨h2,h3,h4⟩,h5⟩ => ⟨X,hp',h1,⟨h2,h3,(cleanL_ok h4).2⟩,cleanOb_ok h5⟩
section
variable {P : Program} {T : List (Nat × Ty)} {nt : Nt} {ty : TypeId} {pos : String} {af : Array Edge} {gd : Option (Nat × Bool)} {K : Kt}
theorem Raw.callI {f : FuncId} {xs : Array Operand} {ts : Array TypeId} {d : Option Tmp} {tmT tmK : List (Nat × SV)} {ob obP obF : List (Nat × Ob)} (ps ns : List Nat) {ss : List SV} {QS : SV → List (Nat × Ob) → Prop} (hT : keepTm (fun k => !inN ns k) [] tmT = tmK) (hO : (splitOb ps ob).1 = obP) (hO' : cleanOb (fun k => !inN ns k) (splitOb ps ob).2 = obF) (hx : evLT tmT xs.toList = some ss)
  (h2 : okO (fun k => !inN ns k) obF = true) (h3 : okO (inN ns) obP = true) (hd : (match d with | some d => Nat.blt d nt | none => true) = true) (hc : CallsA P f ss obP QS) (k : ∀ s ob',QS s ob' → Bk d ns tmK obF K s ob') : Raw P nt ⟨d,.call ⟨.value (.func f),xs,ts⟩,ty,pos,af,gd⟩ tmT ob K := ⟨fun Q c tm h ρ G g => by
 obtain ⟨F,w0,hp⟩ := h
 obtain ⟨ha,hb,o1,o2,o3⟩ := splitOb_ok (ps := ps) g.ob
 rw [hO] at o1
 replace o2 := cleanOb_ok (p := fun k => !inN ns k) o2
 rw [hO'] at o2
 have g2 : Gd c ⟨tmT,obP ++ obF⟩ tm ⟨F,w0,ha ++ hb⟩ ρ G := ⟨g.fF,g.fw,g.gF,g.gx,g.fm,g.tm,o1.append o2⟩
 have hh : ∀ w,Hp ⟨F,w0,hp⟩ w → Hp ⟨F,w0,ha ++ hb⟩ w := fun w hw => hw.perm o3
 subst hT
 obtain ⟨vs,a1,⟨fn,cd,f1,f2,f3⟩,a3⟩ := callO_out g2 hx (fun k s h => (keepTm_get h).2) keepTm_ok h2 h3 hc
 have hxs : xs = xs.toList.toArray := by simp
 rw [hxs]
 cases d with
 | some d =>
  refine OpS.call (P := P) (nt := nt) (Q := Q) (fun v h2 => Kd c K ((d,v) :: tm) h2) f1 f2 f3 a1 hd (fun w hw => (a3 w (hh w hw)).mono ?_) fun _ _ hk => hk
  rintro e w' ⟨v,h3,s,ob',ρ',G',rfl,hw3,hq,hg,_⟩
  obtain ⟨b1,b2,b3⟩ := k s ob' hq
  obtain ⟨q1,q2⟩ := hg b1 b2
  exact ⟨v,h3,rfl,hw3,.of (q2.put q1) b3⟩
 | none =>
  refine OpS.call0 (P := P) (nt := nt) (Q := Q) (fun v h2 => Kd c K tm h2) f1 f2 f3 a1 (fun w hw => (a3 w (hh w hw)).mono ?_) fun _ _ hk => hk
  rintro e w' ⟨v,h3,s,ob',ρ',G',rfl,hw3,hq,hg,_⟩
  obtain ⟨b1,b2,b3⟩ := k s ob' hq
  obtain ⟨q1,q2⟩ := hg b1 b2
  exact ⟨v,h3,rfl,hw3,.of q2 b3⟩⟩
end
end Go.Proofs.YtjpaaaecbgmcgaaGreatDoor
/-
 Elder contracts as contracts on trees;a law's contract as its row asks it. Of no program.
-/
namespace Go.Proofs.YtjpaaaecbgmcgaaGreatDoor
open Go.RowKit
section
variable {P : Program} {f : FuncId} {ss : List SV}
def rho0 : Rho := ⟨fun _ => none,fun _ _ _ => none⟩
def fg0 (W : World) : FG := ⟨fun b => b < W.heap.size,fun _ => [],fun _ => True⟩
end
end Go.Proofs.YtjpaaaecbgmcgaaGreatDoor
