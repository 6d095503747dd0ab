/-
  Part 6 of the proofs of ureport_holds, ucompare_holds, ureports_holds: laws and contracts that they need.
-/
import Derived.Test.YtjpaaaecbgmcgaaGreatDoorYa5
import Derived.Maps.OwnOps
import Derived.RecoverIn
set_option linter.unusedVariables false
set_option linter.unusedSimpArgs false
namespace Go.Proofs.YtjpaaaecbgmcgaaGreatDoor
open Go.RowKit
structure KeyTy (P : Program) (k : TypeId) {κ : Type} [DecidableEq κ] (kv : κ → Value) : Prop where
 under : ∃ d,P.underlying k = some d ∧ ∀ a b,Instr.sameNow d (kv a) (kv b) = some (decide (a = b))
 check : ∀ (e : Bool) (a : κ) (w : World),(Instr.checkKey e 10000 k (kv a)).run P w = .ok () w
 bits : ∀ a,Instr.sameBits 10000 (kv a) (kv a) = true
theorem bytes_beq (a b : ByteArray) : (a == b) = decide (a = b) := by
 obtain ⟨⟨x⟩⟩ := a
 obtain ⟨⟨y⟩⟩ := b
 show ((⟨x⟩ : Array UInt8) == ⟨y⟩) = decide _
 by_cases h : x = y
 ·subst h;simp
 ·have h1 : ((⟨x⟩ : Array UInt8) == ⟨y⟩) = false := by simpa using h
  rw [h1];symm;rw [decide_eq_false_iff_not];intro e;injection e with e;injection e with e;exact h e
theorem check_string {P : Program} {k : TypeId} (hk : P.underlying k = some .string) (n : Nat) (e : Bool) (a : ByteArray) (w : World) : (Instr.checkKey e (n + 1) k (.string a)).run P w = .ok () w := by
 simp only [Instr.checkKey,Sem.run_bind,run_underlying hk,Result.andThen_ok];rfl
theorem keyTy_string {P : Program} {k : TypeId} (hk : P.underlying k = some .string) : KeyTy P k Value.string where
 under := ⟨_,hk,fun a b => by simp only [Instr.sameNow,bytes_beq]⟩
 check := check_string hk 9999
 bits := fun a => by simp [Instr.sameBits,bytes_beq]
section
variable {κ : Type}
def MapAt (w : World) (b : Nat) (kv : κ → Value) (m : List (κ × Value)) : Prop :=
 ∃ es clock,w.heap[b]? = some (.map es clock) ∧ es.toList.map (fun e => (e.key,e.val)) = m.map (fun p => (kv p.1,p.2))
variable {P : Program} {k t e : TypeId} {kv : κ → Value} {w w' : World} {b : Nat} {m : List (κ × Value)}
variable [DecidableEq κ]
def aget (m : List (κ × Value)) (x : κ) (z : Value) : Value := match m.find? (fun p => decide (x = p.1)) with | some p => p.2 | none => z
def ahas (m : List (κ × Value)) (x : κ) : Bool := m.any (fun p => decide (x = p.1))
def aput : List (κ × Value) → κ → Value → List (κ × Value)
 | [],x,v => [(x,v)]
 | p :: m,x,v => if x = p.1 then (x,v) :: m else p :: aput m x v
theorem findNow_eq {d : TypeDesc} (hs : ∀ a b,Instr.sameNow d (kv a) (kv b) = some (decide (a = b))) (x : κ) : ∀ (es : List MapEntry) (m : List (κ × Value)) (i : Nat),es.map (fun e => (e.key,e.val)) = m.map (fun p => (kv p.1,p.2)) →
  Instr.findNow d (kv x) es i = some (match m.findIdx? (fun p => decide (x = p.1)) with | some j => some (i + j,aget m x default) | none => none)
 | [],[],i,_ => by simp [Instr.findNow]
 | [],_ :: _,i,h => by simp at h
 | _ :: _,[],i,h => by simp at h
 | e :: es,p :: m,i,h => by
  simp only [List.map_cons,List.cons.injEq,Prod.mk.injEq] at h
  obtain ⟨⟨h1,h2⟩,h3⟩ := h
  simp only [Instr.findNow,h1,hs]
  by_cases hx : x = p.1
  ·simp [hx,aget,h2,List.findIdx?_cons]
  ·have ih := findNow_eq hs x es m (i + 1) h3
   simp only [hx,decide_false,ih,List.findIdx?_cons,Bool.false_eq_true,if_false]
   have hg : aget (p :: m) x default = aget m x default := by simp [aget,hx]
   rw [hg]
   cases m.findIdx? (fun p => decide (x = p.1)) <;> simp;omega
theorem aget_none {x : κ} {z : Value} (h : m.findIdx? (fun p => decide (x = p.1)) = none) : aget m x z = z ∧ ahas m x = false := by
 rw [List.findIdx?_eq_none_iff] at h
 have h1 : m.find? (fun p => decide (x = p.1)) = none := by rw [List.find?_eq_none];intro p hp;rw [h p hp];simp
 refine ⟨by simp [aget,h1],?_⟩
 rw [ahas,List.any_eq_false]
 intro p hp;rw [h p hp];simp
theorem aget_some {x : κ} {z z' : Value} {j : Nat} (h : m.findIdx? (fun p => decide (x = p.1)) = some j) : aget m x z = aget m x z' ∧ ahas m x = true := by
 have h1 : (m.findIdx? (fun p => decide (x = p.1))).isSome = true := by rw [h];rfl
 rw [List.findIdx?_isSome] at h1
 refine ⟨?_,h1⟩
 have h2 : (m.find? (fun p => decide (x = p.1))).isSome = true := by rw [List.find?_isSome];simpa using h1
 unfold aget
 cases hf : m.find? (fun p => decide (x = p.1))
 ·rw [hf] at h2;cases h2
 ·rfl
theorem run_look (KT : KeyTy P k kv) (ht : P.underlying t = some (.map k e)) (hm : MapAt w b kv m) {z : Value} (hz : (zeroValue e).run P w = .ok z w) (x : κ) :
  (Instr.lookup t (.map (some b)) (kv x) false).run P w = .ok (aget m x z) w := by
 obtain ⟨es,clock,hb,hes⟩ := hm
 obtain ⟨d,hd,hs⟩ := KT.under
 have hf := findNow_eq hs x es.toList m 0 hes
 cases hi : m.findIdx? (fun p => decide (x = p.1)) with
 | none =>
  rw [hi] at hf
  rw [(aget_none hi).1]
  simp [Instr.lookup,run_underlying ht,run_underlying hd,getObj,Sem.run,hb,KT.check,Instr.findKey,hf,hz]
 | some j =>
  rw [hi] at hf
  rw [(aget_some (z' := default) hi).1]
  simp [Instr.lookup,run_underlying ht,run_underlying hd,getObj,Sem.run,hb,KT.check,Instr.findKey,hf]
theorem run_look_ok (KT : KeyTy P k kv) (ht : P.underlying t = some (.map k e)) (hm : MapAt w b kv m) {z : Value} (hz : (zeroValue e).run P w = .ok z w) (x : κ) :
  (Instr.lookup t (.map (some b)) (kv x) true).run P w = .ok (.tuple #[aget m x z,.bool (ahas m x)]) w := by
 obtain ⟨es,clock,hb,hes⟩ := hm
 obtain ⟨d,hd,hs⟩ := KT.under
 have hf := findNow_eq hs x es.toList m 0 hes
 cases hi : m.findIdx? (fun p => decide (x = p.1)) with
 | none =>
  rw [hi] at hf
  rw [(aget_none hi).1,(aget_none (z := z) hi).2]
  simp [Instr.lookup,run_underlying ht,run_underlying hd,getObj,Sem.run,hb,KT.check,Instr.findKey,hf,hz]
 | some j =>
  rw [hi] at hf
  rw [(aget_some (z' := default) hi).1,(aget_some (z := z) (z' := z) hi).2]
  simp [Instr.lookup,run_underlying ht,run_underlying hd,getObj,Sem.run,hb,KT.check,Instr.findKey,hf]
theorem aput_none (v : Value) (x : κ) : ∀ m : List (κ × Value),m.findIdx? (fun p => decide (x = p.1)) = none → aput m x v = m ++ [(x,v)]
 | [],_ => rfl
 | p :: m,h => by
  rw [List.findIdx?_cons] at h
  by_cases hx : x = p.1
  ·simp [hx] at h
  ·simp [hx] at h
   simp [aput,hx,aput_none v x m (by rw [List.findIdx?_eq_none_iff];intro q hq;simpa using h _ _ hq)]
theorem aput_some (v : Value) (x : κ) : ∀ (m : List (κ × Value)) (j : Nat),m.findIdx? (fun p => decide (x = p.1)) = some j → aput m x v = m.modify j (fun _ => (x,v)) ∧ (m[j]?).map (·.1) = some x
 | [],_,h => by simp at h
 | p :: m,j,h => by
  rw [List.findIdx?_cons] at h
  by_cases hx : x = p.1
  ·simp [hx] at h
   subst h
   simp [aput,hx]
  ·simp only [hx,decide_false,Bool.false_eq_true,if_false,Option.map_eq_some_iff] at h
   obtain ⟨i,hi,rfl⟩ := h
   have ih := aput_some v x m i hi
   simp [aput,hx,ih.1,ih.2]
end
end Go.Proofs.YtjpaaaecbgmcgaaGreatDoor
namespace Go.Proofs.YtjpaaaecbgmcgaaGreatDoor.Ev
open Go.RowKit
noncomputable section
def prun {α : Type} (P : Program) : Sem α → Option α
 | .pure a => some a
 | .program k => prun P (k P)
 | .load _ _ _ | .store _ _ _ _ | .new _ _ | .shape _ _ | .freeze _ _ _ | .frozen _ _ | .getObj _ _ | .setObj _ _ _ | .choose _ _ | .sys _ _ | .mark _ _ | .halt _ => none
theorem prun_run {α : Type} {P : Program} (w : World) : ∀ (e : Sem α) {a : α},prun P e = some a → e.run P w = .ok a w
 | .pure x,a,h => by simp only [prun,Option.some.injEq] at h;subst h;simp [Sem.run]
 | .program k,a,h => by
  simp only [prun] at h
  simp only [Sem.run]
  exact prun_run w (k P) h
 | .load _ _ _,a,h => by simp [prun] at h
 | .store _ _ _ _,a,h => by simp [prun] at h
 | .new _ _,a,h => by simp [prun] at h
 | .shape _ _,a,h => by simp [prun] at h
 | .freeze _ _ _,a,h => by simp [prun] at h
 | .frozen _ _,a,h => by simp [prun] at h
 | .getObj _ _,a,h => by simp [prun] at h
 | .setObj _ _ _,a,h => by simp [prun] at h
 | .choose _ _,a,h => by simp [prun] at h
 | .sys _ _,a,h => by simp [prun] at h
 | .mark _ _,a,h => by simp [prun] at h
 | .halt _,a,h => by simp [prun] at h
def rhoV (tm : Tr) (x : Operand) : Value := match evS tm x with
 | some s => match toV s with
  | some v => v
  | none => undef
 | none => undef
def plainX (tm : Tr) (x : Operand) : Bool := match evS tm x with
 | some s => (toV s).isSome
 | none => false
def noSel : Op → Bool
 | .select _ _ => false
 | _ => true
def evP (P : Program) (op : Op) (ty : TypeId) (tm : Tr) : Option S :=
 match noSel op && op.operands.toList.all (plainX tm) with
 | true => match prun P (execOp (rhoV tm) ⟨none, op, ty, "", #[], none⟩) with
  | some (.value v) => some (.v v)
  | _ => none
 | false => none
section
variable {P : Program} {T : List (Nat × Ty)} [hT : Tys P T] {z : Fz} {fz : List (Nat × List Value)} {nt : Nt} {st : St} {tm : List (Nat × Value)} {hp : List (Nat × Hb)} {ρ : Env} {ty : TypeId} {pos : String} {af : Array Edge} {gd : Option (Nat × Bool)} {d : Option Tmp}
omit hT in
theorem plain_ev (g : G st tm hp ρ) {x : Operand} (h : plainX st.tm x = true) {a : Act} (ha : Slt nt tm a) : a.eval x = rhoV st.tm x := by
 unfold plainX at h
 unfold rhoV
 cases hx : evS st.tm x with
 | none => rw [hx] at h;cases h
 | some s =>
  rw [hx] at h
  dsimp only at h
  cases hv : toV s with
  | none => rw [hv] at h;cases h
  | some v =>
   obtain ⟨u,h1,h2⟩ := g.ev hx
   have e1 : a.eval x = u := ha.ev h1
   rw [e1,toV_den hv h2]
   dsimp only
   rw [hv]
omit hT in
theorem evP_ok (g : G st tm hp ρ) {op : Op} {s : S} {h : Hs} (hy : evP P op ty st.tm = some s) : ∃ v,Yd P nt ⟨d,op,ty,pos,af,gd⟩ tm h v ∧ Den ρ s v := by
 unfold evP at hy
 split at hy
 ·rename_i hb
  rw [Bool.and_eq_true] at hb
  split at hy
  ·rename_i v hv
   injection hy with hy
   subst hy
   refine ⟨v,⟨fun a w ha hw => ?_⟩,rfl⟩
   have h1 := prun_run w _ hv
   have h2 : execOp a.eval ⟨d,op,ty,pos,af,gd⟩ = execOp (rhoV st.tm) ⟨d,op,ty,pos,af,gd⟩ := execOp_congr _ (fun cs b e => by have e : op = _ := e;subst e;simp [noSel] at hb) fun x hx => plain_ev g (List.all_eq_true.1 hb.2 x (by simpa using hx)) ha
   rw [h2]
   exact h1
  ·cases hy
 ·cases hy
def ldI (fz : List (Nat × List Value)) (hp : List (Nat × O)) (ag : Bool) (sz : Nat) (s : S) : Option S := match s with
  | .p id off => match hk id hp with
   | some (.c _ _ cs) => match ag with
    | false => nth cs off
    | true => match cutS cs off sz with
     | some r => some (.a r)
     | none => none
   | _ => none
  | .v (.pointer (some ⟨b,off,none⟩)) => match lk b fz with
   | some cs => match ag with
    | false => match nth cs off with
     | some v => some (.v v)
     | none => none
    | true => none
   | none => none
  | _ => none
def ldS (T : List (Nat × Ty)) (fz : List (Nat × List Value)) (hp : List (Nat × O)) (t : TypeId) (s : S) : Option S := match lk t T with
 | none => none
 | some i => ldI fz hp i.k.agg i.size s
theorem ldS_ok (g : G st tm hp ρ) (hz : FzOk z fz) {t : TypeId} {x : Operand} {q s : S} (hx : evS st.tm x = some q) (hy : ldS T fz st.hp t q = some s) : ∃ v,Yd P nt ⟨d,.load t x,ty,pos,af,gd⟩ tm ⟨z.F,z.w0,hp⟩ v ∧ Den ρ s v := by
 obtain ⟨u,h1,h2⟩ := g.ev hx
 unfold ldS at hy
 cases ht : lk t T with
 | none => rw [ht] at hy;cases hy
 | some i =>
  rw [ht] at hy
  dsimp only at hy
  unfold ldI at hy
  split at hy
  ·rename_i id off
   split at hy
   ·rename_i ct ces cs hl
    obtain ⟨e,hb,q1,q2,q3⟩ := g.hp.at_ hl
    obtain ⟨us,r1,r2,r3,r4⟩ := q2
    obtain ⟨e',k1,rfl⟩ := h2
    rw [q1] at k1;injection k1 with k1;subst k1
    split at hy
    ·rename_i ha
     obtain ⟨v,v1,v2⟩ := r1.get hy
     exact ⟨v,Yd.load1 h1 ht ha (CellA.own q3 (by rw [r3,nth_eq];exact v1)),v2⟩
    ·rename_i ha
     split at hy
     ·rename_i r hc
      injection hy with hy
      subst hy
      obtain ⟨vs,v1,v2,v3,v4⟩ := r1.cut hc
      exact ⟨_,Yd.loadn h1 ht ha (CellsA.own q3 (by rw [r3];exact v3)) (by rw [v1.len,v2]),⟨vs,v1,rfl⟩⟩
     ·cases hy
   ·cases hy
  ·rename_i b off
   have h2 : u = _ := h2
   subst h2
   split at hy
   ·rename_i cs hl
    obtain ⟨f1,f2⟩ := hz _ _ hl
    split at hy
    ·rename_i ha
     split at hy
     ·rename_i v hn
      injection hy with hy
      subst hy
      rw [nth_eq] at hn
      exact ⟨v,Yd.load1 h1 ht ha (CellA.frz f1 (f2 _ _ hn)),rfl⟩
     ·cases hy
    ·cases hy
   ·cases hy
  ·cases hy
def faS (T : List (Nat × Ty)) (t : TypeId) (f : Nat) (id off : Nat) : Option S := match lk t T with
 | some ⟨.st fs,_,_,_⟩ => match nth fs f with
  | some (o,ft) => match lk ft T with
   | some j => match Nat.beq j.size 0 with
    | false => some (.p id (off + o))
    | true => none
   | none => none
  | none => none
 | _ => none
theorem faS_ok (g : G st tm hp ρ) {h : Hs} {t f id off : Nat} {x : Operand} {s : S} (hx : evS st.tm x = some (.p id off)) (hy : faS T t f id off = some s) : ∃ v,Yd P nt ⟨d,.fieldAddr t x f,ty,pos,af,gd⟩ tm h v ∧ Den ρ s v := by
 obtain ⟨u,h1,e,k1,rfl⟩ := g.ev hx
 unfold faS at hy
 split at hy
 ·rename_i fs _ _ _ ht
  split at hy
  ·rename_i o ft hf
   split at hy
   ·rename_i j hj
    split at hy
    ·rename_i hz0
     injection hy with hy
     subst hy
     exact ⟨_,Yd.fieldAddr h1 ht rfl hf hj hz0,⟨e,k1,rfl⟩⟩
    ·cases hy
   ·cases hy
  ·cases hy
 ·cases hy
def iaS (T : List (Nat × Ty)) (t : TypeId) (q : S) (n : Int) : Option S := match n with
 | .ofNat m => match q with
  | .sl id off len _ => match Nat.blt m len with
   | true => match lk t T with
    | some ⟨.sl e,_,_,_⟩ => match lk e T with
     | some j => some (.p id (off + m * j.size))
     | none => none
    | _ => none
   | false => none
  | .p id off => match lk t T with
   | some ⟨.ar an e,_,_,_⟩ => match Nat.blt m an with
    | true => match lk e T with
     | some j => some (.p id (off + m * j.size))
     | none => none
    | false => none
   | _ => none
  | _ => none
 | .negSucc _ => none
theorem iaS_ok (g : G st tm hp ρ) {h : Hs} {t : Nat} {k : IntKind} {n : Int} {q s : S} {x ix : Operand} (hx : evS st.tm x = some q) (hi : evS st.tm ix = some (.v (.int k n))) (hy : iaS T t q n = some s) : ∃ v,Yd P nt ⟨d,.indexAddr t x ix,ty,pos,af,gd⟩ tm h v ∧ Den ρ s v := by
 obtain ⟨u,h1,h2⟩ := g.ev hx
 obtain ⟨u',i1,i2⟩ := g.ev hi
 have i2 : u' = _ := i2
 subst i2
 unfold iaS at hy
 split at hy
 ·rename_i m
  split at hy
  ·rename_i id off len ce
   obtain ⟨e,k1,k2,k3,rfl⟩ := h2
   split at hy
   ·rename_i hb
    split at hy
    ·rename_i el _ _ _ ht
     split at hy
     ·rename_i j hj
      injection hy with hy
      subst hy
      obtain ⟨jk,js,jb,jz⟩ := j
      exact ⟨_,Yd.indexNat h1 i1 ht rfl hj (by simpa using hb),⟨e,k1,rfl⟩⟩
     ·cases hy
    ·cases hy
   ·cases hy
  ·rename_i id off
   obtain ⟨e,k1,rfl⟩ := h2
   split at hy
   ·rename_i an el _ _ _ ht
    split at hy
    ·rename_i hb
     split at hy
     ·rename_i j hj
      injection hy with hy
      subst hy
      exact ⟨_,Yd.indexA h1 i1 ht rfl hj (by simpa using hb),⟨e,k1,rfl⟩⟩
     ·cases hy
    ·cases hy
   ·cases hy
  ·cases hy
 ·cases hy
def fldS (T : List (Nat × Ty)) (t : TypeId) (f : Nat) (l : List S) : Option S := match lk t T with
 | some ⟨.st fs,_,_,_⟩ => match nth fs f with
  | some (o,ft) => match lk ft T with
   | some j => match j.k.agg with
    | false => nth l o
    | true => match cutS l o j.size with
     | some r => some (.a r)
     | none => none
   | none => none
  | none => none
 | _ => none
theorem fldS_ok (g : G st tm hp ρ) {h : Hs} {t f : Nat} {x : Operand} {l : List S} {s : S} (hx : evS st.tm x = some (.a l)) (hy : fldS T t f l = some s) : ∃ v,Yd P nt ⟨d,.field t x f,ty,pos,af,gd⟩ tm h v ∧ Den ρ s v := by
 obtain ⟨u,h1,us,k1,rfl⟩ := g.ev hx
 unfold fldS at hy
 split at hy
 ·rename_i fs _ _ _ ht
  split at hy
  ·rename_i o ft hf
   split at hy
   ·rename_i j hj
    split at hy
    ·rename_i ha
     obtain ⟨v,v1,v2⟩ := k1.get hy
     exact ⟨v,Yd.field1 h1 ht rfl hf hj ha (by rw [nth_eq];simpa using v1),v2⟩
    ·rename_i ha
     split at hy
     ·rename_i r hc
      injection hy with hy
      subst hy
      obtain ⟨vs,v1,v2,v3,v4⟩ := k1.cut hc
      exact ⟨_,Yd.fieldN h1 ht rfl hf hj ha (by rw [v1.len,v2]) v3,⟨vs,v1,rfl⟩⟩
     ·cases hy
   ·cases hy
  ·cases hy
 ·cases hy
def evSL (tm : Tr) : List Operand → Option (List S)
 | [] => some []
 | x :: l => match evS tm x with
  | none => none
  | some s => match evSL tm l with
   | none => none
   | some r => some (s :: r)
omit hT in
theorem evSL_ok (g : G st tm hp ρ) : ∀ {xs : List Operand} {l : List S},evSL st.tm xs = some l → ∃ us,ArgsL tm xs us ∧ DenL ρ l us
 | [],l,h => by simp only [evSL,Option.some.injEq] at h;subst h;exact ⟨[],.nil,rfl⟩
 | x :: r,l,h => by
  simp only [evSL] at h
  split at h
  ·cases h
  ·rename_i s hs
   split at h
   ·cases h
   ·rename_i r' hr
    injection h with h
    subst h
    obtain ⟨u,q1,q2⟩ := g.ev hs
    obtain ⟨us,q3,q4⟩ := evSL_ok g hr
    exact ⟨u :: us,.cons q1 q3,u,us,q2,q4,rfl⟩
def prtS (tm : Tr) : List (Nat × Operand) → Option (List (Nat × List S))
 | [] => some []
 | (i,x) :: l => match evS tm x with
  | none => none
  | some s => match cellsS s with
   | none => none
   | some cs => match prtS tm l with
    | none => none
    | some r => some ((i,cs) :: r)
def fillS (place : Nat → Option (Nat × Nat)) : List S → List (Nat × List S) → Option (List S)
 | cells,[] => some cells
 | cells,(i,cs) :: rest => match place i with
  | none => none
  | some (off,size) => match Nat.beq cs.length size && Nat.ble (off + cs.length) cells.length with
   | true => fillS place (splS cells off cs) rest
   | false => none
inductive PDen (ρ : Env) : List (Nat × List S) → List (Nat × Value) → Prop
 | nil : PDen ρ [] []
 | cons {i : Nat} {cs : List S} {v : Value} {r : List (Nat × List S)} {q : List (Nat × Value)} : DenL ρ cs (vcells v) → PDen ρ r q → PDen ρ ((i,cs) :: r) ((i,v) :: q)
omit hT in
theorem prtS_ok (g : G st tm hp ρ) : ∀ {ps : List (Nat × Operand)} {l : List (Nat × List S)},prtS st.tm ps = some l → ∃ vs,PartsL tm ps vs ∧ PDen ρ l vs
 | [],l,h => by simp only [prtS,Option.some.injEq] at h;subst h;exact ⟨[],.nil,.nil⟩
 | (i,x) :: r,l,h => by
  simp only [prtS] at h
  split at h
  ·cases h
  ·rename_i s hs
   split at h
   ·cases h
   ·rename_i cs hc
    split at h
    ·cases h
    ·rename_i r' hr
     injection h with h
     subst h
     obtain ⟨u,q1,q2⟩ := g.ev hs
     obtain ⟨us,q3,q4⟩ := prtS_ok g hr
     exact ⟨(i,u) :: us,.cons q1 q3,.cons (cellsS_den hc q2) q4⟩
omit hT in
theorem fillS_ok {place : Nat → Option (Nat × Nat)} : ∀ {l : List (Nat × List S)} {vs : List (Nat × Value)} {cells : List S} {us : List Value} {r : List S},PDen ρ l vs → DenL ρ cells us → fillS place cells l = some r → ∃ ws,fillV place us vs = some ws ∧ DenL ρ r ws
 | _,_,cells,us,r,.nil,hc,h => by simp only [fillS,Option.some.injEq] at h;subst h;exact ⟨us,by simp [fillV],hc⟩
 | _,_,cells,us,r,.cons (i := i) (cs := cs) (v := v) h1 h2,hc,h => by
  simp only [fillS] at h
  split at h
  ·cases h
  ·rename_i off size hp
   split at h
   ·rename_i hb
    rw [Bool.and_eq_true] at hb
    have e1 := Nat.eq_of_beq_eq_true hb.1
    have e2 : off + cs.length ≤ cells.length := by simpa using hb.2
    obtain ⟨ws,q1,q2⟩ := fillS_ok h2 (hc.over h1 (o := off)) h
    refine ⟨ws,?_,q2⟩
    have l1 := h1.len
    have l2 := hc.len
    simp only [fillV,hp]
    rw [← q1]
    have hc2 : (Nat.beq (vcells v).length size && Nat.ble (off + (vcells v).length) us.length) = true := by rw [l1,l2,Bool.and_eq_true];exact hb
    rw [hc2]
    rfl
   ·cases h
def bldS (T : List (Nat × Ty)) (tm : Tr) (t : TypeId) (ps : List (Nat × Operand)) : Option S := match lk t T with
 | some ⟨.st fs,_,_,z⟩ => match szs T fs with
  | some pl => match prtS tm ps with
   | some l => match fillS (nth pl) (z.map .v) l with
    | some r => some (.a r)
    | none => none
   | none => none
  | none => none
 | some ⟨.ar _ e,_,_,z⟩ => match lk e T with
  | some j => match prtS tm ps with
   | some l => match fillS (arPl j.size) (z.map .v) l with
    | some r => some (.a r)
    | none => none
   | none => none
  | none => none
 | _ => none
theorem bldS_ok (g : G st tm hp ρ) {h : Hs} {t : TypeId} {ps : Array (Nat × Operand)} {s : S} (hy : bldS T st.tm t ps.toList = some s) : ∃ v,Yd P nt ⟨d,.build t ps,ty,pos,af,gd⟩ tm h v ∧ Den ρ s v := by
 have e : ps = ps.toList.toArray := by simp
 rw [e]
 unfold bldS at hy
 split at hy
 ·rename_i fs _ _ zz ht
  split at hy
  ·rename_i pl hs
   split at hy
   ·rename_i l hl
    split at hy
    ·rename_i r hr
     injection hy with hy
     subst hy
     obtain ⟨vs,q1,q2⟩ := prtS_ok g hl
     obtain ⟨ws,r1,r2⟩ := fillS_ok q2 (denL_v (ρ := ρ) zz) hr
     exact ⟨_,Yd.build ht rfl hs q1 r1,⟨ws,r2,rfl⟩⟩
    ·cases hy
   ·cases hy
  ·cases hy
 ·rename_i an el _ _ zz ht
  split at hy
  ·rename_i j hj
   split at hy
   ·rename_i l hl
    split at hy
    ·rename_i r hr
     injection hy with hy
     subst hy
     obtain ⟨vs,q1,q2⟩ := prtS_ok g hl
     obtain ⟨ws,r1,r2⟩ := fillS_ok q2 (denL_v (ρ := ρ) zz) hr
     exact ⟨_,Yd.buildA ht rfl hj q1 r1,⟨ws,r2,rfl⟩⟩
    ·cases hy
   ·cases hy
  ·cases hy
 ·cases hy
def bndS (tm : Tr) (dflt : Nat) : Option Operand → Option Nat
 | none => some dflt
 | some y => match evS tm y with
  | some (.v (.int _ (.ofNat n))) => some n
  | _ => none
omit hT in
theorem bndS_ok (g : G st tm hp ρ) {dflt n : Nat} {o : Option Operand} (h : bndS st.tm dflt o = some n) : (o = none ∧ n = dflt) ∨ ∃ y k,o = some y ∧ ev tm y = some (.int k (n : Int)) := by
 unfold bndS at h
 split at h
 ·injection h with h;exact .inl ⟨rfl,h.symm⟩
 ·rename_i y
  split at h
  ·rename_i k m hy
   injection h with h
   subst h
   obtain ⟨u,h1,h2⟩ := g.ev hy
   have h2 : u = _ := h2
   subst h2
   exact .inr ⟨y,k,rfl,h1⟩
  ·cases h
def slcS (T : List (Nat × Ty)) (tm : Tr) (t : TypeId) (lo hi : Option Operand) (id off len ce : Nat) : Option S := match lk t T with
 | some ⟨.sl e,_,_,_⟩ => match lk e T with
  | some j => match bndS tm 0 lo with
   | some l => match bndS tm len hi with
    | some m => match Nat.ble l m && Nat.ble m len && (Nat.blt l m || Nat.beq l 0) with
     | true => some (.sl id (off + l * j.size) (m - l) (ce + l))
     | false => none
    | none => none
   | none => none
  | none => none
 | _ => none
theorem slcS_ok (g : G st tm hp ρ) {h : Hs} {t id off len ce : Nat} {x : Operand} {lo hi : Option Operand} {s : S} (hx : evS st.tm x = some (.sl id off len ce)) (hy : slcS T st.tm t lo hi id off len ce = some s) : ∃ v,Yd P nt ⟨d,.slice t x lo hi none,ty,pos,af,gd⟩ tm h v ∧ Den ρ s v := by
 obtain ⟨u,h1,e,k1,k2,k3,rfl⟩ := g.ev hx
 unfold slcS at hy
 split at hy
 ·rename_i el _ _ _ ht
  split at hy
  ·rename_i j hj
   split at hy
   ·rename_i l hl
    split at hy
    ·rename_i m hm
     split at hy
     ·rename_i hb
      injection hy with hy
      subst hy
      obtain ⟨jk,js,jb,jz⟩ := j
      simp only [Bool.and_eq_true,Bool.or_eq_true,Nat.ble_eq,Nat.blt_eq] at hb
      obtain ⟨⟨b1,b2⟩,b3⟩ := hb
      replace b3 := b3.imp (fun h => h) Nat.eq_of_beq_eq_true
      refine ⟨_,Yd.sliceG h1 ht rfl hj (bndS_ok g hl) (bndS_ok g hm) b1 (by omega),⟨e,k1,by omega,k3,?_⟩⟩
      have e1 : e.2 - ce - l = e.2 - (ce + l) := by omega
      rw [e1]
      congr 1
      rcases b3 with b3 | b3
      ·rw [if_neg (by omega)]
       simp only [Option.map_some]
       unfold Addr.add
       split
       ·rename_i h0;rw [h0];simp
       ·rfl
      ·subst b3
       simp [Addr.add]
     ·cases hy
    ·cases hy
   ·cases hy
  ·cases hy
 ·cases hy
def nilS (P : Program) (t : TypeId) (s s' : S) : Bool := match s,s',P.underlying t with
 | .p _ _,.v (.pointer none),some (.pointer _) => true
 | .sl _ _ _ _,.v (.slice none _ _),some (.slice _) => true
 | .m _,.v (.map none),some (.map _ _) => true
 | .f _ _ _,.v .nilFunc,some (.func _ _ _) => true
 | .fc _ _,.v .nilIface,some (.interface _) => true
 | _,_,_ => false
def eqOp : BinOp → Option Bool
 | .eql => some false
 | .neq => some true
 | _ => none
def cmpS (P : Program) (op : BinOp) (t : TypeId) (s s' : S) : Option S := match eqOp op with
 | none => none
 | some r => match nilS P t s s' || nilS P t s' s with
  | true => some (.v (.bool r))
  | false => none
omit hT in
theorem cmpS_ok (g : G st tm hp ρ) {h : Hs} {op : BinOp} {t yt : TypeId} {x y : Operand} {s s' q : S} (hx : evS st.tm x = some s) (hy : evS st.tm y = some s') (hc : cmpS P op t s s' = some q) : ∃ v,Yd P nt ⟨d,.binOp op t x y yt,ty,pos,af,gd⟩ tm h v ∧ Den ρ q v := by
 obtain ⟨u,h1,h2⟩ := g.ev hx
 obtain ⟨u',k1,k2⟩ := g.ev hy
 unfold cmpS at hc
 split at hc
 ·cases hc
 ·rename_i r hr
  split at hc
  ·rename_i hb
   injection hc with hc
   subst hc
   refine ⟨_,⟨fun a w ha hw => ?_⟩,rfl⟩
   rw [Bool.or_eq_true] at hb
   have key : ∀ (v v' : Value) (s s' : S),Den ρ s v → Den ρ s' v' → nilS P t s s' = true → (eqGuard op t x y v v').run P w = .ok () w ∧ (eqGuard op t x y v' v).run P w = .ok () w ∧ (binOp op t v v').run P w = .ok (.bool r) w ∧ (binOp op t v' v).run P w = .ok (.bool r) w := by
    intro v v' s s' d1 d2 hn
    have fin : ∀ (v v' : Value),(∀ o : BinOp,(o = .eql ∨ o = .neq) → (eqGuard o t x y v v').run P w = .ok () w) → (binOp .eql t v v' = (do pure (.bool (← Op.equal t v v')))) → (binOp .neq t v v' = (do pure (.bool (!(← Op.equal t v v'))))) → (Op.equalIn (9999 + 1) t v v').run P w = .ok false w → (eqGuard op t x y v v').run P w = .ok () w ∧ (binOp op t v v').run P w = .ok (.bool r) w := by
     intro v v' a1 a2 a3 a4
     have a5 : (Op.equal t v v').run P w = .ok false w := a4
     cases op <;> simp only [eqOp] at hr <;> first | (cases hr;done) | skip
     ·injection hr with hr;subst hr
      exact ⟨a1 _ (.inl rfl),by rw [a2];simp only [Sem.run_bind,a5,Result.andThen_ok,Sem.run_pure]⟩
     ·injection hr with hr;subst hr
      exact ⟨a1 _ (.inr rfl),by rw [a3];simp only [Sem.run_bind,a5,Result.andThen_ok,Sem.run_pure];rfl⟩
    have both : ∀ (v v' : Value),(∀ o : BinOp,(o = .eql ∨ o = .neq) → (eqGuard o t x y v v').run P w = .ok () w ∧ (eqGuard o t x y v' v).run P w = .ok () w) → (binOp .eql t v v' = (do pure (.bool (← Op.equal t v v')))) ∧ (binOp .neq t v v' = (do pure (.bool (!(← Op.equal t v v'))))) ∧ (binOp .eql t v' v = (do pure (.bool (← Op.equal t v' v)))) ∧ (binOp .neq t v' v = (do pure (.bool (!(← Op.equal t v' v))))) → (Op.equalIn (9999 + 1) t v v').run P w = .ok false w ∧ (Op.equalIn (9999 + 1) t v' v).run P w = .ok false w → (eqGuard op t x y v v').run P w = .ok () w ∧ (eqGuard op t x y v' v).run P w = .ok () w ∧ (binOp op t v v').run P w = .ok (.bool r) w ∧ (binOp op t v' v).run P w = .ok (.bool r) w := by
     intro v v' b1 b2 b3
     obtain ⟨c1,c2⟩ := fin v v' (fun o ho => (b1 o ho).1) b2.1 b2.2.1 b3.1
     obtain ⟨d1,d2⟩ := fin v' v (fun o ho => (b1 o ho).2) b2.2.2.1 b2.2.2.2 b3.2
     exact ⟨c1,d1,c2,d2⟩
    unfold nilS at hn
    split at hn
    ·rename_i hu
     obtain ⟨e,_,rfl⟩ := d1
     have d2 : v' = _ := d2
     subst d2
     refine both _ _ (fun o ho => by rcases ho with rfl | rfl <;> exact ⟨rfl,rfl⟩) ⟨rfl,rfl,rfl,rfl⟩ ⟨?_,?_⟩ <;> (unfold Op.equalIn;simp only [Sem.run_bind,run_underlying hu,Result.andThen_ok];rfl)
    ·rename_i hu
     obtain ⟨e,_,_,_,rfl⟩ := d1
     have d2 : v' = _ := d2
     subst d2
     refine both _ _ (fun o ho => by rcases ho with rfl | rfl <;> exact ⟨rfl,rfl⟩) ⟨rfl,rfl,rfl,rfl⟩ ⟨?_,?_⟩ <;> (unfold Op.equalIn;simp only [Sem.run_bind,run_underlying hu,Result.andThen_ok];rfl)
    ·rename_i hu
     obtain ⟨e,_,rfl⟩ := d1
     have d2 : v' = _ := d2
     subst d2
     refine both _ _ (fun o ho => by rcases ho with rfl | rfl <;> exact ⟨rfl,rfl⟩) ⟨rfl,rfl,rfl,rfl⟩ ⟨?_,?_⟩ <;> (unfold Op.equalIn;simp only [Sem.run_bind,run_underlying hu,Result.andThen_ok];rfl)
    ·rename_i hu
     obtain ⟨ws,us,_,_,rfl⟩ := d1
     have d2 : v' = _ := d2
     subst d2
     refine both _ _ (fun o ho => by rcases ho with rfl | rfl <;> exact ⟨rfl,rfl⟩) ⟨rfl,rfl,rfl,rfl⟩ ⟨?_,?_⟩ <;> (unfold Op.equalIn;simp only [Sem.run_bind,run_underlying hu,Result.andThen_ok];rfl)
    ·rename_i hu
     obtain ⟨e,_,rfl⟩ := d1
     have d2 : v' = _ := d2
     subst d2
     refine both _ _ (fun o ho => by rcases ho with rfl | rfl <;> exact ⟨rfl,rfl⟩) ⟨rfl,rfl,rfl,rfl⟩ ⟨?_,?_⟩ <;> (unfold Op.equalIn;simp only [Sem.run_bind,run_underlying hu,Result.andThen_ok];rfl)
    ·cases hn
   rcases hb with hb | hb
   ·obtain ⟨e1,_,e3,_⟩ := key u u' s s' h2 k2 hb
    simp only [execOp,ha.ev h1,ha.ev k1,Sem.run_bind,e1,e3,Result.andThen_ok,Sem.run_pure]
   ·obtain ⟨_,e2,_,e4⟩ := key u' u s' s k2 h2 hb
    simp only [execOp,ha.ev h1,ha.ev k1,Sem.run_bind,e2,e4,Result.andThen_ok,Sem.run_pure]
  ·cases hc
def lenS (T : List (Nat × Ty)) (hp : List (Nat × O)) (t : TypeId) (s : S) : Option S := match s with
 | .sl _ _ len _ => match lk t T with
  | some ⟨.sl _,_,_,_⟩ => some (.v (.int .i64 (len : Int)))
  | _ => none
 | .m id => match lk t T with
  | some ⟨.mp _ _,_,_,_⟩ => match hk id hp with
   | some (.m l) => some (.v (.int .i64 (l.length : Int)))
   | _ => none
  | _ => none
 | _ => none
theorem lenS_ok (g : G st tm hp ρ) {t : TypeId} {x : Operand} {s q : S} (hx : evS st.tm x = some s) (hy : lenS T st.hp t s = some q) : ∃ v,Yd P nt ⟨d,.call ⟨.builtin .len,#[x],#[t]⟩,ty,pos,af,gd⟩ tm ⟨z.F,z.w0,hp⟩ v ∧ Den ρ q v := by
 obtain ⟨u,h1,h2⟩ := g.ev hx
 unfold lenS at hy
 split at hy
 ·obtain ⟨e,k1,k2,k3,rfl⟩ := h2
  split at hy
  ·rename_i el _ _ _ ht
   injection hy with hy
   subst hy
   exact ⟨_,Yd.len h1 ht rfl,rfl⟩
  ·cases hy
 ·rename_i id
  obtain ⟨e,k1,rfl⟩ := h2
  split at hy
  ·rename_i kt et _ _ _ ht
   split at hy
   ·rename_i l hl
    injection hy with hy
    subst hy
    refine ⟨_,⟨fun a w ha hw => ?_⟩,rfl⟩
    obtain ⟨e',hb,q1,q2,q3⟩ := g.hp.at_ hl
    rw [k1] at q1;injection q1 with q1;subst q1
    have q2 : hb = _ := q2
    subst q2
    obtain ⟨_,arr,clock,r1,r2,_⟩ := hw.blk _ _ q3.mem
    have hu := (hT.ok t _ ht).kind
    have hu : P.underlying t = some (.map kt et) := hu
    have hl2 : arr.size = l.length := by
     have := congrArg List.length r2
     simpa [strL] using this
    simp [execOp,resolve,invoke,builtin,Builtin.len_,ha.ev h1,run_underlying hu,getObj,Sem.run,r1,goInt,hl2]
   ·cases hy
  ·cases hy
 ·cases hy
def getB : List (ByteArray × Value) → ByteArray → Option Value
 | [],_ => none
 | (k,v) :: l,x => match x == k with
  | true => some v
  | false => getB l x
omit hT in
theorem getB_eq (x : ByteArray) (z : Value) : ∀ (l : List (ByteArray × Value)),aget l x z = (getB l x).getD z ∧ ahas l x = (getB l x).isSome
 | [] => by simp [aget,ahas,getB]
 | (k,v) :: l => by
  obtain ⟨h1,h2⟩ := getB_eq x z l
  simp only [getB]
  rw [bytes_beq]
  by_cases hx : x = k
  ·subst hx;simp [aget,ahas]
  ·simp only [hx,decide_false]
   refine ⟨?_,?_⟩
   ·rw [← h1];simp [aget,hx]
   ·rw [← h2];simp [ahas,hx]
def lokS (P : Program) (hp : List (Nat × O)) (t : TypeId) (id : Nat) (key : ByteArray) (ok : Bool) : Option S := match P.underlying t with
 | some (.map kt et) => match P.underlying kt,prun P (zeroValue et),hk id hp with
  | some .string,some zv,some (.m l) => match ok with
   | true => some (.t [.v ((getB l key).getD zv),.v (.bool (getB l key).isSome)])
   | false => some (.v ((getB l key).getD zv))
  | _,_,_ => none
 | _ => none
omit hT in
theorem lokS_ok (g : G st tm hp ρ) {t id : Nat} {x ix : Operand} {key : ByteArray} {ok : Bool} {q : S} (hx : evS st.tm x = some (.m id)) (hi : evS st.tm ix = some (.v (.string key))) (hy : lokS P st.hp t id key ok = some q) : ∃ v,Yd P nt ⟨d,.lookup t x ix ok,ty,pos,af,gd⟩ tm ⟨z.F,z.w0,hp⟩ v ∧ Den ρ q v := by
 obtain ⟨u,h1,e,k1,rfl⟩ := g.ev hx
 obtain ⟨u',i1,i2⟩ := g.ev hi
 have i2 : u' = _ := i2
 subst i2
 unfold lokS at hy
 split at hy
 ·rename_i kt et ht
  split at hy
  ·rename_i zv l hk hz0 hl
   obtain ⟨e',hb,q1,q2,q3⟩ := g.hp.at_ hl
   rw [k1] at q1;injection q1 with q1;subst q1
   have q2 : hb = _ := q2
   subst q2
   have KT := keyTy_string hk
   have hm : ∀ w,Hp ⟨z.F,z.w0,hp⟩ w → MapAt w e.1 Value.string l := fun w hw => by
    obtain ⟨_,arr,clock,r1,r2,_⟩ := hw.blk _ _ q3.mem
    exact ⟨arr,clock,r1,r2⟩
   obtain ⟨a1,a2⟩ := getB_eq key zv l
   split at hy
   ·injection hy with hy
    subst hy
    refine ⟨_,⟨fun a w ha hw => ?_⟩,⟨[_,_],⟨_,_,rfl,⟨_,_,rfl,rfl,rfl⟩,rfl⟩,rfl⟩⟩
    have := run_look_ok KT ht (hm w hw) (prun_run w _ hz0) key
    rw [a1,a2] at this
    simp [execOp,ha.ev h1,ha.ev i1,this]
   ·injection hy with hy
    subst hy
    refine ⟨_,⟨fun a w ha hw => ?_⟩,rfl⟩
    have := run_look KT ht (hm w hw) (prun_run w _ hz0) key
    rw [a1] at this
    simp [execOp,ha.ev h1,ha.ev i1,this]
  ·cases hy
 ·cases hy
def isFn : Fn → Bool
 | .func _ => true
 | _ => false
def evY (P : Program) (T : List (Nat × Ty)) (fz : List (Nat × List Value)) (op : Op) (ty : TypeId) (tm : Tr) (hp : List (Nat × O)) : Option S := match op with
 | .move x | .assign x => evS tm x
 | .pick c x y => match evS tm c with
  | some (.v (.bool true)) => match evS tm y with
   | some _ => evS tm x
   | none => none
  | some (.v (.bool false)) => match evS tm x with
   | some _ => evS tm y
   | none => none
  | _ => none
 | .load t x => match evS tm x with
  | some q => ldS T fz hp t q
  | none => none
 | .fieldAddr t x f => match evS tm x with
  | some (.p id off) => faS T t f id off
  | some _ => evP P (.fieldAddr t x f) ty tm
  | none => none
 | .indexAddr t x ix => match evS tm x with
  | some (.v _) => evP P (.indexAddr t x ix) ty tm
  | some q => match evS tm ix with
   | some (.v (.int _ n)) => iaS T t q n
   | _ => none
  | none => none
 | .extract x n => match evS tm x with
  | some (.t l) => nth l n
  | some _ => evP P (.extract x n) ty tm
  | none => none
 | .field t x f => match evS tm x with
  | some (.a l) => fldS T t f l
  | some _ => evP P (.field t x f) ty tm
  | none => none
 | .build t ps => bldS T tm t ps.toList
 | .slice t x lo hi none => match evS tm x with
  | some (.sl id off len ce) => slcS T tm t lo hi id off len ce
  | some _ => evP P (.slice t x lo hi none) ty tm
  | none => none
 | .makeFunc fn fi cs => match evSL tm fi.toList with
  | some l => match evSL tm cs.toList with
   | some r => some (.f fn l r)
   | none => none
  | none => none
 | .nilCheck x => match evS tm x with
  | some (.p id off) => some (.p id off)
  | some (.f fn l r) => match isFn fn with
   | true => some (.f fn l r)
   | false => none
  | some _ => evP P (.nilCheck x) ty tm
  | none => none
 | .binOp op t x y yt => match evS tm x with
  | some (.v v) => match evS tm y with
   | some (.v _) => evP P (.binOp op t x y yt) ty tm
   | some q => match cmpS P op t (.v v) q with
    | some r => some r
    | none => evP P (.binOp op t x y yt) ty tm
   | none => none
  | some q => match evS tm y with
   | some q' => match cmpS P op t q q' with
    | some r => some r
    | none => evP P (.binOp op t x y yt) ty tm
   | none => none
  | none => none
 | .lookup t x ix ok => match evS tm x with
  | some (.m id) => match evS tm ix with
   | some (.v (.string key)) => lokS P hp t id key ok
   | _ => none
  | _ => none
 | .call ⟨.builtin b,xs,ts⟩ => match b with
  | .len => match xs.toList,ts.toList with
   | [x],[t] => match evS tm x with
    | some (.v _) => evP P op ty tm
    | some q => lenS T hp t q
    | none => none
   | _,_ => none
  | .min | .max => evP P op ty tm
  | _ => none
 | .unOp _ _ _ | .convert _ _ _ | .makeInterface _ _ | .index _ _ _ | .typeAssert _ _ _ _ => evP P op ty tm
 | _ => none
theorem evY_ok (g : G st tm hp ρ) (hz : FzOk z fz) {op : Op} {s : S} (hy : evY P T fz op ty st.tm st.hp = some s) : ∃ v,Yd P nt ⟨d,op,ty,pos,af,gd⟩ tm ⟨z.F,z.w0,hp⟩ v ∧ Den ρ s v := by
 unfold evY at hy
 split at hy
 ·obtain ⟨u,h1,h2⟩ := g.ev hy
  exact ⟨u,.move h1,h2⟩
 ·obtain ⟨u,h1,h2⟩ := g.ev hy
  exact ⟨u,.assign h1,h2⟩
 ·rename_i c x y
  split at hy
  ·rename_i hc
   obtain ⟨uc,c1,c2⟩ := g.ev hc
   have c2 : uc = _ := c2
   subst c2
   split at hy
   ·obtain ⟨u,h1,h2⟩ := g.ev hy
    exact ⟨u,.pickT c1 rfl h1,h2⟩
   ·cases hy
  ·rename_i hc
   obtain ⟨uc,c1,c2⟩ := g.ev hc
   have c2 : uc = _ := c2
   subst c2
   split at hy
   ·obtain ⟨u,h1,h2⟩ := g.ev hy
    exact ⟨u,.pickF c1 rfl h1,h2⟩
   ·cases hy
  ·cases hy
 ·split at hy
  ·rename_i hx;exact ldS_ok g hz hx hy
  ·cases hy
 ·split at hy
  ·rename_i hx;exact faS_ok g hx hy
  ·exact evP_ok g hy
  ·cases hy
 ·split at hy
  ·exact evP_ok g hy
  ·rename_i hx
   split at hy
   ·rename_i hi;exact iaS_ok g hx hi hy
   ·cases hy
  ·cases hy
 ·split at hy
  ·rename_i l hx
   obtain ⟨u,h1,us,h2,rfl⟩ := g.ev hx
   obtain ⟨v,v1,v2⟩ := h2.get hy
   exact ⟨v,.extract h1 (by rw [nth_eq];simpa using v1),v2⟩
  ·exact evP_ok g hy
  ·cases hy
 ·split at hy
  ·rename_i hx;exact fldS_ok g hx hy
  ·exact evP_ok g hy
  ·cases hy
 ·exact bldS_ok g hy
 ·split at hy
  ·rename_i hx;exact slcS_ok g hx hy
  ·exact evP_ok g hy
  ·cases hy
 ·rename_i fn fi cs
  split at hy
  ·rename_i l hl
   split at hy
   ·rename_i r hr
    injection hy with hy
    subst hy
    obtain ⟨ws,a1,a2⟩ := evSL_ok g hl
    obtain ⟨us,b1,b2⟩ := evSL_ok g hr
    refine ⟨_,⟨fun a w ha hw => ?_⟩,⟨ws,us,a2,b2,rfl⟩⟩
    have e1 : fi.map a.eval = ws.toArray := by
     have := a1.eq ha
     rw [← this];apply Array.toList_inj.1;simp
    have e2 : cs.map a.eval = us.toArray := by
     have := b1.eq ha
     rw [← this];apply Array.toList_inj.1;simp
    simp [execOp,Instr.makeFunc,e1,e2]
   ·cases hy
  ·cases hy
 ·split at hy
  ·rename_i id off hx
   injection hy with hy
   subst hy
   obtain ⟨u,h1,e,k1,rfl⟩ := g.ev hx
   exact ⟨_,.nilCheck h1,e,k1,rfl⟩
  ·rename_i fn l r hx
   split at hy
   ·rename_i hf
    injection hy with hy
    subst hy
    obtain ⟨u,h1,ws,us,k1,k2,rfl⟩ := g.ev hx
    cases fn <;> simp only [isFn] at hf <;> first | (cases hf;done) | skip
    exact ⟨_,⟨fun a w ha hw => by simp [execOp,ha.ev h1]⟩,ws,us,k1,k2,rfl⟩
   ·cases hy
  ·exact evP_ok g hy
  ·cases hy
 ·split at hy
  ·rename_i hx
   split at hy
   ·exact evP_ok g hy
   ·rename_i hy'
    split at hy
    ·rename_i r hr
     injection hy with hy
     subst hy
     exact cmpS_ok g hx hy' hr
    ·exact evP_ok g hy
   ·cases hy
  ·rename_i hx
   split at hy
   ·rename_i hy'
    split at hy
    ·rename_i r hr
     injection hy with hy
     subst hy
     exact cmpS_ok g hx hy' hr
    ·exact evP_ok g hy
   ·cases hy
  ·cases hy
 ·split at hy
  ·rename_i hx
   split at hy
   ·rename_i hi;exact lokS_ok g hx hi hy
   ·cases hy
  ·cases hy
 ·rename_i b xs ts
  split at hy
  ·split at hy
   ·rename_i x t h1 h2
    have e1 : xs = #[x] := by rw [← Array.toArray_toList (xs := xs),h1]
    have e2 : ts = #[t] := by rw [← Array.toArray_toList (xs := ts),h2]
    subst e1 e2
    split at hy
    ·exact evP_ok g hy
    ·rename_i hx;exact lenS_ok g hx hy
    ·cases hy
   ·cases hy
  ·exact evP_ok g hy
  ·exact evP_ok g hy
  ·cases hy
 ·exact evP_ok g hy
 ·exact evP_ok g hy
 ·exact evP_ok g hy
 ·exact evP_ok g hy
 ·exact evP_ok g hy
 ·cases hy
end
end
end Go.Proofs.YtjpaaaecbgmcgaaGreatDoor.Ev
namespace Go.Proofs.YtjpaaaecbgmcgaaGreatDoor
open Go.RowKit
section
variable {P : Program} {T : List (Nat × Ty)} [hT : Tys P T]
end
end Go.Proofs.YtjpaaaecbgmcgaaGreatDoor
namespace Go.Proofs.YtjpaaaecbgmcgaaGreatDoor
open Go.RowKit
section
variable {P : Program} {T : List (Nat × Ty)} [hT : Tys P T]
end
end Go.Proofs.YtjpaaaecbgmcgaaGreatDoor
namespace Go.Proofs.YtjpaaaecbgmcgaaGreatDoor
open Go.RowKit
def NorP : Ob → Prop
 | .bx _ cs => ∀ x ∈ cs,norD x = true
 | .ar _ _ _ => True
 | .fm _ rs => ∀ row ∈ rs,∀ e ∈ row,∃ x,e = .v x
 | .mp _ _ _ => True
 | .fa _ _ _ => False
 | .ab cs _ _ _ => ∀ x ∈ cs,norD x = true
section
variable {ρ ρ' : Rho} {z : Fz}
theorem ObsOk.norP (e : ∀ k,ρ' k = ρ k) : ∀ {ob : List (Nat × Ob)} {hp : List (Nat × Hb)},(∀ p ∈ ob,NorP p.2) → ObsOk ρ z ob hp → ObsOk ρ' z ob hp
 | [],_,_,h => h
 | (k,.bx t cs) :: r,_,ho,⟨X,hp',h1,⟨b,us,h2,h3,h4⟩,h5⟩ => ⟨X,hp',h1,⟨b,us,h2,by rw [e];exact h3,h4.nor e (ho (k,.bx t cs) (by simp))⟩,h5.norP e fun p hp => ho p (by simp [hp])⟩
 | (k,.ar t sz rs) :: r,_,ho,⟨X,hp',h1,⟨A,c,us,h2,h3,h4⟩,h5⟩ => ⟨X,hp',h1,⟨A,c,us,h2,by rw [e];exact h3,h4⟩,h5.norP e fun p hp => ho p (by simp [hp])⟩
 | (k,.fm t rs) :: r,_,ho,⟨X,hp',h1,⟨h2,h3⟩,h5⟩ => ⟨X,hp',h1,⟨h2.nor (ho (k,.fm t rs) (by simp)),h3⟩,h5.norP e fun p hp => ho p (by simp [hp])⟩
 | (k,.mp kg vg es) :: r,_,ho,⟨X,hp',h1,⟨b,vs,h2,h3,h4⟩,h5⟩ => ⟨X,hp',h1,⟨b,vs,h2,by rw [e];exact h3,h4⟩,h5.norP e fun p hp => ho p (by simp [hp])⟩
 | (k,.fa t sz rs) :: r,_,ho,_ => (ho (k,.fa t sz rs) (by simp) : False).elim
 | (k,.ab cs us zb φ) :: r,_,ho,⟨X,hp',h1,⟨h2,h3,h4⟩,h5⟩ => ⟨X,hp',h1,⟨h2,h3,h4.nor e (ho (k,.ab cs us zb φ) (by simp))⟩,h5.norP e fun p hp => ho p (by simp [hp])⟩
end
end Go.Proofs.YtjpaaaecbgmcgaaGreatDoor
namespace Go.Proofs.YtjpaaaecbgmcgaaGreatDoor
open Go.RowKit
section
variable {P : Program} {T : List (Nat × Ty)} [hT : Tys P T] {nt : Nt} {ty : TypeId} {pos : String} {af : Array Edge} {gd : Option (Nat × Bool)} {K : Kt}
omit hT in
theorem next_set {w : World} {b : Nat} {o : Obj} (x : Obj) (h : w.heap[b]? = some o) : Same (· ≠ b) w (w.putObj b x) ∧ (w.putObj b x).heap[b]? = some x := by
 have hlt : b < w.heap.size := (Array.getElem?_eq_some_iff.1 h).1
 refine ⟨⟨rfl,rfl,rfl,by simp,fun j hj => World.putObj_heap_other hj⟩,?_⟩
 simp [World.putObj,hlt]
omit hT in
theorem decode_byte {s : ByteArray} {p : Nat} (h : p < s.size) (ha : (s.data[p]?.getD 0).toNat < 128) : Utf8.decode s p = ((s.data[p]?.getD 0).toNat,1) := by
 have e : s.data[p]?.getD 0 = s[p]'h := by
  have h' : p < s.data.size := h
  rw [Array.getElem?_eq_getElem h'];rfl
 rw [e] at ha ⊢
 exact decode_ascii s p h ha
end
end Go.Proofs.YtjpaaaecbgmcgaaGreatDoor
namespace Go.Proofs.YtjpaaaecbgmcgaaGreatDoor.Ev
open Go.RowKit
noncomputable section
def Nx (z : Fz) (ρ : Env) (st' : St) (K : List (Nat × Value) → Hs → Prop) : Prop := ∀ e tm' hp',G st' tm' hp' (ρ ++ e) → K tm' ⟨z.F,z.w0,hp'⟩
theorem Nx.ext {z : Fz} {ρ : Env} {st' : St} {K : List (Nat × Value) → Hs → Prop} (h : Nx z ρ st' K) (e : Env) : Nx z (ρ ++ e) st' K := fun e' tm' hp' g => h (e ++ e') tm' hp' (by rw [← List.append_assoc];exact g)
theorem Nx.here {z : Fz} {ρ : Env} {st' : St} {K : List (Nat × Value) → Hs → Prop} (h : Nx z ρ st' K) {tm' : List (Nat × Value)} {hp' : List (Nat × Hb)} (g : G st' tm' hp' ρ) : K tm' ⟨z.F,z.w0,hp'⟩ := h [] tm' hp' (by rw [List.append_nil];exact g)
def putO (n : Nat) (d : Option Tmp) (s : S) (st : St) : Option St := Option.rec (motive := fun _ => Option St) (some (mkS st.tm st.hp st.n)) (fun d => Bool.rec (motive := fun _ => Option St) none (Bool.rec (motive := fun _ => Option St) none (some (mkS (putS d s st.tm) st.hp st.n)) (Nat.blt d 1000000)) (Nat.blt d n)) d
theorem putO_none (n : Nat) (s : S) (st : St) : putO n none s st = some st := by
 show some (mkS st.tm st.hp st.n) = _
 rw [mkS_eq]
theorem putO_some (n : Nat) (d : Tmp) (s : S) (st : St) : putO n (some d) s st = match Nat.blt d n && Nat.blt d 1000000 with
  | true => some ⟨putS d s st.tm,st.hp,st.n⟩
  | false => none := by
 show Bool.rec (motive := fun _ => Option St) none (Bool.rec (motive := fun _ => Option St) none (some (mkS (putS d s st.tm) st.hp st.n)) (Nat.blt d 1000000)) (Nat.blt d n) = _
 rw [mkS_eq]
 cases Nat.blt d n <;> cases Nat.blt d 1000000 <;> rfl
section
variable {P : Program} {T : List (Nat × Ty)} [hT : Tys P T] {z : Fz} {fz : List (Nat × List Value)} {nt : Nt} {Q : Exit → Act → World → Prop} {st st' : St} {tm : List (Nat × Value)} {hp : List (Nat × Hb)} {ρ : Env} {ty : TypeId} {pos : String} {af : Array Edge} {gd : Option (Nat × Bool)} {d : Option Tmp} {K : List (Nat × Value) → Hs → Prop}
omit hT in
theorem putO_ok (g : G st tm hp ρ) {s : S} {v : Value} (hd : Den ρ s v) (hp0 : putO nt.n d s st = some st') : (match d with | some d => Nat.blt d nt.n | none => true) = true ∧ G st' (putD d v tm) hp ρ := by
 cases d with
 | none => rw [putO_none] at hp0;injection hp0 with hp0;subst hp0;exact ⟨rfl,g⟩
 | some d =>
  rw [putO_some] at hp0
  split at hp0
  ·rename_i hb
   rw [Bool.and_eq_true] at hb
   injection hp0 with hp0;subst hp0
   exact ⟨hb.1,g.put hb.2 hd⟩
  ·cases hp0
omit hT in
theorem yd_step (g : G st tm hp ρ) {op : Op} {s : S} {v : Value} (y : Yd P nt ⟨d,op,ty,pos,af,gd⟩ tm ⟨z.F,z.w0,hp⟩ v) (hd : Den ρ s v) (hp0 : putO nt.n d s st = some st') (k : Nx z ρ st' K) : OpS P nt Q ⟨d,op,ty,pos,af,gd⟩ tm ⟨z.F,z.w0,hp⟩ K := by
 obtain ⟨h1,h2⟩ := putO_ok g hd hp0
 cases d with
 | some d => exact OpS.yd y h1 (k.here h2)
 | none => exact ⟨fun a w ha hw => by
   unfold Oper.wp
   rw [y.out a w ha hw]
   exact ⟨tm,_,ha,hw,k.here h2⟩⟩
def newO (n : Nat) (d : Option Tmp) (s : S) (o : O) (st : St) : Option St := match d with
 | none => none
 | some d => match Nat.blt d n && Nat.blt d 1000000 with
  | true => some (mkS (putS d s st.tm) ((st.n,o) :: st.hp) (st.n + 1))
  | false => none
omit hT in
theorem newO_ok (g : G st tm hp ρ) {s : S} {v : Value} {o : O} {hb : Hb} {d : Tmp} (hp0 : newO nt.n (some d) s o st = some st') (b cap : Nat) (ho : ORel ρ cap o hb) (hd : Den (ρ ++ [(b,cap)]) s v) : Nat.blt d nt.n = true ∧ G st' ((d,v) :: tm) ((b,hb) :: hp) (ρ ++ [(b,cap)]) := by
 unfold newO at hp0
 simp only [mkS_eq] at hp0
 split at hp0
 ·rename_i hb'
  rw [Bool.and_eq_true] at hb'
  injection hp0 with hp0
  subst hp0
  exact ⟨hb'.1,(g.new b cap ho).put hb'.2 hd⟩
 ·cases hp0
def allocS (T : List (Nat × Ty)) (n : Nat) (d : Option Tmp) (t : TypeId) (st : St) : Option St := match lk t T with
 | some i => match i.zero.all Value.oneCell' with
  | true => newO n d (.p st.n 0) (.c t 0 (i.zero.map .v)) st
  | false => none
 | none => none
theorem allocS_ok (g : G st tm hp ρ) {t : TypeId} (h : allocS T nt.n d t st = some st') (k : Nx z ρ st' K) : OpS P nt Q ⟨d,.alloc t,ty,pos,af,gd⟩ tm ⟨z.F,z.w0,hp⟩ K := by
 unfold allocS at h
 split at h
 ·rename_i i ht
  split at h
  ·rename_i h1
   cases d with
   | none => simp [newO] at h
   | some d =>
    obtain ⟨ik,is,ib,iz⟩ := i
    have hor : ORel ρ iz.length (.c t 0 (iz.map .v)) ⟨t,iz,.n iz.length⟩ := ⟨iz,denL_v iz,h1,by simp,fun h => absurd h (by simp)⟩
    refine OpS.alloc ht ?_ fun b => ?_
    ·exact (newO_ok g h (v := .pointer (some ⟨0,0,none⟩)) 0 iz.length hor ⟨(0,iz.length),g.newId _,rfl⟩).1
    ·obtain ⟨_,q⟩ := newO_ok g h (v := .pointer (some ⟨b,0,none⟩)) b iz.length hor ⟨(b,iz.length),g.newId _,rfl⟩
     exact k _ _ _ q
  ·cases h
 ·cases h
def boxS (n : Nat) (d : Option Tmp) (t : TypeId) (x : Operand) (st : St) : Option St := match evS st.tm x with
 | some s => match cellsS s with
  | some cs => match cs.all oneS with
   | true => newO n d (.p st.n 0) (.c t 0 cs) st
   | false => none
  | none => none
 | none => none
omit hT in
theorem boxS_ok (g : G st tm hp ρ) {t : TypeId} {x : Operand} (h : boxS nt.n d t x st = some st') (k : Nx z ρ st' K) : OpS P nt Q ⟨d,.box t x,ty,pos,af,gd⟩ tm ⟨z.F,z.w0,hp⟩ K := by
 unfold boxS at h
 split at h
 ·rename_i s hs
  split at h
  ·rename_i cs hc
   split at h
   ·rename_i h1
    cases d with
    | none => simp [newO] at h
    | some d =>
     obtain ⟨v,v1,v2⟩ := g.ev hs
     have v3 := cellsS_den hc v2
     have hor : ORel ρ (vcells v).length (.c t 0 cs) ⟨t,vcells v,.n (vcells v).length⟩ := ⟨vcells v,v3,oneL_den h1 v3,by simp,fun h => absurd h (by simp)⟩
     refine OpS.box v1 ?_ fun b => ?_
     ·exact (newO_ok g h (v := .pointer (some ⟨0,0,none⟩)) 0 _ hor ⟨(0,(vcells v).length),g.newId _,rfl⟩).1
     ·obtain ⟨_,q⟩ := newO_ok g h (v := .pointer (some ⟨b,0,none⟩)) b _ hor ⟨(b,(vcells v).length),g.newId _,rfl⟩
      exact k _ _ _ q
   ·cases h
  ·cases h
 ·cases h
def bslS (T : List (Nat × Ty)) (n : Nat) (d : Option Tmp) (t : TypeId) (len : Nat) (ps : List (Nat × Operand)) (st : St) : Option St := match lk t T with
 | some ⟨.sl e,_,_,_⟩ => match lk e T with
  | some j => match prtS st.tm ps with
   | some l => match fillS (arPl j.size) ((List.range (len * j.size)).map fun m => .v (j.zero[m % j.zero.length]!)) l with
    | some r => match Nat.ble (len * j.size) 16777216 && (Nat.blt 0 j.size && (Nat.beq r.length (len * j.size) && r.all oneS)) with
     | true => newO n d (.sl st.n 0 len 0) (.c e j.size r) st
     | false => none
    | none => none
   | none => none
  | none => none
 | _ => none
theorem bslS_ok (g : G st tm hp ρ) {t len : Nat} {ps : Array (Nat × Operand)} (h : bslS T nt.n d t len ps.toList st = some st') (k : Nx z ρ st' K) : OpS P nt Q ⟨d,.buildSlice t len ps,ty,pos,af,gd⟩ tm ⟨z.F,z.w0,hp⟩ K := by
 have eps : ps = ps.toList.toArray := by simp
 rw [eps]
 unfold bslS at h
 split at h
 ·rename_i e _ _ _ ht
  split at h
  ·rename_i j hj
   split at h
   ·rename_i l hl
    split at h
    ·rename_i r hr
     split at h
     ·rename_i hb
      simp only [Bool.and_eq_true] at hb
      obtain ⟨b1,b2,b3,b4⟩ := hb
      have b2 : 0 < j.size := by simpa using b2
      have b3 := Nat.eq_of_beq_eq_true b3
      cases d with
      | none => simp [newO] at h
      | some d =>
       obtain ⟨vs,q1,q2⟩ := prtS_ok g hl
       have hz0 : DenL ρ ((List.range (len * j.size)).map fun m => S.v (j.zero[m % j.zero.length]!)) ((List.range (len * j.size)).map fun m => j.zero[m % j.zero.length]!) := by
        have := denL_v (ρ := ρ) ((List.range (len * j.size)).map fun m => j.zero[m % j.zero.length]!)
        rw [List.map_map] at this
        exact this
       obtain ⟨ws,r1,r2⟩ := fillS_ok q2 hz0 hr
       have hwl : ws.length = len * j.size := by rw [r2.len,b3]
       have hle : len ≤ maxLen := by
        have : len * 1 ≤ len * j.size := Nat.mul_le_mul_left _ b2
        have : len * j.size ≤ 16777216 := by simpa using b1
        unfold maxLen;omega
       have hor : ORel ρ len (.c e j.size r) ⟨e,ws,.n ws.length⟩ := ⟨ws,r2,oneL_den b4 r2,by rw [if_neg (by omega),hwl],fun _ => hle⟩
       refine OpS.buildSlice ht rfl hj b1 q1 r1 ?_ fun b => ?_
       ·exact (newO_ok g h (v := .slice (some ⟨0,0,none⟩) len (len - 0)) 0 len hor ⟨(0,len),g.newId _,by simp,hle,rfl⟩).1
       ·obtain ⟨_,q⟩ := newO_ok g h (v := .slice (some ⟨b,0,none⟩) len (len - 0)) b len hor ⟨(b,len),g.newId _,by simp,hle,rfl⟩
        exact k _ _ _ q
     ·cases h
    ·cases h
   ·cases h
  ·cases h
 ·cases h
omit hT in
theorem spl_one : ∀ {us vs : List Value} {o : Nat},us.all Value.oneCell' = true → vs.all Value.oneCell' = true → (spl us o vs).all Value.oneCell' = true
 | us,[],o,h,_ => by rw [spl_nil];exact h
 | [],v :: vs,o,_,_ => by simp [spl]
 | u :: us,v :: vs,0,h,k => by
  simp only [List.all_cons,Bool.and_eq_true] at h k
  simp only [spl,List.all_cons,Bool.and_eq_true]
  exact ⟨k.1,spl_one h.2 k.2⟩
 | u :: us,v :: vs,o + 1,h,k => by
  simp only [List.all_cons,Bool.and_eq_true] at h
  simp only [spl,List.all_cons,Bool.and_eq_true]
  exact ⟨h.1,spl_one h.2 k⟩
def stoS (T : List (Nat × Ty)) (d : Option Tmp) (t : TypeId) (x y : Operand) (st : St) : Option St := match d with
 | some _ => none
 | none => match evS st.tm x with
  | some (.p id off) => match evS st.tm y with
   | some s => match cellsS s with
    | some cs => match lk t T with
     | some i => match hk id st.hp with
      | some (.c bt es old) => match Nat.beq cs.length i.size && (Nat.ble (off + i.size) old.length && cs.all oneS) with
       | true => some (mkS st.tm (updH id (.c bt es (splS old off cs)) st.hp) st.n)
       | false => none
      | _ => none
     | none => none
    | none => none
   | none => none
  | _ => none
theorem stoS_ok (g : G st tm hp ρ) {t : TypeId} {x y : Operand} (h : stoS T d t x y st = some st') (k : Nx z ρ st' K) : OpS P nt Q ⟨d,.store t x y,ty,pos,af,gd⟩ tm ⟨z.F,z.w0,hp⟩ K := by
 unfold stoS at h
 simp only [mkS_eq] at h
 split at h
 ·cases h
 ·split at h
  ·rename_i id off hx
   split at h
   ·rename_i s hs
    split at h
    ·rename_i cs hc
     split at h
     ·rename_i i ht
      split at h
      ·rename_i bt es old hl
       split at h
       ·rename_i hb
        injection h with h
        subst h
        simp only [Bool.and_eq_true] at hb
        obtain ⟨b1,b2,b3⟩ := hb
        obtain ⟨u,u1,e,u2,rfl⟩ := g.ev hx
        obtain ⟨v,v1,v2⟩ := g.ev hs
        have v3 := cellsS_den hc v2
        obtain ⟨e',hb0,q1,⟨us,r1,r2,r3,r4⟩,q3⟩ := g.hp.upd (o' := .c bt es (splS old off cs)) hl
        rw [u2] at q1;injection q1 with q1;subst q1
        have hone := oneL_den b3 v3
        obtain ⟨hp',s1,s2⟩ := q3 ⟨bt,spl us off (vcells v),hb0.tot⟩ ⟨spl us off (vcells v),r1.over v3,spl_one r2 hone,by rw [r3],r4⟩
        refine OpS.store u1 v1 ht (z := hb0) (by rw [r3] at s1 ⊢;exact s1) (by rw [v3.len];exact Nat.eq_of_beq_eq_true b1) hone (by rw [r3];simp only [r1.len];exact b2) (by rw [r3]) ?_
        exact k.here ⟨g.tm,s2,g.n⟩
       ·cases h
      ·cases h
     ·cases h
    ·cases h
   ·cases h
  ·cases h
def mkM (P : Program) (n : Nat) (d : Option Tmp) (t : TypeId) (r : Option Operand) (st : St) : Option St := match r with
 | none => newO n d (.m st.n) (.m []) st
 | some x => match evS st.tm x,P.underlying t with
  | some (.v (.int _ _)),some (.map _ _) => newO n d (.m st.n) (.m []) st
  | _,_ => none
omit hT in
theorem map_new (w : World) : HasB (w.alloc (.map #[] 0)) w.heap.size ⟨0,[],.m (strL [])⟩ := ⟨rfl,#[],0,heap_alloc_new w _,rfl,Stm.nil 0⟩
omit hT in
theorem mkM_ok (g : G st tm hp ρ) {t : TypeId} {r : Option Operand} (h : mkM P nt.n d t r st = some st') (k : Nx z ρ st' K) : OpS P nt Q ⟨d,.makeMap t r,ty,pos,af,gd⟩ tm ⟨z.F,z.w0,hp⟩ K := by
 have hor : ORel ρ 0 (.m []) ⟨0,[],.m (strL [])⟩ := rfl
 have key : newO nt.n d (.m st.n) (.m []) st = some st' → (∀ a w,Slt nt tm a → Hp ⟨z.F,z.w0,hp⟩ w → (execOp a.eval ⟨d,.makeMap t r,ty,pos,af,gd⟩).run P w = .ok (.value (.map (some w.heap.size))) (w.alloc (.map #[] 0))) → OpS P nt Q ⟨d,.makeMap t r,ty,pos,af,gd⟩ tm ⟨z.F,z.w0,hp⟩ K := by
  intro h hrun
  cases d with
  | none => simp [newO] at h
  | some d =>
   refine OpS.of_run (newO_ok g h (v := .map (some 0)) 0 0 hor ⟨(0,0),g.newId _,rfl⟩).1 fun a w ha hw => ?_
   obtain ⟨_,q⟩ := newO_ok g h (v := .map (some w.heap.size)) w.heap.size 0 hor ⟨(w.heap.size,0),g.newId _,rfl⟩
   exact ⟨_,_,_,hrun a w ha hw,hw.add ((Below.refl _ _).alloc (Nat.le_refl _) _) (Nat.le_refl _) (map_new w),k _ _ _ q⟩
 unfold mkM at h
 split at h
 ·exact key h fun a w ha hw => by simp [execOp,Instr.makeMap,newObj,Sem.run]
 ·rename_i x
  split at h
  ·rename_i kk nn kt et hx hu
   obtain ⟨u,u1,u2⟩ := g.ev hx
   have u2 : u = _ := u2
   subst u2
   exact key h fun a w ha hw => by simp [execOp,Instr.makeMap,newObj,Sem.run,ha.ev u1,asInt,asIntOf,run_underlying hu]
  ·cases h
def putB : List (ByteArray × Value) → ByteArray → Value → List (ByteArray × Value)
 | [],x,v => [(x,v)]
 | (k,u) :: l,x,v => match x == k with
  | true => (x,v) :: l
  | false => (k,u) :: putB l x v
omit hT in
theorem putB_eq (x : ByteArray) (v : Value) : ∀ (l : List (ByteArray × Value)),putB l x v = aput l x v
 | [] => rfl
 | (k,u) :: l => by
  simp only [putB,aput]
  rw [bytes_beq]
  by_cases hx : x = k
  ·simp [hx]
  ·simp [hx,putB_eq x v l]
omit hT in
theorem run_putS {k t e : TypeId} {w : World} {b : Nat} {m : List (ByteArray × Value)} (KT : KeyTy P k Value.string) (ht : P.underlying t = some (.map k e)) (hm : HasB w b ⟨0,[],.m (strL m)⟩) (x : ByteArray) (v : Value) :
  ∃ w',(Instr.mapUpdate t (.map (some b)) (.string x) v).run P w = .ok () w' ∧ Same (· ≠ b) w w' ∧ HasB w' b ⟨0,[],.m (strL (aput m x v))⟩ := by
 obtain ⟨_,es,clock,hb,hes,hst⟩ := hm
 obtain ⟨d,hd,hs⟩ := KT.under
 have hf := findNow_eq hs x es.toList m 0 hes
 have hlt : b < w.heap.size := by
  rcases Nat.lt_or_ge b w.heap.size with h | h
  ·exact h
  ·rw [Array.getElem?_eq_none h] at hb;cases hb
 have key : ∀ (o : Obj),Same (· ≠ b) w { w with heap := w.heap.setIfInBounds b o } := fun o =>
  ⟨rfl,rfl,rfl,by simp,fun i hi => by simp only;rw [Array.getElem?_setIfInBounds_ne (fun e => hi e.symm)]⟩
 cases hi : m.findIdx? (fun p => decide (x = p.1)) with
 | none =>
  rw [hi] at hf
  refine ⟨_,by simp [Instr.mapUpdate,run_underlying ht,run_underlying hd,getObj,setObj,Sem.run,hb,KT.check,Instr.findKey,hf];rfl,key _,rfl,?_⟩
  refine ⟨es.push { key := .string x,val := v,born := clock },clock + 1,by simp [hlt],?_,hst.push _ _⟩
  rw [aput_none v x m hi]
  simp only [strL] at hes
  simp [hes,strL]
 | some j =>
  rw [hi] at hf
  obtain ⟨h1,h2⟩ := aput_some v x m j hi
  have hk : ((es[j]?).map (·.key)) = some (.string x) := by
   have h3 : (es.toList.map (fun e => (e.key,e.val)))[j]? = (strL m)[j]? := by rw [hes]
   rw [strL,List.getElem?_map,List.getElem?_map,Array.getElem?_toList] at h3
   cases hm : m[j]? with
   | none => rw [hm] at h2;cases h2
   | some p =>
    rw [hm] at h3 h2
    simp only [Option.map_some,Option.some.injEq] at h2
    cases he : es[j]? with
    | none => rw [he] at h3;cases h3
    | some en => rw [he] at h3;simp only [Option.map_some,Option.some.injEq,Prod.mk.injEq] at h3;simp [h3.1,h2]
  refine ⟨_,by simp [Instr.mapUpdate,run_underlying ht,run_underlying hd,getObj,setObj,Sem.run,hb,KT.check,Instr.findKey,hf,hk,Instr.keyThatStays,KT.bits];rfl,key _,rfl,?_⟩
  refine ⟨es.modify j fun e => { e with key := .string x,val := v },clock,by simp [hlt],?_,hst.modify _ _ fun _ => rfl⟩
  rw [h1]
  apply List.ext_getElem?
  intro i
  have h3 : (es.toList.map (fun e => (e.key,e.val)))[i]? = (strL m)[i]? := by rw [hes]
  simp only [strL,List.getElem?_map,Array.getElem?_toList,Array.getElem?_modify,List.getElem?_modify] at h3 ⊢
  by_cases hij : j = i
  ·subst hij
   cases hm : m[j]? with
   | none => rw [hm] at h3;cases he : es[j]? <;> rw [he] at h3 <;> simp_all
   | some p => rw [hm] at h3;cases he : es[j]? <;> rw [he] at h3 <;> simp_all
  ·simp [hij,h3]
def mupS (P : Program) (d : Option Tmp) (t : TypeId) (m k v : Operand) (st : St) : Option St := match d with
 | some _ => none
 | none => match evS st.tm m with
  | some (.m id) => match evS st.tm k,evS st.tm v,hk id st.hp with
   | some (.v (.string x)),some (.v u),some (.m l) => match P.underlying t with
    | some (.map kt _) => match P.underlying kt with
     | some .string => some (mkS st.tm (updH id (.m (putB l x u)) st.hp) st.n)
     | _ => none
    | _ => none
   | _,_,_ => none
  | _ => none
omit hT in
theorem mupS_ok (g : G st tm hp ρ) {t : TypeId} {m x v : Operand} {o : Op} (ho : o = .mapUpdate t m x v ∨ o = .insert t m x v) (h : mupS P d t m x v st = some st') (k : Nx z ρ st' K) : OpS P nt Q ⟨d,o,ty,pos,af,gd⟩ tm ⟨z.F,z.w0,hp⟩ K := by
 unfold mupS at h
 simp only [mkS_eq] at h
 split at h
 ·cases h
 ·split at h
  ·rename_i id hm
   split at h
   ·rename_i kx u l hk hv hl
    split at h
    ·rename_i kt et ht
     split at h
     ·rename_i hkt
      injection h with h
      subst h
      obtain ⟨um,m1,e,m2,rfl⟩ := g.ev hm
      obtain ⟨uk,k1,k2⟩ := g.ev hk
      have k2 : uk = _ := k2
      subst k2
      obtain ⟨uv,v1,v2⟩ := g.ev hv
      have v2 : uv = _ := v2
      subst v2
      obtain ⟨e',hb0,q1,q2,q3⟩ := g.hp.upd (o' := .m (putB l kx uv)) hl
      rw [m2] at q1;injection q1 with q1;subst q1
      have q2 : hb0 = _ := q2
      subst q2
      obtain ⟨hp',s1,s2⟩ := q3 _ rfl
      refine ⟨fun a w ha hw => ?_⟩
      obtain ⟨w',r1,r2,r3⟩ := run_putS (keyTy_string hkt) ht (hw.blk _ _ s1.mem) kx uv
      rw [← putB_eq] at r3
      unfold Oper.wp
      have hrun : (execOp a.eval ⟨none,o,ty,pos,af,gd⟩).run P w = .ok .skip w' := by
       rcases ho with rfl | rfl <;> simp [execOp,ha.ev m1,ha.ev k1,ha.ev v1,r1]
      rw [hrun]
      exact ⟨tm,_,ha,hw.upd s1 r2 r3,k.here ⟨g.tm,s2,g.n⟩⟩
     ·cases h
    ·cases h
   ·cases h
  ·cases h
def rngS (P : Program) (n : Nat) (d : Option Tmp) (t : TypeId) (x : Operand) (st : St) : Option St := match P.underlying t with
 | some .string => match evS st.tm x with
  | some (.v (.string s)) => newO n d (.p st.n 0) (.it s 0) st
  | _ => none
 | _ => none
omit hT in
theorem rngS_ok (g : G st tm hp ρ) {t : TypeId} {x : Operand} (h : rngS P nt.n d t x st = some st') (k : Nx z ρ st' K) : OpS P nt Q ⟨d,.range t x,ty,pos,af,gd⟩ tm ⟨z.F,z.w0,hp⟩ K := by
 unfold rngS at h
 split at h
 ·rename_i ht
  split at h
  ·rename_i s hx
   obtain ⟨u,u1,u2⟩ := g.ev hx
   have u2 : u = _ := u2
   subst u2
   cases d with
   | none => simp [newO] at h
   | some d =>
    have hor : ORel ρ 0 (.it s 0) ⟨0,[],.x (.stringIter s 0)⟩ := rfl
    refine OpS.of_run (newO_ok g h (v := .pointer (some ⟨0,0,none⟩)) 0 0 hor ⟨(0,0),g.newId _,rfl⟩).1 fun a w ha hw => ?_
    obtain ⟨_,q⟩ := newO_ok g h (v := .pointer (some ⟨w.heap.size,0,none⟩)) w.heap.size 0 hor ⟨(w.heap.size,0),g.newId _,rfl⟩
    have hb : HasB (w.alloc (.stringIter s 0)) w.heap.size ⟨0,[],.x (.stringIter s 0)⟩ := ⟨rfl,by rw [heap_alloc_new],fun i => by unfold World.frozen?;dsimp only;rw [heap_alloc_new]⟩
    exact ⟨.pointer (some ⟨w.heap.size,0,none⟩),_,_,by simp [execOp,Instr.range,newObj,Sem.run,ha.ev u1,run_underlying ht],hw.add ((Below.refl _ _).alloc (Nat.le_refl _) _) (Nat.le_refl _) hb,k _ _ _ q⟩
  ·cases h
 ·cases h
def nxtS (n : Nat) (d : Option Tmp) (x : Operand) (st : St) : Option St := match evS st.tm x with
 | some (.p id 0) => match hk id st.hp with
  | some (.it s pos) => match Nat.blt pos s.size with
   | true => match Nat.blt (s.data[pos]?.getD 0).toNat 128 with
    | true => putO n d (.v (.tuple #[.bool true,.int .i64 pos,.int .i32 (s.data[pos]?.getD 0).toNat])) ⟨st.tm,updH id (.it s (pos + 1)) st.hp,st.n⟩
    | false => none
   | false => putO n d (.v (.tuple #[.bool false])) st
  | _ => none
 | _ => none
omit hT in
theorem nxtS_ok (g : G st tm hp ρ) {x : Operand} (h : nxtS nt.n d x st = some st') (k : Nx z ρ st' K) : OpS P nt Q ⟨d,.next x true,ty,pos,af,gd⟩ tm ⟨z.F,z.w0,hp⟩ K := by
 unfold nxtS at h
 split at h
 ·rename_i id hx
  obtain ⟨u,u1,e,u2,rfl⟩ := g.ev hx
  split at h
  ·rename_i s p hl
   split at h
   ·rename_i hp0
    have hp0 : p < s.size := by simpa using hp0
    split at h
    ·rename_i hp1
     have hp1 : (s.data[p]?.getD 0).toNat < 128 := by simpa using hp1
     obtain ⟨e',hb0,q1,q2,q3⟩ := g.hp.upd (o' := .it s (p + 1)) hl
     rw [u2] at q1;injection q1 with q1;subst q1
     have q2 : hb0 = _ := q2
     subst q2
     obtain ⟨hp',s1,s2⟩ := q3 _ rfl
     have g2 : G ⟨st.tm,updH id (.it s (p + 1)) st.hp,st.n⟩ tm hp' ρ := ⟨g.tm,s2,g.n⟩
     obtain ⟨r1,r2⟩ := putO_ok (s := .v (.tuple #[.bool true,.int .i64 p,.int .i32 (s.data[p]?.getD 0).toNat])) g2 (v := .tuple #[.bool true,.int .i64 p,.int .i32 (s.data[p]?.getD 0).toNat]) rfl h
     refine ⟨fun a w ha hw => ?_⟩
     obtain ⟨_,hb,_⟩ := hw.blk _ _ s1.mem
     obtain ⟨t1,t2⟩ := next_set (.stringIter s (p + 1)) hb
     have hb' : HasB (w.putObj e.1 (.stringIter s (p + 1))) e.1 ⟨0,[],.x (.stringIter s (p + 1))⟩ := ⟨rfl,t2,fun i => by simp [World.frozen?,t2]⟩
     have hrun : (execOp a.eval ⟨d,.next x true,ty,pos,af,gd⟩).run P w = .ok (.value (.tuple #[.bool true,.int .i64 p,.int .i32 (s.data[p]?.getD 0).toNat])) (w.putObj e.1 (.stringIter s (p + 1))) := by
      simp only [execOp,ha.ev u1]
      simp [Instr.next,getObj,setObj,Sem.run,hb,hp0,decode_byte hp0 hp1,Result.andThen,goInt]
      rfl
     unfold Oper.wp
     rw [hrun]
     have hw2 := hw.upd s1 t1 hb'
     cases d with
     | some d => exact ⟨_,_,ha.put (by simpa using r1) _,hw2,k.here r2⟩
     | none => exact ⟨_,_,ha,hw2,k.here r2⟩
    ·cases h
   ·rename_i hp0
    have hp0 : ¬ p < s.size := fun hh => by
     have : Nat.blt p s.size = true := by simpa using hh
     rw [this] at hp0;cases hp0
    obtain ⟨e',hb0,q1,q2,q3⟩ := g.hp.at_ hl
    rw [u2] at q1;injection q1 with q1;subst q1
    have q2 : hb0 = _ := q2
    subst q2
    refine yd_step (s := .v (.tuple #[.bool false])) g (v := .tuple #[.bool false]) ⟨fun a w ha hw => ?_⟩ rfl h k
    obtain ⟨_,hb,_⟩ := hw.blk _ _ q3.mem
    simp only [execOp,ha.ev u1]
    simp [Instr.next,getObj,Sem.run,hb,hp0]
  ·cases h
 ·cases h
def mkslS (T : List (Nat × Ty)) (n : Nat) (d : Option Tmp) (t : TypeId) (x y : Operand) (st : St) : Option St := match evS st.tm x,evS st.tm y with
 | some (.v (.int _ (.ofNat m))),some (.v (.int _ (.ofNat m'))) => match lk t T with
  | some ⟨.sl e,_,_,_⟩ => match lk e T with
   | some j => match Nat.beq m m' && (Nat.blt 0 j.size && (Nat.ble (m * j.size) 16777216 && (Nat.ble (j.bytes * m) 281474976710656 && ((List.range (m * j.size)).all fun i => (j.zero[i % j.zero.length]!).oneCell')))) with
    | true => newO n d (.sl st.n 0 m 0) (.c e j.size ((List.range (m * j.size)).map fun i => .v (j.zero[i % j.zero.length]!))) st
    | false => none
   | none => none
  | _ => none
 | _,_ => none
theorem mkslS_ok (g : G st tm hp ρ) {t : TypeId} {x y : Operand} (h : mkslS T nt.n d t x y st = some st') (k : Nx z ρ st' K) : OpS P nt Q ⟨d,.makeSlice t x y,ty,pos,af,gd⟩ tm ⟨z.F,z.w0,hp⟩ K := by
 unfold mkslS at h
 split at h
 ·rename_i kx m ky m' hx hy
  split at h
  ·rename_i e _ _ _ ht
   split at h
   ·rename_i j hj
    split at h
    ·rename_i hb
     simp only [Bool.and_eq_true] at hb
     obtain ⟨b1,b2,b3,b4,b5⟩ := hb
     have b1 := Nat.eq_of_beq_eq_true b1
     subst b1
     have b2 : 0 < j.size := by simpa using b2
     have b3 : m * j.size ≤ 16777216 := by simpa using b3
     have b4 : j.bytes * m ≤ 281474976710656 := by simpa using b4
     obtain ⟨ux,x1,x2⟩ := g.ev hx
     have x2 : ux = _ := x2
     subst x2
     obtain ⟨uy,y1,y2⟩ := g.ev hy
     have y2 : uy = _ := y2
     subst y2
     cases d with
     | none => simp [newO] at h
     | some d =>
      obtain ⟨f,zv,q1,q2,q3,q4,q5⟩ := (hT.ok e j hj).info
      have ku : P.underlying t = some (.slice e) := (hT.ok t _ ht).kind
      have hle : m ≤ maxLen := by
       have : m * 1 ≤ m * j.size := Nat.mul_le_mul_left _ b2
       unfold maxLen;omega
      have hmc : (madeCells zv.cells (m * j.size)).toList = (List.range (m * j.size)).map fun i => j.zero[i % j.zero.length]! := by
       have e1 : zv.cells = j.zero.toArray := by rw [← q5]
       simp [madeCells,e1,Array.toList_map,Array.toList_range]
      have hz0 : DenL ρ ((List.range (m * j.size)).map fun i => S.v (j.zero[i % j.zero.length]!)) ((List.range (m * j.size)).map fun i => j.zero[i % j.zero.length]!) := by
       have := denL_v (ρ := ρ) ((List.range (m * j.size)).map fun i => j.zero[i % j.zero.length]!)
       rw [List.map_map] at this
       exact this
      have hone : ((List.range (m * j.size)).map fun i => j.zero[i % j.zero.length]!).all Value.oneCell' = true := by rw [List.all_map];exact b5
      have hor : ORel ρ m (.c e j.size ((List.range (m * j.size)).map fun i => S.v (j.zero[i % j.zero.length]!))) ⟨e,(List.range (m * j.size)).map fun i => j.zero[i % j.zero.length]!,.n (m * j.size)⟩ := ⟨_,hz0,hone,by rw [if_neg (by omega)],fun _ => hle⟩
      refine OpS.of_run (newO_ok g h (v := .slice (some ⟨0,0,none⟩) m (m - 0)) 0 m hor ⟨(0,m),g.newId _,by simp,hle,rfl⟩).1 fun a w ha hw => ?_
      obtain ⟨w',r1,r2,r3⟩ := run_makeSlice_full (P := P) (w := w) w.heap.size t e f zv j.size ku q1 q4 q2 kx ky m b3 (by rw [q3];exact b4) hle (Nat.le_refl _)
      rw [hmc] at r2
      obtain ⟨s1,_,_⟩ := own_hasB r2
      have hbel : Below w.heap.size w w' := ⟨r3.os,r3.tape,r3.output,r3.size,fun k hk => r3.block k hk (by simp)⟩
      obtain ⟨_,q⟩ := newO_ok g h (v := .slice (some ⟨w.heap.size,0,none⟩) m (m - 0)) w.heap.size m hor ⟨(w.heap.size,m),g.newId _,by simp,hle,rfl⟩
      exact ⟨_,_,_,by simp [execOp,ha.ev x1,ha.ev y1,r1],hw.add hbel (Nat.le_refl _) s1,k _ _ _ q⟩
    ·cases h
   ·cases h
  ·cases h
 ·cases h
def srcS (hp : List (Nat × O)) (js : Nat) (s : S) : Option (Nat × List S) := match s with
 | .v (.slice none 0 _) => some (0,[])
 | .sl id off m _ => match hk id hp with
  | some (.c _ _ cs) => match cutS cs off (m * js) with
   | some r => some (m,r)
   | none => none
  | _ => none
 | _ => none
omit hT in
theorem srcS_ok (g : G st tm hp ρ) {js m : Nat} {y : Operand} {s : S} {news : List S} (hy : evS st.tm y = some s) (h : srcS st.hp js s = some (m,news)) : ∃ B dd vs,ev tm y = some (.slice B m dd) ∧ SrcA ⟨z.F,z.w0,hp⟩ B vs ∧ DenL ρ news vs ∧ vs.length = m * js ∧ vs.all Value.oneCell' = true := by
 obtain ⟨u,u1,u2⟩ := g.ev hy
 unfold srcS at h
 split at h
 ·have u2 : u = _ := u2
  subst u2
  simp only [Option.some.injEq,Prod.mk.injEq] at h
  obtain ⟨rfl,rfl⟩ := h
  exact ⟨none,_,[],u1,.nil,rfl,by simp,rfl⟩
 ·rename_i id off m' ce
  obtain ⟨e,k1,k2,k3,rfl⟩ := u2
  split at h
  ·rename_i ct es cs hl
   split at h
   ·rename_i r hc
    simp only [Option.some.injEq,Prod.mk.injEq] at h
    obtain ⟨rfl,rfl⟩ := h
    obtain ⟨e',hb,q1,⟨us,r1,r2,r3,r4⟩,q3⟩ := g.hp.at_ hl
    rw [k1] at q1;injection q1 with q1;subst q1
    obtain ⟨vs,v1,v2,v3,v4⟩ := r1.cut hc
    refine ⟨some ⟨e.1,off,none⟩,_,vs,u1,⟨fun w hw _ => ?_⟩,v1,by rw [v1.len,v2],?_⟩
    ·have hh := hw.blk _ _ q3.mem
     refine ⟨e.1,off,rfl,hh.lt,fun j x hj => hh.cell (by rw [r3];exact v3 j x hj)⟩
    ·rw [List.all_eq_true] at r2 ⊢
     intro x hx
     obtain ⟨j,hj,rfl⟩ := List.getElem_of_mem hx
     exact r2 _ (List.mem_of_getElem? (v3 j _ (List.getElem?_eq_getElem hj)))
   ·cases h
  ·cases h
 ·cases h
theorem app_own {d : Tmp} {t e : TypeId} {x y : Operand} {b n c m dd : Nat} {B : Option Addr} {xs news : List Value} {i : Ty} {jk : Tk} {js jb : Nat} {jz : List Value} {hp' : List (Nat × Hb)} {F : Nat → Prop} {w0 : World} {xb : Hb} (hx : ev tm x = some (.slice (some ⟨b,0,none⟩) n c)) (hy : ev tm y = some (.slice B m dd)) (ht : lk t T = some i) (hk : i.k = .sl e) (hj : lk e T = some ⟨jk,js,jb,jz⟩) (hz : jz.length = js) (hpos : 0 < js)
  (u : RemB b xb hp hp') (hxb : ∀ w,HasB w b xb → HasB w b ⟨e,xs,.n (c * js)⟩) (hs : SrcA ⟨F,w0,hp⟩ B news) (hl : xs.length = n * js) (hln : news.length = m * js) (h1 : ∀ u ∈ news,u.oneCell' = true) (hc : n ≤ c) (hcm : c ≤ maxLen) (hb : (n + m) * jb ≤ 140737488355328) (hmx : n + m ≤ maxLen) (hd : Nat.blt d nt = true)
  (k : ∀ b' c',n + m ≤ c' → c' ≤ maxLen → K ((d,.slice (some ⟨b',0,none⟩) (n + m) c') :: tm) ⟨F,w0,(b',⟨e,xs ++ news,.n (c' * js)⟩) :: hp'⟩) :
  OpS P nt Q ⟨some d,.call ⟨.builtin .append,#[x,y],#[t,t]⟩,ty,pos,af,gd⟩ tm ⟨F,w0,hp⟩ K :=
 .of_run hd fun a w ha hw => by
  have ho := own_of_hasB (hxb w (hw.blk b _ u.mem)) hl hc hcm
  obtain ⟨A',c',w',hrun,h2,h3,h4⟩ := run_app (TyOk.slice (P := P) ht hk hj hz hpos) ty ho (hs.out w hw) hln h1 hmx hb (Nat.zero_le _) (d := dd)
  have hA : ∃ g,A' = some ⟨g,0,none⟩ ∧ (g = b ∨ g = w.heap.size) := by
   rcases A' with _ | ad
   ·simp [Value.ownBlock] at h4
   ·rcases h2.2 with ⟨hv,_⟩ | ⟨g,cap,cur,hv,_⟩
    ·cases hv
    ·injection hv with e1 e2 e3
     injection e1 with e1
     subst e1
     exact ⟨g,rfl,by simpa [Value.ownBlock] using h4⟩
  obtain ⟨g,rfl,hat⟩ := hA
  obtain ⟨q1,q2,q3⟩ := own_hasB h2
  refine ⟨_,w',_,?_,hw.grow u h3 hat q1,k g c' q2 q3⟩
  simp [execOp,resolve,invoke,builtin,ha.ev hx,ha.ev hy,hrun]
omit hT in
theorem hasB_take {w : World} {b : Nat} {ty : TypeId} {us vs : List Value} {k : Nat} (h : HasB w b ⟨ty,us,.n k⟩) (hv : ∀ (j : Nat) (x : Value),vs[j]? = some x → us[j]? = some x) (hl : vs.length ≤ us.length) : HasB w b ⟨ty,vs,.n k⟩ := by
 obtain ⟨junk,h1,h2⟩ := h
 have e : vs = us.take vs.length := by
  apply List.ext_getElem?
  intro j
  rcases Nat.lt_or_ge j vs.length with hj | hj
  ·rw [List.getElem?_take_of_lt hj,List.getElem?_eq_getElem hj]
   exact (hv j _ (List.getElem?_eq_getElem hj)).symm
  ·rw [List.getElem?_eq_none hj,List.getElem?_eq_none]
   simp;omega
 refine ⟨us.drop vs.length ++ junk,?_,?_⟩
 ·have e2 : vs ++ (us.drop vs.length ++ junk) = us ++ junk := by
   rw [← List.append_assoc]
   congr 1
   conv => lhs;lhs;rw [e]
   exact List.take_append_drop _ _
  dsimp only
  rw [e2]
  exact h1
 ·simp only [List.length_append,List.length_drop]
  dsimp only at h2
  omega
def appS (T : List (Nat × Ty)) (n : Nat) (d : Option Tmp) (t : TypeId) (x y : Operand) (st : St) : Option St := match lk t T with
 | some ⟨.sl e,_,_,_⟩ => match lk e T with
  | some j => match evS st.tm y with
   | some sy => match srcS st.hp j.size sy with
    | some (0,_) => match evS st.tm x with
     | some (.v (.slice none 0 0)) => putO n d (.v (.slice none 0 0)) st
     | some (.sl id off len ce) => putO n d (.sl id off len ce) st
     | _ => none
    | some (m + 1,news) => match Nat.beq j.zero.length j.size && Nat.blt 0 j.size with
     | false => none
     | true => match evS st.tm x with
      | some (.v (.slice none 0 0)) => match Nat.ble ((m + 1) * j.bytes) 140737488355328 && Nat.ble (m + 1) 1000000000 with
       | true => newO n d (.sl st.n 0 (m + 1) 0) (.c e j.size news) st
       | false => none
      | some (.sl id 0 len 0) => match hk id st.hp with
       | some (.c bt es cs) => match Nat.beq bt e && (Nat.beq es j.size && (Nat.ble ((len + (m + 1)) * j.bytes) 140737488355328 && Nat.ble (len + (m + 1)) 1000000000)) with
        | true => match cutS cs 0 (len * j.size) with
         | some xs => newO n d (.sl st.n 0 (len + (m + 1)) 0) (.c e j.size (xs ++ news)) ⟨st.tm,remH id st.hp,st.n⟩
         | none => none
        | false => none
       | _ => none
      | _ => none
    | none => none
   | none => none
  | none => none
 | _ => none
theorem appS_ok (g : G st tm hp ρ) {t : TypeId} {x y : Operand} (h : appS T nt.n d t x y st = some st') (k : Nx z ρ st' K) : OpS P nt Q ⟨d,.call ⟨.builtin .append,#[x,y],#[t,t]⟩,ty,pos,af,gd⟩ tm ⟨z.F,z.w0,hp⟩ K := by
 unfold appS at h
 split at h
 ·rename_i e _ _ _ ht
  split at h
  ·rename_i j hj
   obtain ⟨jk,js,jb,jz⟩ := j
   split at h
   ·rename_i sy hy
    split at h
    ·rename_i q0 hs
     obtain ⟨B,dd,vs,y1,y2,y3,y4,y5⟩ := srcS_ok (z := z) g hy hs
     split at h
     ·rename_i hx
      obtain ⟨u,u1,u2⟩ := g.ev hx
      have u2 : u = _ := u2
      subst u2
      exact yd_step (s := .v (.slice none 0 0)) g (Yd.appendNone u1 y1 ht rfl hj (Nat.le_refl _)) rfl h k
     ·rename_i id off len ce hx
      obtain ⟨u,u1,u2⟩ := g.ev hx
      have u2' := u2
      obtain ⟨e',k1,k2,k3,rfl⟩ := u2'
      exact yd_step g (Yd.appendNone u1 y1 ht rfl hj (by omega)) u2 h k
     ·cases h
    ·rename_i m news hs
     obtain ⟨B,dd,vs,y1,y2,y3,y4,y5⟩ := srcS_ok (z := z) g hy hs
     have y6 : ∀ u ∈ vs,u.oneCell' = true := List.all_eq_true.1 y5
     split at h
     ·cases h
     ·rename_i hb0
      simp only [Bool.and_eq_true] at hb0
      have c1 : jz.length = js := Nat.eq_of_beq_eq_true hb0.1
      have c2 : 0 < js := by simpa using hb0.2
      cases d with
      | none =>
       split at h
       ·split at h <;> first | (simp [newO] at h;done) | (cases h;done)
       ·split at h
        ·split at h
         ·split at h <;> first | (simp [newO] at h;done) | (cases h;done)
         ·cases h
        ·cases h
       ·cases h
      | some d =>
       split at h
       ·rename_i hx
        obtain ⟨u,u1,u2⟩ := g.ev hx
        have u2 : u = _ := u2
        subst u2
        split at h
        ·rename_i hb
         simp only [Bool.and_eq_true,Nat.ble_eq] at hb
         have hor : ∀ c',c' ≤ maxLen → ORel ρ c' (.c e js news) ⟨e,vs,.n (c' * js)⟩ := fun c' hc' => ⟨vs,y3,y5,by rw [if_neg (by omega)],fun _ => hc'⟩
         have hmx : m + 1 ≤ maxLen := by unfold maxLen;omega
         refine OpS.appendNil u1 y1 ht rfl hj c1 c2 (Nat.succ_pos _) y2 y4 y6 hb.1 hmx ?_ fun b' c' h1 h2 => ?_
         ·exact (newO_ok g h (v := .slice (some ⟨0,0,none⟩) (m + 1) (m + 1 - 0)) 0 (m + 1) (hor _ hmx) ⟨(0,m + 1),g.newId _,by simp,hmx,rfl⟩).1
         ·obtain ⟨_,q⟩ := newO_ok g h (v := .slice (some ⟨b',0,none⟩) (m + 1) (c' - 0)) b' c' (hor _ h2) ⟨(b',c'),g.newId _,by simpa using h1,h2,rfl⟩
          exact k _ _ _ q
        ·cases h
       ·rename_i id len hx
        obtain ⟨u,u1,e1,u2,u3,u4,rfl⟩ := g.ev hx
        split at h
        ·rename_i bt es cs hl
         split at h
         ·rename_i hb
          simp only [Bool.and_eq_true,Nat.ble_eq] at hb
          obtain ⟨b1,b2,b3,b4⟩ := hb
          have b1 := Nat.eq_of_beq_eq_true b1
          have b2 := Nat.eq_of_beq_eq_true b2
          subst b1
          dsimp only at b2 b3 h
          subst b2
          split at h
          ·rename_i xs hc
           obtain ⟨e2,hb2,hp2,q1,⟨us,r1,r2,r3,r4⟩,q3,q4⟩ := g.hp.rem hl
           rw [u2] at q1;injection q1 with q1;subst q1
           obtain ⟨ws,w1,w2,w3,w4⟩ := r1.cut hc
           have hwl : ws.length = len * es := by rw [w1.len,w2]
           have hwone : ws.all Value.oneCell' = true := by
            rw [List.all_eq_true] at r2 ⊢
            intro x hx
            obtain ⟨j,hj,rfl⟩ := List.getElem_of_mem hx
            exact r2 _ (List.mem_of_getElem? (w3 j _ (List.getElem?_eq_getElem hj)))
           have g2 : G ⟨st.tm,remH id st.hp,st.n⟩ tm hp2 ρ := ⟨g.tm,q4,g.n⟩
           have hor : ∀ c',c' ≤ maxLen → ORel ρ c' (.c bt es (xs ++ news)) ⟨bt,ws ++ vs,.n (c' * es)⟩ := fun c' hc' => ⟨ws ++ vs,w1.app y3,by rw [List.all_append,hwone,y5];rfl,by rw [if_neg (by omega)],fun _ => hc'⟩
           have hmx : len + (m + 1) ≤ maxLen := by unfold maxLen;omega
           refine app_own u1 y1 ht rfl hj c1 c2 q3 (fun w hw => ?_) y2 hwl y4 y6 (by omega) (by omega) b3 hmx ?_ fun b' c' h1 h2 => ?_
           ·rw [r3,if_neg (by omega)] at hw
            refine hasB_take hw (fun j x hj => by have := w3 j x hj;rwa [Nat.zero_add] at this) ?_
            rw [hwl];omega
           ·exact (newO_ok g2 h (v := .slice (some ⟨0,0,none⟩) (len + (m + 1)) (len + (m + 1) - 0)) 0 (len + (m + 1)) (hor _ hmx) ⟨(0,len + (m + 1)),g2.newId _,by simp,hmx,rfl⟩).1
           ·obtain ⟨_,q⟩ := newO_ok g2 h (v := .slice (some ⟨b',0,none⟩) (len + (m + 1)) (c' - 0)) b' c' (hor _ h2) ⟨(b',c'),g2.newId _,by simpa using h1,h2,rfl⟩
            exact k _ _ _ q
          ·cases h
         ·cases h
        ·cases h
       ·cases h
    ·cases h
   ·cases h
  ·cases h
 ·cases h
def fnS : S → Option (FuncId × List S × List S)
 | .v (.func (.func f) a b) => some (f,a.toList.map .v,b.toList.map .v)
 | .f (.func f) a b => some (f,a,b)
 | _ => none
omit hT in
theorem fnS_ok {s : S} {u : Value} {f : FuncId} {a b : List S} (h : fnS s = some (f,a,b)) (hd : Den ρ s u) : ∃ ws us,DenL ρ a ws ∧ DenL ρ b us ∧ u = .func (.func f) ws.toArray us.toArray := by
 unfold fnS at h
 split at h
 ·simp only [Option.some.injEq,Prod.mk.injEq] at h
  obtain ⟨rfl,rfl,rfl⟩ := h
  have hd : u = _ := hd
  subst hd
  exact ⟨_,_,denL_v _,denL_v _,by simp⟩
 ·simp only [Option.some.injEq,Prod.mk.injEq] at h
  obtain ⟨rfl,rfl,rfl⟩ := h
  exact hd
 ·cases h
def NoNG (P : Program) : Prop := ∀ (f : FuncId) (fn : Func), P.funcs[f]? = some fn → (fn.name == "runtime.NumGoroutine") = false
def Lv (z : Fz) (ρ : Env) (s : S) (st' : St) : Ending → World → Prop := fun e w' => ∃ v ρe hp',e = .returned v ∧ Hp ⟨z.F,z.w0,hp'⟩ w' ∧ HRel (ρ ++ ρe) st'.hp hp' ∧ (ρ ++ ρe).length = st'.n ∧ Den (ρ ++ ρe) s v
structure CallOk (P : Program) (z : Fz) (call : FuncId → List S → List (Nat × O) → Nat → Option (S × St)) : Prop where
 out : ∀ {f args hpS n s st'},call f args hpS n = some (s,st') → (∃ fn c,P.funcs[f]? = some fn ∧ fn.body = some c) ∧ ∀ {vs hp ρ},DenL ρ args vs → HRel ρ hpS hp → ρ.length = n → ∀ w,Hp ⟨z.F,z.w0,hp⟩ w → Calls P f vs.toArray w (Lv z ρ s st')
omit hT in
theorem call_step (hng : NoNG P) {call : FuncId → List S → List (Nat × O) → Nat → Option (S × St)} (hC : CallOk P z call) (g : G st tm hp ρ) {x : Operand} {xs : Array Operand} {ts : Array TypeId} {sx : S} {l a b : List S} {f : FuncId} {r : S} {st1 : St} (hx : evS st.tm x = some sx) (hf : fnS sx = some (f,a,b)) (hl : evSL st.tm xs.toList = some l) (hc : call f (a ++ l ++ b) st.hp st.n = some (r,st1)) (hp0 : putO nt.n d r ⟨st.tm,st1.hp,st1.n⟩ = some st') (k : Nx z ρ st' K) :
  OpS P nt Q ⟨d,.call ⟨.value x,xs,ts⟩,ty,pos,af,gd⟩ tm ⟨z.F,z.w0,hp⟩ K := by
 obtain ⟨u,u1,u2⟩ := g.ev hx
 obtain ⟨ws,us,w1,w2,rfl⟩ := fnS_ok hf u2
 obtain ⟨vs,v1,v2⟩ := evSL_ok g hl
 obtain ⟨⟨fn,c,f1,f2⟩,hC⟩ := hC.out hc
 refine ⟨fun ac w ha hw => ?_⟩
 have hargs : xs.map ac.eval = vs.toArray := by
  have := v1.eq ha
  rw [← this];apply Array.toList_inj.1;simp
 have hrun : (execOp ac.eval ⟨d,.call ⟨.value x,xs,ts⟩,ty,pos,af,gd⟩).run P w = .ok (.enter f (ws ++ vs ++ us).toArray) w := by
  have hnm' : ¬ fn.name = "runtime.NumGoroutine" := by simpa using hng f fn f1
  simp only [execOp,resolve,Sem.run_bind,hargs,Deferred.ofValue,ha.ev u1,invoke,callFunc]
  simp [f1,f2,hnm']
 unfold Oper.wp
 rw [hrun]
 refine (hC ((w1.app v2).app w2) g.hp g.n w hw).mono ?_
 rintro e w' ⟨v,ρe,hp',rfl,h1,h2,h3,h4⟩
 have g1 : G ⟨st.tm,st1.hp,st1.n⟩ tm hp' (ρ ++ ρe) := ⟨fun k s hk => by
  obtain ⟨v,q1,q2⟩ := g.tm k s hk
  exact ⟨v,q1,q2.ext _⟩,h2,h3⟩
 obtain ⟨r1,r2⟩ := putO_ok g1 h4 hp0
 cases d with
 | some d => exact ⟨_,_,ha.put (by simpa using r1) v,h1,k _ _ _ r2⟩
 | none => exact ⟨_,_,ha,h1,k _ _ _ r2⟩
structure Kn where
 args : List Value
 s : S
 hp : List (Nat × O)
 n : Nat
structure Ext where
 kn : List (Nat × Kn)
 xt : List (Nat × (Array Value → Sem Value))
 df : List (Nat × (Nat × Nat))
def XtOk (P : Program) (xt : List (Nat × (Array Value → Sem Value))) : Prop := ∀ f e,hk f xt = some e → ∀ (args : Array Value) (v : Value) (w : World),(e args).run P w = .ok v w → (callFunc f args).run P w = .ok (.value v) w
omit hT in
theorem ext_step {xt : List (Nat × (Array Value → Sem Value))} (hX : XtOk P xt) (g : G st tm hp ρ) {x : Operand} {xs : Array Operand} {ts : Array TypeId} {sx : S} {l a b : List S} {f : FuncId} {e : Array Value → Sem Value} {us : List Value} {v : Value} (hx : evS st.tm x = some sx) (hf : fnS sx = some (f,a,b)) (hl : evSL st.tm xs.toList = some l) (he : hk f xt = some e) (hu : toVL (a ++ l ++ b) = some us) (hv : prun P (e us.toArray) = some v) (hp0 : putO nt.n d (.v v) st = some st') (k : Nx z ρ st' K) :
  OpS P nt Q ⟨d,.call ⟨.value x,xs,ts⟩,ty,pos,af,gd⟩ tm ⟨z.F,z.w0,hp⟩ K := by
 obtain ⟨u,u1,u2⟩ := g.ev hx
 obtain ⟨ws,us',w1,w2,rfl⟩ := fnS_ok hf u2
 obtain ⟨vs,v1,v2⟩ := evSL_ok g hl
 have e1 : ws ++ vs ++ us' = us := toVL_den hu ((w1.app v2).app w2)
 refine yd_step (s := .v v) g (v := v) ⟨fun ac w ha hw => ?_⟩ rfl hp0 k
 have hargs : xs.map ac.eval = vs.toArray := by
  have := v1.eq ha
  rw [← this];apply Array.toList_inj.1;simp
 have := hX f e he us.toArray v w (prun_run w _ hv)
 simp only [execOp,resolve,Sem.run_bind,hargs,Deferred.ofValue,ha.ev u1,invoke]
 simp only [Sem.run_pure,Result.andThen_ok]
 rw [← this,← e1]
 simp
def evO (P : Program) (T : List (Nat × Ty)) (fz : List (Nat × List Value)) (X : Ext) (call : FuncId → List S → List (Nat × O) → Nat → Option (S × St)) (n : Nat) (o : Oper) (st : St) : Option St := match o.op with
 | .alloc t => allocS T n o.dst t st
 | .box t x => boxS n o.dst t x st
 | .buildSlice t len ps => bslS T n o.dst t len ps.toList st
 | .store t x y => stoS T o.dst t x y st
 | .makeMap t r => mkM P n o.dst t r st
 | .mapUpdate t m k v => mupS P o.dst t m k v st
 | .insert t m k v => mupS P o.dst t m k v st
 | .range t x => rngS P n o.dst t x st
 | .next x true => nxtS n o.dst x st
 | .makeSlice t x y => mkslS T n o.dst t x y st
 | .call ⟨.value x,xs,_⟩ => match evS st.tm x with
  | some sx => match fnS sx with
   | some (f,a,b) => match evSL st.tm xs.toList with
    | some l => match hk f X.xt with
     | some e => match toVL (a ++ l ++ b) with
      | some us => match prun P (e us.toArray) with
       | some v => putO n o.dst (.v v) st
       | none => none
      | none => none
     | none => match call f (a ++ l ++ b) st.hp st.n with
      | some (r,st1) => putO n o.dst r ⟨st.tm,st1.hp,st1.n⟩
      | none => none
    | none => none
   | none => none
  | none => none
 | .call ⟨.builtin .append,xs,ts⟩ => match xs.toList,ts.toList with
  | [x,y],[t,t'] => match Nat.beq t t' with
   | true => appS T n o.dst t x y st
   | false => none
  | _,_ => none
 | op => match evY P T fz op o.type st.tm st.hp with
  | some s => putO n o.dst s st
  | none => none
theorem evO_ok (hng : NoNG P) (hz : FzOk z fz) {X : Ext} (hX : XtOk P X.xt) {call : FuncId → List S → List (Nat × O) → Nat → Option (S × St)} (hC : CallOk P z call) (g : G st tm hp ρ) {o : Oper} (h : evO P T fz X call nt.n o st = some st') (k : Nx z ρ st' K) : OpS P nt Q o tm ⟨z.F,z.w0,hp⟩ K := by
 obtain ⟨d,op,ty,pos,af,gd⟩ := o
 unfold evO at h
 dsimp only at h
 split at h
 ·exact allocS_ok g h k
 ·exact boxS_ok g h k
 ·exact bslS_ok g h k
 ·exact stoS_ok g h k
 ·exact mkM_ok g h k
 ·exact mupS_ok g (.inl rfl) h k
 ·exact mupS_ok g (.inr rfl) h k
 ·exact rngS_ok g h k
 ·exact nxtS_ok g h k
 ·exact mkslS_ok g h k
 ·split at h
  ·rename_i hx
   split at h
   ·rename_i hf
    split at h
    ·rename_i hl
     split at h
     ·rename_i he
      split at h
      ·rename_i hu
       split at h
       ·rename_i hv;exact ext_step hX g hx hf hl he hu hv h k
       ·cases h
      ·cases h
     ·split at h
      ·rename_i hc;exact call_step hng hC g hx hf hl hc h k
      ·cases h
    ·cases h
   ·cases h
  ·cases h
 ·rename_i xs ts
  split at h
  ·rename_i x y t t' h1 h2
   have e1 : xs = #[x,y] := by rw [← Array.toArray_toList (xs := xs),h1]
   have e2 : ts = #[t,t'] := by rw [← Array.toArray_toList (xs := ts),h2]
   subst e1 e2
   split at h
   ·rename_i hb
    have := Nat.eq_of_beq_eq_true hb
    subst this
    exact appS_ok g h k
   ·cases h
  ·cases h
 ·split at h
  ·rename_i s hs
   obtain ⟨v,y,hd⟩ := evY_ok (nt := nt) (d := d) (pos := pos) (af := af) (gd := gd) g hz hs
   exact yd_step g y hd h k
  ·cases h
def alC (T : List (Nat × Ty)) (op : Op) (tm : Tr) : Option (S × O) := match op with
 | .alloc t => match lk t T with
  | some i => match i.zero.all Value.oneCell' with
   | true => some (.p 0 0,.c t 0 (i.zero.map .v))
   | false => none
  | none => none
 | .box t x => match evS tm x with
  | some s => match cellsS s with
   | some cs => match cs.all oneS with
    | true => some (.p 0 0,.c t 0 cs)
    | false => none
   | none => none
  | none => none
 | .buildSlice t len ps => match lk t T with
  | some ⟨.sl e,_,_,_⟩ => match lk e T with
   | some j => match prtS tm ps.toList with
    | some l => match fillS (arPl j.size) ((List.range (len * j.size)).map fun m => .v (j.zero[m % j.zero.length]!)) l with
     | some r => match Nat.ble (len * j.size) 16777216 && (Nat.blt 0 j.size && (Nat.beq r.length (len * j.size) && r.all oneS)) with
      | true => some (.sl 0 0 len 0,.c e j.size r)
      | false => none
     | none => none
    | none => none
   | none => none
  | _ => none
 | _ => none
def idS (k : Nat) : S → S
 | .p _ q => .p k q
 | .sl _ q l c => .sl k q l c
 | s => s
structure AlOk (P : Program) (nt : Nt) (o : Oper) (tm : List (Nat × Value)) (ρ : Env) (s0 : S) (ob : O) : Prop where
 out : ∃ (val : Nat → Value) (hb : Hb) (cap : Nat),ORel ρ cap ob hb ∧ (∀ b e,Den (ρ ++ e ++ [(b,cap)]) (idS (ρ ++ e).length s0) (val b)) ∧ ∀ a w,Slt nt tm a → ∃ w',(execOp a.eval o).run P w = .ok (.value (val w.heap.size)) w' ∧ Below w.heap.size w w' ∧ HasB w' w.heap.size hb
omit hT in
theorem alc_id {ρ : Env} (x : Nat × Nat) : (ρ ++ [x])[ρ.length]? = some x := by simp
theorem alC_ok (g : G st tm hp ρ) {op : Op} {s0 : S} {ob : O} (h : alC T op st.tm = some (s0,ob)) : AlOk P nt ⟨d,op,ty,pos,af,gd⟩ tm ρ s0 ob := by
 unfold alC at h
 split at h
 ·rename_i t
  split at h
  ·rename_i i ht
   split at h
   ·rename_i h1
    simp only [Option.some.injEq,Prod.mk.injEq] at h
    obtain ⟨rfl,rfl⟩ := h
    refine ⟨fun b => .pointer (some ⟨b,0,none⟩),⟨t,i.zero,.n i.zero.length⟩,i.zero.length,⟨i.zero,denL_v _,h1,by simp,fun h => absurd h (by simp)⟩,fun b e => ⟨_,alc_id _,rfl⟩,fun a w ha => ?_⟩
    obtain ⟨z,hz1,hz2⟩ := (hT.ok t _ ht).run_zero w
    refine ⟨w.alloc (.cells z.cells t),by simp [execOp,Instr.alloc,newVar,newRow,hz1],(Below.refl _ _).alloc (Nat.le_refl _) _,[],?_,by simp⟩
    rw [heap_alloc_new]
    simp [← hz2]
   ·cases h
  ·cases h
 ·rename_i t x
  split at h
  ·rename_i s hs
   split at h
   ·rename_i cs hc
    split at h
    ·rename_i h1
     simp only [Option.some.injEq,Prod.mk.injEq] at h
     obtain ⟨rfl,rfl⟩ := h
     obtain ⟨v,v1,v2⟩ := g.ev hs
     have v3 := cellsS_den hc v2
     refine ⟨fun b => .pointer (some ⟨b,0,none⟩),⟨t,vcells v,.n (vcells v).length⟩,(vcells v).length,⟨vcells v,v3,oneL_den h1 v3,by simp,fun h => absurd h (by simp)⟩,fun b e => ⟨_,alc_id _,rfl⟩,fun a w ha => ?_⟩
     refine ⟨w.alloc (.cells v.cells t),by simp [execOp,Instr.box,newVar,newRow,ha.ev v1],(Below.refl _ _).alloc (Nat.le_refl _) _,[],?_,by simp⟩
     rw [heap_alloc_new,← vcells_eq]
     simp
    ·cases h
   ·cases h
  ·cases h
 ·rename_i t len ps
  have eps : ps = ps.toList.toArray := by simp
  split at h
  ·rename_i e _ _ _ ht
   split at h
   ·rename_i j hj
    split at h
    ·rename_i l hl
     split at h
     ·rename_i r hr
      split at h
      ·rename_i hb
       simp only [Option.some.injEq,Prod.mk.injEq] at h
       obtain ⟨rfl,rfl⟩ := h
       simp only [Bool.and_eq_true] at hb
       obtain ⟨b1,b2,b3,b4⟩ := hb
       have b2 : 0 < j.size := by simpa using b2
       have b3 := Nat.eq_of_beq_eq_true b3
       obtain ⟨vs,q1,q2⟩ := prtS_ok g hl
       have hz0 : DenL ρ ((List.range (len * j.size)).map fun m => S.v (j.zero[m % j.zero.length]!)) ((List.range (len * j.size)).map fun m => j.zero[m % j.zero.length]!) := by
        have := denL_v (ρ := ρ) ((List.range (len * j.size)).map fun m => j.zero[m % j.zero.length]!)
        rw [List.map_map] at this
        exact this
       obtain ⟨ws,r1,r2⟩ := fillS_ok q2 hz0 hr
       have hwl : ws.length = len * j.size := by rw [r2.len,b3]
       have hle : len ≤ maxLen := by
        have : len * 1 ≤ len * j.size := Nat.mul_le_mul_left _ b2
        have : len * j.size ≤ 16777216 := by simpa using b1
        unfold maxLen;omega
       refine ⟨fun b => .slice (some ⟨b,0,none⟩) len (len - 0),⟨e,ws,.n ws.length⟩,len,⟨ws,r2,oneL_den b4 r2,by rw [if_neg (by omega),hwl],fun _ => hle⟩,fun b e => ⟨_,alc_id _,by simp,hle,rfl⟩,fun a w ha => ?_⟩
       have h1 : P.underlying t = some (.slice e) := (hT.ok t _ ht).kind
       obtain ⟨zv,hz1,hz2⟩ := (hT.ok e j hj).run_zero w
       have hpl : (ps.toList.toArray.map fun (q : Nat × Operand) => (q.1,a.eval q.2)) = vs.toArray := by rw [List.map_toArray,q1.eq ha]
       have hfill : Instr.fill (fun m => some (m * j.size,j.size)) ((Array.range (len * j.size)).map ((if len * j.size = 0 then #[] else zv.cells)[· % (if len * j.size = 0 then (#[] : Array Value) else zv.cells).size]!)) vs = some ws.toArray := by
        refine fill_eq _ vs _ ws ?_
        rw [← r1]
        show _ = fillV (arPl j.size) _ vs
        congr 1
        by_cases h0 : len * j.size = 0
        ·simp [h0]
        ·simp only [h0,if_false,Array.toList_map,Array.toList_range]
         refine List.map_congr_left fun m _ => ?_
         rw [← hz2]
         simp only [getElem!_def,Array.length_toList,Array.getElem?_toList]
       have hle' : ¬ len * j.size > 2 ^ 24 := by simp at b1;omega
       have hpl' : (ps.toList.toArray.map fun x => match x with | (j,x) => (j,a.eval x)) = vs.toArray := hpl
       refine ⟨w.alloc (.cells ws.toArray e),?_,(Below.refl _ _).alloc (Nat.le_refl _) _,[],?_,by simp⟩
       ·rw [eps]
        by_cases h0 : len * j.size = 0
        ·simp only [h0,if_true] at hfill hle'
         simp only [execOp,Instr.buildSlice,Sem.run_bind,run_underlying h1,Result.andThen_ok,(hT.ok e j hj).run_size,h0,hle',if_true,if_false,Sem.run_pure,hpl',hfill]
         simp [newRow]
        ·simp only [h0,if_false] at hfill
         simp only [execOp,Instr.buildSlice,Sem.run_bind,run_underlying h1,Result.andThen_ok,(hT.ok e j hj).run_size,h0,hle',if_false,Sem.run_pure,hz1,hpl',hfill]
         simp [newRow]
       ·rw [heap_alloc_new];simp
      ·cases h
     ·cases h
    ·cases h
   ·cases h
  ·cases h
 ·cases h
structure OC where
 run : (FuncId → List S → List (Nat × O) → Nat → Option (S × St)) → St → Option St
def ikB : IntKind → IntKind → Bool
 | .i8,.i8 | .i16,.i16 | .i32,.i32 | .i64,.i64 | .u8,.u8 | .u16,.u16 | .u32,.u32 | .u64,.u64 => true
 | _,_ => false
omit hT in
theorem ikB_eq {a b : IntKind} (h : ikB a b = true) : a = b := by cases a <;> cases b <;> first | rfl | cases h
def biI (op : BinOp) (k : IntKind) (a b : Int) : Option Value := match op with
 | .add => some (.int k (k.wrap (a + b)))
 | .sub => some (.int k (k.wrap (a - b)))
 | .eql => some (.bool (a == b))
 | .neq => some (.bool (a != b))
 | .lss => some (.bool (decide (a < b)))
 | .leq => some (.bool (decide (a ≤ b)))
 | .gtr => some (.bool (decide (b < a)))
 | .geq => some (.bool (decide (b ≤ a)))
 | _ => none
omit hT in
theorem biI_run {op : BinOp} {k : IntKind} {a b : Int} {v : Value} (h : biI op k a b = some v) {t t' : TypeId} {x y : Operand} {ρ : Operand → Value} (hx : ρ x = .int k a) (hy : ρ y = .int k b) {d : Option Tmp} {pos : String} {af : Array Edge} {gd : Option (Nat × Bool)} (w : World) : (execOp ρ ⟨d,.binOp op t x y t',ty,pos,af,gd⟩).run P w = .ok (.value v) w := by
 cases op <;> simp only [biI] at h <;> first | (cases h;done) | (injection h with h;subst h;simp [execOp,eqGuard,binOp,Op.intArith,Op.intCmp,hx,hy])
def binC (P : Program) (n : Nat) (d : Option Tmp) (op : BinOp) (t : TypeId) (x y : Operand) (yt ty : TypeId) (st : St) : Option St := match evS st.tm x with
 | some (.v (.int k a)) => match evS st.tm y with
  | some (.v (.int k' b)) => match ikB k k' with
   | true => match biI op k a b with
    | some v => putO n d (.v v) st
    | none => match evP P (.binOp op t x y yt) ty st.tm with
     | some s => putO n d s st
     | none => none
   | false => none
  | _ => none
 | some (.v v) => match evS st.tm y with
  | some (.v _) => match evP P (.binOp op t x y yt) ty st.tm with
   | some s => putO n d s st
   | none => none
  | some q => match cmpS P op t (.v v) q with
   | some s => putO n d s st
   | none => match evP P (.binOp op t x y yt) ty st.tm with
    | some s => putO n d s st
    | none => none
  | none => none
 | some q => match evS st.tm y with
  | some q' => match cmpS P op t q q' with
   | some s => putO n d s st
   | none => match evP P (.binOp op t x y yt) ty st.tm with
    | some s => putO n d s st
    | none => none
  | none => none
 | none => none
def idxC (P : Program) (n : Nat) (d : Option Tmp) (t : TypeId) (x y : Operand) (ty : TypeId) (st : St) : Option St := match evS st.tm x with
 | some (.v (.string s)) => match evS st.tm y with
  | some (.v (.int _ (.ofNat i))) => match nth s.data.toList i with
   | some b => putO n d (.v (.int .u8 b.toNat)) st
   | none => none
  | _ => none
 | some _ => match evP P (.index t x y) ty st.tm with
  | some s => putO n d s st
  | none => none
 | none => none
def yldC (P : Program) (T : List (Nat × Ty)) (fz : List (Nat × List Value)) (n : Nat) (d : Option Tmp) (op : Op) (ty : TypeId) (st : St) : Option St := match evY P T fz op ty st.tm st.hp with
 | some s => putO n d s st
 | none => none
def fofC (T : List (Nat × Ty)) (t f : Nat) : Option Nat := match lk t T with
 | some ⟨.st fs,_,_,_⟩ => match nth fs f with
  | some (o,ft) => match lk ft T with
   | some j => match Nat.beq j.size 0 with
    | false => some o
    | true => none
   | none => none
  | none => none
 | _ => none
def eszC (T : List (Nat × Ty)) (t : Nat) : Option Nat := match lk t T with
 | some ⟨.sl e,_,_,_⟩ => match lk e T with
  | some j => some j.size
  | none => none
 | _ => none
def slsC (P : Program) (T : List (Nat × Ty)) (fz : List (Nat × List Value)) (n : Nat) (d : Option Tmp) (t : TypeId) (x : Operand) (lo hi : Option Operand) (ty : TypeId) (st : St) : Option St := match evS st.tm x with
 | some (.v (.string s)) => match bndS st.tm 0 lo with
  | some l => match bndS st.tm s.size hi with
   | some m => match Nat.ble l m && Nat.ble m s.size with
    | true => putO n d (.v (.string ⟨⟨(s.data.toList.drop l).take (m - l)⟩⟩)) st
    | false => none
   | none => none
  | none => none
 | _ => yldC P T fz n d (.slice t x lo hi none) ty st
omit hT in
theorem extract_eq (s : ByteArray) (l m : Nat) : s.extract l m = ⟨⟨(s.data.toList.drop l).take (m - l)⟩⟩ := by
 obtain ⟨⟨x⟩⟩ := s
 have h : ((⟨⟨x⟩⟩ : ByteArray).extract l m).data = (⟨x⟩ : Array UInt8).extract l m := ByteArray.data_extract
 have h2 : ((⟨x⟩ : Array UInt8).extract l m).toList = (x.drop l).take (m - l) := by simp
 generalize ((⟨⟨x⟩⟩ : ByteArray).extract l m) = y at h ⊢
 obtain ⟨⟨y⟩⟩ := y
 have h3 : y = (x.drop l).take (m - l) := by rw [← h2,← h]
 rw [h3]
def isSr (T : List (Nat × Ty)) (t : TypeId) : Bool := match lk t T with
 | some ⟨.sr,_,_,_⟩ => true
 | _ => false
def isStr (P : Program) (t : TypeId) : Bool := match P.underlying t with
 | some .string => true
 | _ => false
def cmp (P : Program) (T : List (Nat × Ty)) (fz : List (Nat × List Value)) (X : Ext) (n : Nat) (o : Oper) : OC := match o.op with
 | .move x => ⟨fun _ st => match evS st.tm x with
  | some s => putO n o.dst s st
  | none => none⟩
 | .assign x => ⟨fun _ st => match evS st.tm x with
  | some s => putO n o.dst s st
  | none => none⟩
 | .binOp op t x y yt => ⟨fun _ st => binC P n o.dst op t x y yt o.type st⟩
 | .index t x y => match isStr P t with
  | true => ⟨fun _ st => idxC P n o.dst t x y o.type st⟩
  | false => ⟨fun _ st => yldC P T fz n o.dst (.index t x y) o.type st⟩
 | .load t x => match lk t T with
  | some i => match i.k.agg with
   | false => ⟨fun _ st => match evS st.tm x with
    | some q => match ldI fz st.hp false i.size q with
     | some s => putO n o.dst s st
     | none => none
    | none => none⟩
   | true => ⟨fun _ st => match evS st.tm x with
    | some q => match ldI fz st.hp true i.size q with
     | some s => putO n o.dst s st
     | none => none
    | none => none⟩
  | none => ⟨fun _ _ => none⟩
 | .fieldAddr t x f => match fofC T t f with
  | some q => ⟨fun _ st => match evS st.tm x with
   | some (.p id off) => putO n o.dst (.p id (off + q)) st
   | _ => yldC P T fz n o.dst (.fieldAddr t x f) o.type st⟩
  | none => ⟨fun _ st => yldC P T fz n o.dst (.fieldAddr t x f) o.type st⟩
 | .indexAddr t x ix => match eszC T t with
  | some sz => ⟨fun _ st => match evS st.tm x with
   | some (.sl id off len _) => match evS st.tm ix with
    | some (.v (.int _ (.ofNat m))) => match Nat.blt m len with
     | true => putO n o.dst (.p id (off + m * sz)) st
     | false => none
    | _ => none
   | _ => yldC P T fz n o.dst (.indexAddr t x ix) o.type st⟩
  | none => ⟨fun _ st => yldC P T fz n o.dst (.indexAddr t x ix) o.type st⟩
 | .extract x k => ⟨fun _ st => match evS st.tm x with
  | some (.t l) => match nth l k with
   | some s => putO n o.dst s st
   | none => none
  | _ => yldC P T fz n o.dst (.extract x k) o.type st⟩
 | .alloc t => ⟨fun _ st => allocS T n o.dst t st⟩
 | .box t x => ⟨fun _ st => boxS n o.dst t x st⟩
 | .buildSlice t len ps => ⟨fun _ st => bslS T n o.dst t len ps.toList st⟩
 | .store t x y => ⟨fun _ st => stoS T o.dst t x y st⟩
 | .next x true => ⟨fun _ st => nxtS n o.dst x st⟩
 | .pick c x y => ⟨fun _ st => yldC P T fz n o.dst (.pick c x y) o.type st⟩
 | .field t x f => ⟨fun _ st => yldC P T fz n o.dst (.field t x f) o.type st⟩
 | .unOp a b c => ⟨fun _ st => yldC P T fz n o.dst (.unOp a b c) o.type st⟩
 | .convert a b c => ⟨fun _ st => yldC P T fz n o.dst (.convert a b c) o.type st⟩
 | .build t ps => ⟨fun _ st => yldC P T fz n o.dst (.build t ps) o.type st⟩
 | .slice t x lo hi none => match isSr T t with
  | true => ⟨fun _ st => slsC P T fz n o.dst t x lo hi o.type st⟩
  | false => ⟨fun _ st => yldC P T fz n o.dst (.slice t x lo hi none) o.type st⟩
 | _ => ⟨fun call st => evO P T fz X call n o st⟩
theorem cmp_ok (hng : NoNG P) (hz : FzOk z fz) {X : Ext} (hX : XtOk P X.xt) {call : FuncId → List S → List (Nat × O) → Nat → Option (S × St)} (hC : CallOk P z call) (g : G st tm hp ρ) {o : Oper} (h : (cmp P T fz X nt.n o).run call st = some st') (k : Nx z ρ st' K) : OpS P nt Q o tm ⟨z.F,z.w0,hp⟩ K := by
 have go : evO P T fz X call nt.n o st = some st' → OpS P nt Q o tm ⟨z.F,z.w0,hp⟩ K := fun h => evO_ok hng hz hX hC g h k
 obtain ⟨d,op,ty,pos,af,gd⟩ := o
 unfold cmp at h
 dsimp only at h
 split at h
 ·exact go h
 ·exact go h
 ·rename_i op t x y yt
  dsimp only at h
  unfold binC at h
  split at h
  ·rename_i k1 a hx
   split at h
   ·rename_i k2 b hy
    split at h
    ·rename_i hk
     have := ikB_eq hk
     subst this
     split at h
     ·rename_i v hv
      obtain ⟨ux,x1,x2⟩ := g.ev hx
      have x2 : ux = _ := x2
      subst x2
      obtain ⟨uy,y1,y2⟩ := g.ev hy
      have y2 : uy = _ := y2
      subst y2
      exact yd_step (s := .v v) g ⟨fun ac w ha hw => biI_run hv (ha.ev x1) (ha.ev y1) w⟩ rfl h k
     ·split at h
      ·rename_i s hs
       obtain ⟨v,y,hd⟩ := evP_ok (nt := nt) (d := d) (pos := pos) (af := af) (gd := gd) (h := ⟨z.F,z.w0,hp⟩) g hs
       exact yd_step g y hd h k
      ·cases h
    ·cases h
   ·cases h
  ·rename_i v hx
   split at h
   ·rename_i v2 hy
    split at h
    ·rename_i s hs
     obtain ⟨v,y,hd⟩ := evP_ok (nt := nt) (d := d) (pos := pos) (af := af) (gd := gd) (h := ⟨z.F,z.w0,hp⟩) g hs
     exact yd_step g y hd h k
    ·cases h
   ·rename_i q hy
    split at h
    ·rename_i s hs
     obtain ⟨v,y,hd⟩ := cmpS_ok (nt := nt) (d := d) (pos := pos) (af := af) (gd := gd) (ty := ty) (yt := yt) (h := ⟨z.F,z.w0,hp⟩) g hx hy hs
     exact yd_step g y hd h k
    ·split at h
     ·rename_i s hs
      obtain ⟨v,y,hd⟩ := evP_ok (nt := nt) (d := d) (pos := pos) (af := af) (gd := gd) (h := ⟨z.F,z.w0,hp⟩) g hs
      exact yd_step g y hd h k
     ·cases h
   ·cases h
  ·rename_i q hx
   split at h
   ·rename_i q' hy
    split at h
    ·rename_i s hs
     obtain ⟨v,y,hd⟩ := cmpS_ok (nt := nt) (d := d) (pos := pos) (af := af) (gd := gd) (ty := ty) (yt := yt) (h := ⟨z.F,z.w0,hp⟩) g hx hy hs
     exact yd_step g y hd h k
    ·split at h
     ·rename_i s hs
      obtain ⟨v,y,hd⟩ := evP_ok (nt := nt) (d := d) (pos := pos) (af := af) (gd := gd) (h := ⟨z.F,z.w0,hp⟩) g hs
      exact yd_step g y hd h k
     ·cases h
   ·cases h
  ·cases h
 ·rename_i t x y
  split at h
  ·rename_i hstr
   dsimp only at h
   have hu : P.underlying t = some .string := by
    unfold isStr at hstr
    split at hstr
    ·assumption
    ·cases hstr
   unfold idxC at h
   split at h
   ·rename_i s hx
    split at h
    ·rename_i kk i hy
     split at h
     ·rename_i b hb
      obtain ⟨ux,x1,x2⟩ := g.ev hx
      have x2 : ux = _ := x2
      subst x2
      obtain ⟨uy,y1,y2⟩ := g.ev hy
      have y2 : uy = _ := y2
      subst y2
      rw [nth_eq] at hb
      have hlt : i < s.size := (List.getElem?_eq_some_iff.1 hb).1
      have hb' : s[i] = b := by
       have := (List.getElem?_eq_some_iff.1 hb).2
       rw [← this];rfl
      refine yd_step (s := .v (.int .u8 b.toNat)) g (v := .int .u8 b.toNat) ⟨fun ac w ha hw => ?_⟩ rfl h k
      have e1 : (0 : Int) ≤ Int.ofNat i := Int.natCast_nonneg i
      simp [execOp,Instr.index,asIntOf,ha.ev x1,ha.ev y1,run_underlying hu,hlt,hb']
     ·cases h
    ·cases h
   ·split at h
    ·rename_i s hs
     obtain ⟨v,y,hd⟩ := evP_ok (nt := nt) (d := d) (pos := pos) (af := af) (gd := gd) (h := ⟨z.F,z.w0,hp⟩) g hs
     exact yd_step g y hd h k
    ·cases h
   ·cases h
  ·exact go h
 ·rename_i t x
  split at h
  ·rename_i i hi
   split at h
   ·rename_i ha
    dsimp only at h
    split at h
    ·rename_i q hx
     split at h
     ·rename_i s hs
      refine go ?_
      rw [← h]
      show (match (match evS st.tm x with | some q => ldS T fz st.hp t q | none => none) with | some s => putO nt.n d s st | none => none) = _
      simp only [hx,ldS,hi,ha,hs]
     ·cases h
    ·cases h
   ·rename_i ha
    dsimp only at h
    split at h
    ·rename_i q hx
     split at h
     ·rename_i s hs
      refine go ?_
      rw [← h]
      show (match (match evS st.tm x with | some q => ldS T fz st.hp t q | none => none) with | some s => putO nt.n d s st | none => none) = _
      simp only [hx,ldS,hi,ha,hs]
     ·cases h
    ·cases h
  ·cases h
 ·rename_i t x f
  split at h
  ·rename_i q hq
   dsimp only at h
   split at h
   ·rename_i id off hx
    have hfa : faS T t f id off = some (.p id (off + q)) := by
     unfold fofC at hq
     unfold faS
     split at hq
     ·rename_i fs _ _ _ ht
      try rw [ht]
      try dsimp only
      split at hq
      ·rename_i o ft hf
       try rw [hf]
       try dsimp only
       split at hq
       ·rename_i j hj
        try rw [hj]
        try dsimp only
        split at hq
        ·rename_i hz0
         injection hq with hq
         subst hq
         first | rfl | rw [hz0]
        ·cases hq
       ·cases hq
      ·cases hq
     ·cases hq
    obtain ⟨v,y,hd⟩ := faS_ok (P := P) (nt := nt) (d := d) (pos := pos) (af := af) (gd := gd) (ty := ty) (h := ⟨z.F,z.w0,hp⟩) g hx hfa
    exact yd_step g y hd h k
   ·exact go h
  ·exact go h
 ·rename_i t x ix
  split at h
  ·rename_i sz hsz
   dsimp only at h
   split at h
   ·rename_i id off len ce hx
    split at h
    ·rename_i kk m hi
     split at h
     ·rename_i hb
      have hia : iaS T t (.sl id off len ce) (.ofNat m) = some (.p id (off + m * sz)) := by
       unfold eszC at hsz
       unfold iaS
       split at hsz
       ·rename_i e _ _ _ ht
        try rw [ht]
        try dsimp only
        split at hsz
        ·rename_i j hj
         injection hsz with hsz
         subst hsz
         try rw [hj]
         first | rfl | rw [hb]
        ·cases hsz
       ·cases hsz
      obtain ⟨v,y,hd⟩ := iaS_ok (P := P) (nt := nt) (d := d) (pos := pos) (af := af) (gd := gd) (ty := ty) (h := ⟨z.F,z.w0,hp⟩) g hx hi hia
      exact yd_step g y hd h k
     ·cases h
    ·cases h
   ·exact go h
  ·exact go h
 ·rename_i x kx
  dsimp only at h
  split at h
  ·rename_i l hx
   split at h
   ·rename_i s hs
    refine go ?_
    rw [← h]
    show (match (match evS st.tm x with | some (.t l) => nth l kx | some _ => evP P (.extract x kx) ty st.tm | none => none) with | some s => putO nt.n d s st | none => none) = _
    simp only [hx,hs]
   ·cases h
  ·exact go h
 ·exact go h
 ·exact go h
 ·exact go h
 ·exact go h
 ·exact go h
 ·exact go h
 ·exact go h
 ·exact go h
 ·exact go h
 ·exact go h
 ·rename_i t x lo hi
  split at h
  ·rename_i hsr
   dsimp only at h
   have hs : ∃ i,lk t T = some i ∧ i.k = .sr := by
    unfold isSr at hsr
    split at hsr
    ·rename_i a b c e;exact ⟨_,e,rfl⟩
    ·cases hsr
   obtain ⟨i,hi1,hi2⟩ := hs
   unfold slsC at h
   split at h
   ·rename_i s hx
    split at h
    ·rename_i l hl
     split at h
     ·rename_i m hm
      split at h
      ·rename_i hb
       rw [Bool.and_eq_true,Nat.ble_eq,Nat.ble_eq] at hb
       obtain ⟨ux,x1,x2⟩ := g.ev hx
       have x2 : ux = _ := x2
       subst x2
       refine yd_step (s := .v (.string ⟨⟨(s.data.toList.drop l).take (m - l)⟩⟩)) g (v := .string ⟨⟨(s.data.toList.drop l).take (m - l)⟩⟩) ?_ rfl h k
       have := Yd.strSlice (P := P) (nt := nt) (d := d) (h := ⟨z.F,z.w0,hp⟩) (ty := ty) (pos := pos) (af := af) (gd := gd) x1 hi1 hi2 (bndS_ok g hl) (bndS_ok g hm) hb.1 hb.2
       rwa [extract_eq] at this
      ·cases h
     ·cases h
    ·cases h
   ·exact go h
  ·exact go h
 ·exact go h
end
end
end Go.Proofs.YtjpaaaecbgmcgaaGreatDoor.Ev
namespace Go.Proofs.YtjpaaaecbgmcgaaGreatDoor
open Go.RowKit
structure NilRec (P : Program) (g : FuncId) (m : Nat) : Prop where
 enter : ∀ (args : Array Value) (w : World),(callFunc g args).run P w = .ok (.enter g args) w
 out : ∀ (args : Array Value) (w : World),args.size = m → CallsDIn (RF none) 0 P g args .returning w fun e u w' => u = .returning ∧ (∃ v,e = .returned v) ∧ w' = w
def dfOp : Oper → Option (Operand × Option Tmp)
 | ⟨d,.defer c,_,_,_,none⟩ => match c.callee,c.args.toList with
  | .value x,[] => some (x,d)
  | _,_ => none
 | _ => none
def dfSplit : List Oper → Option (List Oper × Operand × Option Tmp)
 | [] => none
 | o :: r => match noDf o with
  | true => match dfSplit r with
   | some (l,x) => some (o :: l,x)
   | none => none
  | false => match r with
   | [] => match dfOp o with
    | some x => some ([],x)
    | none => none
   | _ => none
theorem dfSplit_cons {o : Oper} {r l : List Oper} {x : Operand × Option Tmp} (hn : noDf o = true) (h : dfSplit (o :: r) = some (l,x)) : ∃ l',l = o :: l' ∧ dfSplit r = some (l',x) := by
 simp only [dfSplit,hn] at h
 cases hq : dfSplit r with
 | none => rw [hq] at h;cases h
 | some p =>
  rw [hq] at h
  obtain ⟨l',x'⟩ := p
  simp only [Option.some.injEq,Prod.mk.injEq] at h
  exact ⟨l',h.1.symm,by rw [h.2]⟩
theorem dfOp_df {o : Oper} {x : Operand × Option Tmp} (h : dfOp o = some x) : o.guard = none ∧ o.dst = x.2 ∧ ∃ c : Call,o.op = .defer c ∧ c.callee = .value x.1 ∧ c.args = #[] := by
 unfold dfOp at h
 split at h
 ·rename_i d c t p a
  split at h
  ·rename_i y h1 h2
   simp only [Option.some.injEq] at h
   subst h
   exact ⟨rfl,rfl,c,rfl,h1,by
    have : c.args = c.args.toList.toArray := by simp
    rw [this,h2]⟩
  ·cases h
 ·cases h
theorem dfSplit_df {o : Oper} {r l : List Oper} {x : Operand × Option Tmp} (hn : noDf o = false) (h : dfSplit (o :: r) = some (l,x)) : r = [] ∧ l = [] ∧ o.guard = none ∧ o.dst = x.2 ∧ ∃ c : Call,o.op = .defer c ∧ c.callee = .value x.1 ∧ c.args = #[] := by
 simp only [dfSplit,hn] at h
 cases r with
 | cons => cases h
 | nil =>
  cases hq : dfOp o with
  | none => rw [hq] at h;cases h
  | some y =>
   rw [hq] at h
   simp only [Option.some.injEq,Prod.mk.injEq] at h
   obtain ⟨h1,rfl⟩ := h
   exact ⟨rfl,h1.symm,dfOp_df hq⟩
def dfR : Code → Bool
 | .region _ ops false => !(ops.toList.all noDf)
 | _ => false
theorem wpIn_thenQ {P : Program} {o : Oper} {a : Act} {w : World} {next : Act → World → Prop} {K : Act → World → Prop} {Q : Exit → Act → World → Prop} (h : o.wpIn (RF none) 0 P a w next (Exit.then K Q)) : o.wpIn (RF none) 0 P a w next Q := by
 refine ⟨h.1,?_⟩
 have h2 := h.2
 generalize (o.semAt (RF none).round a.eval).run P w = r at h2 ⊢
 cases r with
 | ok x w' =>
  cases x <;> first
   | exact h2
   | exact ⟨h2.1,h2.2.mono fun e w'' q => by cases e <;> exact q⟩
   | exact False.elim h2
 | halt x w' => cases x <;> first | exact h2 | exact False.elim h2
def dfQ (P : Program) (x : Operand × Option Tmp) (Q : Exit → Act → World → Prop) (a : Act) (w : World) : Prop := ∃ d,(Deferred.ofValue (a.eval x.1) #[]).run P w = .ok d w ∧ Q .normal ({ a with defers := d :: a.defers }.put x.2 undef) w
theorem df_list {P : Program} {ops : Array Oper} {Q : Exit → Act → World → Prop} {x : Operand × Option Tmp} : ∀ (l l1 : List Oper),dfSplit l = some (l1,x) → ∀ (a : Act) (w : World),
  Lw P ops (Exit.then (dfQ P x Q) Q) l1 a w → wpListIn (RF none) 0 P ops Q l a w
 | [],l1,h,a,w,k => by simp [dfSplit] at h
 | o :: r,l1,h,a,w,k => by
  cases hn : noDf o
  ·obtain ⟨rfl,rfl,hg,hdst,c,h1,h2,h3⟩ := dfSplit_df hn h
   unfold Lw at k
   obtain ⟨d,k1,k2⟩ := k
   unfold wpListIn
   rw [if_pos (by simp [Region.wanted,hg])]
   refine ⟨fun f _ => trivial,?_⟩
   have e : (o.semAt (RF none).round a.eval).run P w = .ok (.defer d) w := by
    show (execOp a.eval o).run P w = _
    simp [execOp,h1,resolve,h2,h3,k1,Result.andThen]
   rw [e]
   show Q .normal _ _
   rw [hdst]
   exact k2
  ·obtain ⟨l',rfl,h'⟩ := dfSplit_cons hn h
   unfold wpListIn
   unfold Lw at k
   split
   ·rename_i hw
    rw [if_pos hw] at k
    refine wpIn_thenQ (K := dfQ P x Q) ?_
    refine Oper.wpIn_mono (fun a w k => df_list r l' h' a w k) (k.elim (fun k => oper_RF hn k none) fun k => k none)
   ·rename_i hw
    rw [if_neg hw] at k
    exact ⟨fun f _ => trivial,df_list r l' h' _ w k⟩
section
variable {P : Program} {T : List (Nat × Ty)} [hT : Tys P T]
end
end Go.Proofs.YtjpaaaecbgmcgaaGreatDoor
