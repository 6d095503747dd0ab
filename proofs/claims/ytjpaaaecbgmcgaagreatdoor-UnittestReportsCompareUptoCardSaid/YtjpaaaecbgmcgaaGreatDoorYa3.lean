/-
  Part 3 of the proofs of ureport_holds, ucompare_holds, ureports_holds: laws and contracts that they need.
-/
import Derived.Test.YtjpaaaecbgmcgaaGreatDoorYa2
import Derived.LaidEql
set_option linter.unusedVariables false
set_option linter.unusedSimpArgs false
namespace Go.Proofs.YtjpaaaecbgmcgaaGreatDoor
open Go.RowKit
def strLt (a b : ByteArray) : Bool := Op.bytesLess a.toList b.toList
structure Brn (b : Bool) (X Y : Prop) : Prop where
 t : b = true → X
 f : b = false → Y
structure Rng (z : Int) (X : Prop) : Prop where
 r : -9223372036854775808 ≤ z ∧ z ≤ 9223372036854775807
 k : X
structure Ix (rs : List (List V)) (i : Int) (K : List V → Prop) : Prop where
 out : ∃ (m : Nat) (row : List V),i = (m : Int) ∧ rs[m]? = some row ∧ K row
structure Ixo (n : Nat) (i : Int) (K : Nat → Prop) : Prop where
 out : ∃ m : Nat,i = (m : Int) ∧ m < n ∧ K m
structure Rw {α : Type} (rs : List (List α)) (i : Nat) (K : List α → Prop) : Prop where
 out : ∃ row,rs[i]? = some row ∧ K row
structure Slc (n : Nat) (lo hi : Int) (K : Nat → Nat → Prop) : Prop where
 out : ∃ l m : Nat,lo = (l : Int) ∧ hi = (m : Int) ∧ l ≤ m ∧ m ≤ n ∧ K l m
structure Slc3 (n : Nat) (lo hi mx : Int) (X : Prop) : Prop where
 out : ∃ l m q : Nat,lo = (l : Int) ∧ hi = (m : Int) ∧ mx = (q : Int) ∧ l ≤ m ∧ m ≤ q ∧ q ≤ n
 k : X
structure Apd (n n' m m' bytes : Nat) (K : Prop) : Prop where
 hn : n = n'
 hm : m = m'
 hb : (n + m) * bytes ≤ 140737488355328
 hx : n + m ≤ maxLen
 k : K
structure Bnd (n : Nat) (X : Prop) : Prop where
 k : n ≤ maxLen → X
structure Cat (n : Nat) (X : Prop) : Prop where
 h : n ≤ maxLen
 k : X
abbrev Kt : Type := List (Nat × SV) → List (Nat × Ob) → Prop
def borD (ob : List (Nat × Ob)) : D → Option V
 | .u x => some x
 | .ow k _ => match lk k ob with
  | some (.ar _ sz rs) => some (.sl sz rs)
  | _ => none
 | D.r k i o sz _ => match lk k ob with
  | some (.fm _ rs) => match nth rs i with
   | some row => match nth row o with
    | some (.os _ s2 rr) => bif Nat.beq s2 sz then some (.sl sz rr) else none
    | _ => none
   | none => none
  | _ => none
 | _ => none
def borL (ob : List (Nat × Ob)) : List D → Option (List V)
 | [] => some []
 | x :: r => match borD ob x with
  | none => none
  | some y => match borL ob r with
   | none => none
   | some l => some (y :: l)
def borS (ob : List (Nat × Ob)) : SV → Option SV
 | .d x => match borD ob x with
  | some y => some (.d (.u y))
  | none => none
 | .a xs => match borL ob xs with
  | some ys => some (.a (upT ys))
  | none => none
 | .t _ => none
structure Len (a b : Nat) (X : Prop) : Prop where
 h : a = b
 k : X
def needD (ob : List (Nat × Ob)) (X : Prop) : D → Prop
 | .ow k n => match lk k ob with
  | some (.ar _ _ rs) => Len rs.length n X
  | _ => X
 | D.r k i o _ n => match lk k ob with
  | some (.fm _ rs) => match nth rs i with
   | some row => match nth row o with
    | some (.os _ _ rr) => Len rr.length n X
    | _ => X
   | none => X
  | _ => X
 | _ => X
def needL (ob : List (Nat × Ob)) (X : Prop) : List D → Prop
 | [] => X
 | x :: r => needD ob (needL ob X r) x
def needS (ob : List (Nat × Ob)) (X : Prop) : SV → Prop
 | .d x => needD ob X x
 | .a xs => needL ob X xs
 | .t _ => X
def ownD : D → Bool
 | .ow _ _ => true
 | D.r .. => true
 | _ => false
def ownL : List D → Bool
 | [] => false
 | x :: r => bif ownD x then true else ownL r
def ownS : SV → Bool
 | .d x => ownD x
 | .a xs => ownL xs
 | .t _ => true
def pureL : List D → Bool
 | [] => true
 | .u _ :: r => pureL r
 | _ :: _ => false
def pureC : List SC → Bool
 | [] => true
 | .d (.u _) :: r => pureC r
 | .d _ :: _ => false
 | .a xs :: r => bif pureL xs then pureC r else false
def pureS : SV → Bool
 | .d (.u _) => true
 | .d _ => false
 | .a xs => pureL xs
 | .t vs => pureC vs
def flatV : V → Bool
 | .sl _ _ => false
 | .m _ _ _ => false
 | .cl _ _ => false
 | .fz _ _ => false
 | _ => true
def flatL : List D → Bool
 | [] => true
 | .u x :: r => bif flatV x then flatL r else false
 | _ :: _ => false
def flatC : List SC → Bool
 | [] => true
 | .d (.u x) :: r => bif flatV x then flatC r else false
 | .d _ :: _ => false
 | .a xs :: r => bif flatL xs then flatC r else false
def flatS : SV → Bool
 | .d (.u x) => flatV x
 | .d _ => false
 | .a xs => flatL xs
 | .t vs => flatC vs
def slT : Nat → List SV → List (Nat × SV)
 | _,[] => []
 | n,v :: vs => (n,v) :: slT (n + 1) vs
def FnOk (P : Program) (f : FuncId) : Prop := ∃ fn c, P.funcs[f]? = some fn ∧ fn.body = some c ∧ (fn.name == "runtime.NumGoroutine") = false
structure CallsA (P : Program) (f : FuncId) (ss : List SV) (ob : List (Nat × Ob)) (Q : SV → List (Nat × Ob) → Prop) : Prop where
 fn : FnOk P f
 out : ∀ (c : Cx) (ρ : Rho) (hp : List (Nat × Hb)) (vs : List Value) (w : World),Hp ⟨c.F,c.w,hp⟩ w → vs.length = ss.length → Gd c ⟨slT 0 ss,ob⟩ (slots 0 vs) ⟨c.F,c.w,hp⟩ ρ c.G →
  Calls P f vs.toArray w fun e w' => ∃ v h' s ob' ρ' G',e = .returned v ∧ Hp h' w' ∧ Gd c ⟨[(0,s)],ob'⟩ [(0,v)] h' ρ' G' ∧ Q s ob'
structure Cl (P : Program) (f : FuncId) (ss : List SV) (own : Bool) (K : SV → Prop) : Prop where
 out : CallsA P f ss [] fun s ob => ob = [] ∧ pureS s = true ∧ (own = true → flatS s = true) ∧ K s
structure Raw (P : Program) (nt : Nt) (o : Oper) (tmT : List (Nat × SV)) (ob : List (Nat × Ob)) (K : Kt) : Prop where
 out : ∀ (Q : Exit → Act → World → Prop) (c : Cx) (tm : List (Nat × Value)) (h : Hs) (ρ : Rho) (G : FG),Gd c ⟨tmT,ob⟩ tm h ρ G → OpS P nt Q o tm h (Kd c K)
def Kk (h0 : Hs) (c : Cx) (K : Kt) (tm : List (Nat × Value)) (h : Hs) : Prop := ∃ st ρ G h',(∀ w,Hp h w → Hp h' w) ∧ (∀ w,Hp h' w → Hp h0 w) ∧ Gd c st tm h' ρ G ∧ K st.tm st.ob
theorem Kk.of {h0 : Hs} {c : Cx} {K : Kt} {tm : List (Nat × Value)} {h : Hs} {st : St} {ρ : Rho} {G : FG} (kp : ∀ w,Hp h w → Hp h0 w) (g : Gd c st tm h ρ G) (k : K st.tm st.ob) : Kk h0 c K tm h := ⟨st,ρ,G,h,fun _ hw => hw,kp,g,k⟩
theorem Kk.kd {h0 : Hs} {c : Cx} {K : Kt} {tm : List (Nat × Value)} {h : Hs} (k : Kk h0 c K tm h) : Kd c K tm h := by
 obtain ⟨st,ρ,G,h',h1,_,h3,h4⟩ := k
 exact ⟨st,ρ,G,h',h1,h3,h4⟩
structure RawK (P : Program) (nt : Nt) (o : Oper) (tmT : List (Nat × SV)) (ob : List (Nat × Ob)) (K : Kt) : Prop where
 out : ∀ (Q : Exit → Act → World → Prop) (c : Cx) (tm : List (Nat × Value)) (h : Hs) (ρ : Rho) (G : FG),Gd c ⟨tmT,ob⟩ tm h ρ G → OpS P nt Q o tm h (Kk h c K)
section
variable (P : Program) (T : List (Nat × Ty)) (nt : Nt)
def putT (d : Option Nat) (s : SV) (tm : List (Nat × SV)) (ob : List (Nat × Ob)) (K : Kt) : Prop := match d with
 | some d => bif Nat.blt d nt then K ((d,s) :: tm) (ob) else False
 | none => False
def arithT : BinOp → Int → Int → Option Int
 | .add,m,n => some (m + n)
 | .sub,m,n => some (m - n)
 | .mul,m,n => some (m * n)
 | _,_,_ => none
def argsT (ob : List (Nat × Ob)) (tm : List (Nat × SV)) : List Operand → Option (List SV)
 | [] => some []
 | x :: r => match evT tm x with
  | none => none
  | some s => match borS ob s with
   | none => none
   | some s' => match argsT ob tm r with
    | none => none
    | some l => some (s' :: l)
def needA (ob : List (Nat × Ob)) (tm : List (Nat × SV)) (X : Prop) : List Operand → Prop
 | [] => X
 | x :: r => match evT tm x with
  | none => X
  | some s => needS ob (needA ob tm X r) s
def ownA (tm : List (Nat × SV)) : List Operand → Bool
 | [] => false
 | x :: r => match evT tm x with
  | none => true
  | some s => bif ownS s then true else ownA tm r
def frD (k sz : Nat) (rs : List (List V)) : D → D
 | .ow j n => bif Nat.beq j k then .u (.sl sz rs) else .ow j n
 | d => d
def frL (k sz : Nat) (rs : List (List V)) : List D → List D
 | [] => []
 | x :: r => frD k sz rs x :: frL k sz rs r
def frC (k sz : Nat) (rs : List (List V)) : List SC → List SC
 | [] => []
 | .d x :: r => .d (frD k sz rs x) :: frC k sz rs r
 | .a xs :: r => .a (frL k sz rs xs) :: frC k sz rs r
def frS (k sz : Nat) (rs : List (List V)) : SV → SV
 | .d x => .d (frD k sz rs x)
 | .a xs => .a (frL k sz rs xs)
 | .t vs => .t (frC k sz rs vs)
def frNeedD (k : Nat) (rs : List (List V)) (X : Prop) : D → Prop
 | .ow j n => bif Nat.beq j k then Len rs.length n X else X
 | _ => X
def frNeedL (k : Nat) (rs : List (List V)) (X : Prop) : List D → Prop
 | [] => X
 | x :: r => frNeedD k rs (frNeedL k rs X r) x
def frNeedC (k : Nat) (rs : List (List V)) (X : Prop) : List SC → Prop
 | [] => X
 | .d x :: r => frNeedD k rs (frNeedC k rs X r) x
 | .a xs :: r => frNeedL k rs (frNeedC k rs X r) xs
def frNeedS (k : Nat) (rs : List (List V)) (X : Prop) : SV → Prop
 | .d x => frNeedD k rs X x
 | .a xs => frNeedL k rs X xs
 | .t vs => frNeedC k rs X vs
def frTm (k sz : Nat) (rs : List (List V)) : List (Nat × SV) → List (Nat × SV)
 | [] => []
 | (j,s) :: r => (j,frS k sz rs s) :: frTm k sz rs r
def frNeedT (k : Nat) (rs : List (List V)) (X : Prop) : List (Nat × SV) → Prop
 | [] => X
 | (_,s) :: r => frNeedS k rs (frNeedT k rs X r) s
def frOb (k sz : Nat) (rs : List (List V)) : List (Nat × Ob) → List (Nat × Ob)
 | [] => []
 | (j,.bx t cs) :: r => (j,.bx t (frL k sz rs cs)) :: frOb k sz rs r
 | (j,.ar t m ss) :: r => (j,.ar t m ss) :: frOb k sz rs r
 | (j,.fm t ss) :: r => (j,.fm t ss) :: frOb k sz rs r
 | (j,.mp a b es) :: r => (j,.mp a b es) :: frOb k sz rs r
 | (j,.fa t m ss) :: r => (j,.fa t m ss) :: frOb k sz rs r
 | (j,.ab cs us zb φ) :: r => (j,.ab (frL k sz rs cs) us zb φ) :: frOb k sz rs r
def frNeedO (k : Nat) (rs : List (List V)) (X : Prop) : List (Nat × Ob) → Prop
 | [] => X
 | (_,.bx _ cs) :: r => frNeedL k rs (frNeedO k rs X r) cs
 | (_,.ar _ _ _) :: r => frNeedO k rs X r
 | (_,.fm _ _) :: r => frNeedO k rs X r
 | (_,.mp _ _ _) :: r => frNeedO k rs X r
 | (_,.fa _ _ _) :: r => frNeedO k rs X r
 | (_,.ab cs _ _ _) :: r => frNeedL k rs (frNeedO k rs X r) cs
def frAll (K : Kt) : List Nat → Kt
 | [],tm,ob => K tm ob
 | k :: r,tm,ob => match lk k ob with
  | some (.ar _ sz rs) => frNeedT k rs (frNeedO k rs (frAll K r (frTm k sz rs tm) (frOb k sz rs (obr k ob))) (obr k ob)) tm
  | _ => False
def namD : D → List Nat → List Nat
 | .ow k _,l => bif l.contains k then l else k :: l
 | _,l => l
def namL : List D → List Nat → List Nat
 | [],l => l
 | x :: r,l => namL r (namD x l)
def namS : SV → List Nat → List Nat
 | .d x,l => namD x l
 | .a xs,l => namL xs l
 | .t _,l => l
def namA (tm : List (Nat × SV)) : List Operand → List Nat → List Nat
 | [],l => l
 | x :: r,l => match evT tm x with
  | some s => namA tm r (namS s l)
  | none => l
structure ClO (A B : Prop) : Prop where
 out : A ∨ B
structure CL (A B : Prop) : Prop where
 out : A ∨ B
def rowsT (ob : List (Nat × Ob)) : SV → Option (List (List V) × Nat × Option Nat)
 | .d (.u .nl) => some ([],0,none)
 | .d (.u (.sl _ rs)) => some (rs,rs.length,none)
 | .d (.ow k n) => match lk k ob with
  | some (.ar _ _ rs) => some (rs,n,some k)
  | _ => none
 | _ => none
def szT (ob : List (Nat × Ob)) (n : Nat) : SV → Bool
 | .d (.u .nl) => true
 | .d (.u (.sl m _)) => Nat.beq m n
 | .d (.ow k _) => match lk k ob with
  | some (.ar _ m _) => Nat.beq m n
  | some (.fa _ m _) => Nat.beq m n
  | _ => false
 | _ => false
def tyT (ob : List (Nat × Ob)) (e : Nat) : SV → Bool
 | .d (.ow k _) => match lk k ob with
  | some (.ar u _ _) => Nat.beq u e
  | _ => false
 | _ => true
def obx : Option Nat → List (Nat × Ob) → List (Nat × Ob)
 | some k,ob => obr k ob
 | none,ob => ob
def opnd (tm : List (Nat × SV)) (dflt : Int) : Option Operand → Option Int
 | none => some dflt
 | some x => match evT tm x with
  | some (.d (.u (.int _ i))) => some i
  | _ => none
def litRows (zs : List V) : Nat → List (Nat × SV) → Nat → Option (List (List V))
 | 0,[],_ => some []
 | 0,_ :: _,_ => none
 | n + 1,[],i => match litRows zs n [] (i + 1) with
  | some r => some (zs :: r)
  | none => none
 | n + 1,(j,s) :: l,i => bif Nat.beq j i then match cellsOfT s with
   | some xs => match borL [] xs with
    | some ys => bif Nat.beq ys.length zs.length then match litRows zs n l (i + 1) with
      | some r => some (ys :: r)
      | none => none
     else none
    | none => none
   | none => none
  else match litRows zs n ((j,s) :: l) (i + 1) with
   | some r => some (zs :: r)
   | none => none
def D.inF (k : Nat) : D → Bool
 | D.r j .. => Nat.beq j k
 | D.re j .. => Nat.beq j k
 | _ => false
def inFL (k : Nat) : List D → Bool
 | [] => false
 | x :: r => bif x.inF k then true else inFL k r
def inFC (k : Nat) : List SC → Bool
 | [] => false
 | .d x :: r => bif x.inF k then true else inFC k r
 | .a xs :: r => bif inFL k xs then true else inFC k r
def SV.inF (k : Nat) : SV → Bool
 | .d x => x.inF k
 | .a xs => inFL k xs
 | .t vs => inFC k vs
def inKs : List Nat → Nat → Bool
 | [],_ => false
 | k :: r,j => bif Nat.beq j k then true else inKs r j
def dropK (k : Nat) : List Nat → List (Nat × SV) → List (Nat × SV)
 | _,[] => []
 | ks,(j,s) :: r => bif inKs ks j then dropK k ks r else bif s.inF k then dropK k (j :: ks) r else (j,s) :: dropK k ks r
def dropT (k : Nat) (tm : List (Nat × SV)) : List (Nat × SV) := dropK k [] tm
def dropL (k : Nat) : List D → List D
 | [] => []
 | x :: r => (bif x.inF k then .any else x) :: dropL k r
def dropO (k : Nat) : List (Nat × Ob) → List (Nat × Ob)
 | [] => []
 | (j,.bx t cs) :: r => (j,.bx t (dropL k cs)) :: dropO k r
 | (j,.ar t sz rs) :: r => (j,.ar t sz rs) :: dropO k r
 | (j,.fm t rs) :: r => (j,.fm t rs) :: dropO k r
 | (j,.mp a b es) :: r => (j,.mp a b es) :: dropO k r
 | (j,.fa t m ss) :: r => (j,.fa t m ss) :: dropO k r
 | (j,.ab cs us zb φ) :: r => (j,.ab (dropL k cs) us zb φ) :: dropO k r
structure Spc (K : List (Nat × (Nat × Nat)) → Prop) : Prop where
 out : ∃ sp,K sp
def mkE (sp : List (Nat × (Nat × Nat))) : Nat → List V → List E
 | _,[] => []
 | o,x :: r => (match x with
  | .nl => (match lk o sp with
   | some (ty,sz) => .os ty sz []
   | none => .v .nl)
  | x => .v x) :: mkE sp (o + 1) r
def famT (t : Nat) : List (Nat × Ob) → Option (Nat × List (List E))
 | [] => none
 | (k,.fm u rs) :: r => bif Nat.beq u t then some (k,rs) else famT t r
 | _ :: r => famT t r
def famNo (k : Nat) : List (Nat × Ob) → Bool
 | [] => true
 | (j,_) :: r => bif Nat.beq k j then false else famNo k r
def famOne (k : Nat) : List (Nat × Ob) → Bool
 | [] => false
 | (j,_) :: r => bif Nat.beq k j then famNo k r else famOne k r
def vzT : List Value → Option (List V)
 | [] => some []
 | v :: r => match zeroT v with
  | none => none
  | some d => match vzT r with
   | none => none
   | some l => some (d :: l)
def ptrT : SV → Option (Bool × Option (Nat × Nat × Nat))
 | .d (.u .pn) => some (false,none)
 | .d (.u (.m k i o)) => some (true,some (k,i,o))
 | .d (.p _ _) => some (true,none)
 | .d (.e _ _ _) => some (true,none)
 | .d (.q _ _) => some (true,none)
 | .d (.re _ _ _ _ _) => some (true,none)
 | _ => none
structure Pm (i j n : Nat) (K : Bool → Prop) : Prop where
 hi : i < n
 hj : j < n
 k : K (decide (i = j))
def eqlT (op : BinOp) (K : SV → Prop) (r : Bool) : Option Prop := match op with
 | .eql => some (K (.d (.u (.bool r))))
 | .neq => some (K (.d (.u (.bool (!r)))))
 | _ => none
def neqT : BinOp → Option Bool
 | .eql => some false
 | .neq => some true
 | _ => none
def notT (b r : Bool) : Bool := bif b then !r else r
def cmpPT (T : List (Nat × Ty)) (ob : List (Nat × Ob)) (op : BinOp) (t : TypeId) (sx sy : SV) (K : SV → Prop) : Option Prop := match ptrT sx with
 | none => none
 | some (a,ma) => match ptrT sy with
  | none => none
  | some (b,mb) => match lk t T with
   | none => none
   | some i => match i.k with
    | .pt e => match a,b with
     | true,true => match ma,mb with
      | some (k,i,o),some (k',i',o') => bif Nat.beq k k' && Nat.beq o o' then match lk k ob with
        | some (.fm _ rs) => match lk e T with
         | some j => bif Nat.blt 0 j.size then match neqT op with
           | some ng => some (Pm i i' rs.length fun r => K (.d (.u (.bool (notT ng r)))))
           | none => none
          else none
         | none => none
        | _ => none
       else none
      | _,_ => none
     | false,false => eqlT op K true
     | _,_ => eqlT op K false
    | _ => none
structure Sbx (s : ByteArray) (i : Int) (K : Int → Prop) : Prop where
 out : ∃ (n : Nat) (h : n < s.size),i = (n : Int) ∧ K (s[n].toNat : Int)
def keyC : Tk → V → Bool
 | .in_ k,.int k' _ => ikEqT k k'
 | .bo,.bool _ => true
 | .sr,.str _ => true
 | _,_ => false
def keyT (k : Tk) : List V → Bool
 | [x] => keyC k x
 | _ => false
def eqC : V → V → Bool
 | .int _ a,.int _ b => decide (a = b)
 | .bool a,.bool b => a == b
 | .str a,.str b => decide (a = b)
 | _,_ => false
def eqCs : List V → List V → Bool
 | [],[] => true
 | x :: xs,y :: ys => bif eqC x y then eqCs xs ys else false
 | _,_ => false
def mixT : List (List V × List V) → List V → Option Nat
 | [],_ => none
 | e :: r,x => bif eqCs x e.1 then some 0 else match mixT r x with
  | some j => some (j + 1)
  | none => none
def mgetT : List (List V × List V) → List V → List V → List V
 | [],_,z => z
 | e :: r,x,z => bif eqCs x e.1 then e.2 else mgetT r x z
def mhasT : List (List V × List V) → List V → Bool
 | [],_ => false
 | e :: r,x => bif eqCs x e.1 then true else mhasT r x
def mputT : List (List V × List V) → List V → List V → List (List V × List V)
 | [],x,v => [(x,v)]
 | e :: r,x,v => bif eqCs x e.1 then (x,v) :: r else e :: mputT r x v
def eqB : Bool → Bool → Bool
 | true,true => true
 | false,false => true
 | _,_ => false
def zAgg (P : Program) (t : TypeId) : Option Bool := match P.info? t with
 | some f => match f.zero with
  | some (.agg _) => some true
  | some _ => some false
  | none => none
 | none => none
def entsT (ob : List (Nat × Ob)) : SV → Option (Bool × List (List V × List V))
 | .d (.mp k) => match lk k ob with
  | some (.mp false vg es) => some (vg,es)
  | _ => none
 | .d (.u (.fz vg es)) => some (vg,es)
 | _ => none
def keyFs (T : List (Nat × Ty)) : List (Nat × TypeId) → Nat → List V → Bool
 | [],_,[] => true
 | (off,ft) :: fs,i,x :: xs => bif Nat.beq off i then (match lk ft T with
  | some j => bif keyC j.k x then keyFs T fs (i + 1) xs else false
  | none => false) else false
 | _,_,_ => false
def keyS (T : List (Nat × Ty)) (k : Tk) (cs : List V) : Bool := match k with
 | .st fs => keyFs T fs 0 cs
 | _ => false
def entsS (ob : List (Nat × Ob)) : SV → Option (Bool × List (List V × List V))
 | .d (.mp k) => match lk k ob with
  | some (.mp true vg es) => some (vg,es)
  | _ => none
 | _ => none
structure Mls (P : Program) (T : List (Nat × Ty)) (kt : TypeId) (kk : Tk) (et : TypeId) (vg : Bool) (es : List (List V × List V)) (x z : List V) (K : List V → Bool → Prop) : Prop where
 ek : eqChk P kt = true
 zk : zAgg P et = some vg
 ok : ∀ e ∈ es,keyS T kk e.1 = true
 out : K (mgetT es x z) (mhasT es x)
structure Mlk (P : Program) (kk : Tk) (et : TypeId) (vg : Bool) (es : List (List V × List V)) (x z : List V) (K : List V → Bool → Prop) : Prop where
 zk : zAgg P et = some vg
 ok : ∀ e ∈ es,keyT kk e.1 = true
 out : K (mgetT es x z) (mhasT es x)
def valC (g : Bool) (cs : List V) : Option SC := match g with
 | true => some (.a (upT cs))
 | false => match cs with
  | [c] => some (.d (.u c))
  | _ => none
def aggS : SV → Bool
 | .a _ => true
 | _ => false
def vcY (op : Op) (tm : List (Nat × SV)) (ob : List (Nat × Ob)) (K : SV → Prop) : Option Prop :=
 match yT T tm ob op with
 | some s => some (K s)
 | none => match op with
  | .pick c x y => match evT tm c with
   | some (.d (.u (.bool b))) => match evT tm x with
    | some s => match evT tm y with
     | some s' => some (Brn b (K s) (K s'))
     | none => some (Brn b (K s) False)
    | none => match evT tm y with
     | some s' => some (Brn b False (K s'))
     | none => none
   | _ => none
  | .binOp op t x y _ => match evT tm x with
   | some (.d (.u (.int .i64 m))) => match evT tm y with
    | some (.d (.u (.int .i64 n))) => match arithT op m n with
     | some r => some (Rng r (K (.d (.u (.int .i64 r)))))
     | none => none
    | _ => none
   | some (.d (.u (.str a))) => match evT tm y with
    | some (.d (.u (.str b))) => match op with
     | .add => some (Cat (a.size + b.size) (K (.d (.u (.str (a ++ b))))))
     | .lss => some (K (.d (.u (.bool (strLt a b)))))
     | .gtr => some (K (.d (.u (.bool (!(strLt a b || a.toList == b.toList))))))
     | _ => none
    | _ => none
   | some (.d (.u (.bool a))) => match evT tm y with
    | some (.d (.u (.bool b))) => match lk t T with
     | none => none
     | some i => match i.k with
      | .bo => match op with
       | .eql => some (K (.d (.u (.bool (a == b)))))
       | .neq => some (K (.d (.u (.bool (!(a == b))))))
       | _ => none
      | _ => none
    | _ => none
   | some (.a xs) => match evT tm y with
    | some (.a ys) => match lk t T with
     | none => none
     | some i => match i.k with
      | .st fs => match eqT T fs 0 xs ys with
       | none => none
       | some p => match op with
        | .eql => some (Eqv P t (K (.d (.u (.bool p)))))
        | .neq => some (Eqv P t (K (.d (.u (.bool (!p))))))
        | _ => none
      | _ => none
    | _ => none
   | some sx => match evT tm y with
    | some sy => cmpPT T ob op t sx sy K
    | none => none
   | none => none
  | .unOp .neg _ x => match evT tm x with
   | some (.d (.u (.int .i64 n))) => some (Rng (-n) (Rng n (K (.d (.u (.int .i64 (-n)))))))
   | _ => none
  | .load t x => match evT tm x with
   | some (.d (.e k m off)) => match lk k ob with
    | some (.ar _ _ rs) => match lk t T with
     | none => none
     | some i => some (Rw rs m fun row => match i.k.agg with
      | true => match cutT row off i.size with
       | some l => K (.a (upT l))
       | none => False
      | false => match nth row off with
       | some v => K (.d (.u v))
       | none => False)
    | some (.fa _ _ rs) => match lk t T with
     | none => none
     | some i => some (Rw rs m fun row => match i.k.agg with
      | true => match cutE k m row off i.size with
       | some l => K (.a l)
       | none => False
      | false => match nth row off with
       | some e => match eD k m off e with
        | some d => K (.d d)
        | none => False
       | none => False)
    | _ => none
   | some (.d (.u (.m k m off))) => match lk k ob with
    | some (.fm _ rs) => match lk t T with
     | none => none
     | some i => some (Rw rs m fun row => match i.k.agg with
      | true => match cutE k m row off i.size with
       | some l => K (.a l)
       | none => False
      | false => match nth row off with
       | some e => match eD k m off e with
        | some d => K (.d d)
        | none => False
       | none => False)
    | _ => none
   | some (.d (.re k m o j off)) => match lk k ob with
    | some (.fm _ rs) => match lk t T with
     | none => none
     | some i => some (Rw rs m fun row => match nth row o with
      | some (.os _ _ rr) => Rw rr j fun r2 => match i.k.agg with
       | true => match cutT r2 off i.size with
        | some l => K (.a (upT l))
        | none => False
       | false => match nth r2 off with
        | some v => K (.d (.u v))
        | none => False
      | _ => False)
    | some (.fa _ _ rs) => match lk t T with
     | none => none
     | some i => some (Rw rs m fun row => match nth row o with
      | some (.os _ _ rr) => Rw rr j fun r2 => match i.k.agg with
       | true => match cutT r2 off i.size with
        | some l => K (.a (upT l))
        | none => False
       | false => match nth r2 off with
        | some v => K (.d (.u v))
        | none => False
      | _ => False)
    | _ => none
   | _ => none
  | .indexAddr t x ix => match evT tm ix with
   | some (.d (.u (.int _ i))) => match lk t T with
    | none => none
    | some ti => match ti.k with
     | .sl e => match lk e T with
      | none => none
      | some j => match evT tm x with
       | some (.d (.u (.sl sz rs))) => bif Nat.beq sz j.size then some (Ix rs i fun row => K (.d (.q row 0))) else none
       | some (.d (.ow k n)) => bif szT ob j.size (.d (.ow k n)) then some (Ixo n i fun m => K (.d (.e k m 0))) else none
       | some (.d (.r k a o sz n)) => bif Nat.beq sz j.size then some (Ixo n i fun m => K (.d (.re k a o m 0))) else none
       | _ => none
     | .ar n e => match lk e T with
      | none => none
      | some j => match evT tm x with
       | some s => match plusT s 0 with
        | some _ => some (Ixo n i fun m => match plusT s (m * j.size) with
         | some s' => K s'
         | none => False)
        | none => none
       | none => none
     | _ => none
   | _ => none
  | .slice t x lo hi none => match lk t T with
   | none => none
   | some ti => match ti.k with
    | .sl e => match lk e T with
     | none => none
     | some j => match evT tm x with
      | some (.d (.u (.sl sz rs))) => match opnd tm 0 lo with
       | none => none
       | some l => match opnd tm rs.length hi with
        | none => none
        | some m => bif Nat.beq sz j.size then some (Slc rs.length l m fun l m => K (.d (.u (.sl sz ((rs.take m).drop l))))) else none
      | some (.d (.ow k n)) => match lk k ob with
       | some (.ar _ m0 rs) => bif Nat.beq m0 j.size then match lo with
         | none => match opnd tm n hi with
          | none => none
          | some m => some (Slc rs.length 0 m fun _ m => K (.d (.ow k m)))
         | some y => match opnd tm 0 (some y) with
          | none => none
          | some l => match opnd tm n hi with
           | none => none
           | some m => some (Slc rs.length l m fun l m => K (.d (.ows k l (m - l))))
        else none
       | _ => none
      | _ => none
    | .sr => match evT tm x with
     | some (.d (.u (.str s))) => match opnd tm 0 lo with
      | none => none
      | some l => match opnd tm s.size hi with
       | none => none
       | some m => some (Slc s.size l m fun l m => K (.d (.u (.str (s.extract l m)))))
     | _ => none
    | _ => none
  | .slice t x lo (some hi) (some mx) => match lk t T with
   | none => none
   | some ti => match ti.k with
    | .sl e => match lk e T with
     | none => none
     | some _ => match opnd tm 0 lo with
      | none => none
      | some l => match opnd tm 0 (some hi) with
       | none => none
       | some m => match opnd tm 0 (some mx) with
        | none => none
        | some q => match evT tm x with
         | some (.d (.u (.sl _ rs))) => some (Slc3 rs.length l m q (K (.d .any)))
         | some (.d (.ow k n)) => match lk k ob with
          | some (.ar _ _ rs) => some (Slc3 rs.length l m q (K (.d .any)))
          | _ => none
         | _ => none
    | _ => none
  | .call ⟨.builtin .len,xs,ts⟩ => match xs.toList with
   | [x] => match ts.toList with
    | [t] => match lk t T with
     | none => none
     | some i => match i.k with
      | .sl _ => match evT tm x with
       | some (.d (.u (.sl _ rs))) => some (Bnd rs.length (K (.d (.u (.int .i64 (rs.length : Int))))))
       | some (.d (.ow k n)) => match lk k ob with
        | some (.ar _ _ _) => some (Bnd n (K (.d (.u (.int .i64 (n : Int))))))
        | some (.fa _ _ _) => some (Bnd n (K (.d (.u (.int .i64 (n : Int))))))
        | _ => none
       | some (.d (.u .nl)) => some (K (.d (.u (.int .i64 0))))
       | some (.d (.r _ _ _ _ n)) => some (Bnd n (K (.d (.u (.int .i64 (n : Int))))))
       | _ => none
      | .sr => match evT tm x with
       | some (.d (.u (.str s))) => some (Bnd s.size (K (.d (.u (.int .i64 (s.size : Int))))))
       | _ => none
      | _ => none
    | _ => none
   | _ => none
  | .call ⟨.builtin .min,xs,_⟩ => match xs.toList with
   | [x,y] => match evT tm x with
    | some (.d (.u (.int k m))) => match evT tm y with
     | some (.d (.u (.int _ n))) => some (K (.d (.u (.int k (min m n)))))
     | _ => none
    | _ => none
   | _ => none
  | .index t x y => match lk t T with
   | none => none
   | some ti => match ti.k with
    | .sr => match evT tm x with
     | some (.d (.u (.str s))) => match evT tm y with
      | some (.d (.u (.int _ i))) => some (Sbx s i fun b => K (.d (.u (.int .u8 b))))
      | _ => none
     | _ => none
    | _ => none
  | .lookup t x ix ok => match lk t T with
   | none => none
   | some ti => match ti.k with
    | .mp kt et => match lk kt T with
     | none => none
     | some ik => match lk et T with
      | none => none
      | some ie => match vzT ie.zero with
       | none => none
       | some zs => match evT tm x with
        | some sx => match entsT ob sx with
         | some (vg,es) => match evT tm ix with
          | some (.d (.u y)) => match eqB vg ie.k.agg && keyC ik.k y with
           | true => some (Mlk P ik.k et vg es [y] zs fun row has => match valC vg row with
            | none => False
            | some c => match ok with
             | true => K (.t [c,.d (.u (.bool has))])
             | false => K c.up)
           | false => none
          | _ => none
         | none => match entsS ob sx with
          | some (vg,es) => match evT tm ix with
           | some (.a cs) => match borL [] cs with
            | some ys => match eqB vg ie.k.agg && keyS T ik.k ys with
             | true => some (Mls P T kt ik.k et vg es ys zs fun row has => match valC vg row with
              | none => False
              | some c => match ok with
               | true => K (.t [c,.d (.u (.bool has))])
               | false => K c.up)
             | false => none
            | none => none
           | _ => none
          | none => none
        | none => none
    | _ => none
  | _ => none
def vcA (d : Option Tmp) (f : FuncId) (xs : Array Operand) (tm : List (Nat × SV)) (ob : List (Nat × Ob)) (K : Kt) : Prop := match argsT ob tm xs.toList with
   | some ss => match d with
    | some d => bif Nat.blt d nt then match ownA tm xs.toList with
      | false => needA ob tm (Cl P f ss false fun s => K ((d,s) :: tm) ob) xs.toList
      | true => ClO (needA ob tm (Cl P f ss true fun s => K ((d,s) :: tm) ob) xs.toList)
        (frAll (fun tm ob => match argsT ob tm xs.toList with
         | some ss => match ownA tm xs.toList with
          | false => needA ob tm (Cl P f ss false fun s => K ((d,s) :: tm) ob) xs.toList
          | true => False
         | none => False) (namA tm xs.toList []) tm ob)
     else False
    | none => needA ob tm (Cl P f ss (ownA tm xs.toList) fun _ => K tm ob) xs.toList
   | none => False
def stF (k m off : Nat) (xs : List D) (tm : List (Nat × SV)) (ob : List (Nat × Ob)) (K : Kt) : Prop := match xs with
 | [.ow d n] => match lk d ob with
  | some (.ar e sz ra) => match lk k (obr d ob) with
   | some (.fm u rs) => Len ra.length n (Rw rs m fun row => bif Nat.blt off row.length && famOne k (obr d ob) then K (dropT k tm) (dropO k (obu k (.fm u (rs.set m (row.set off (.os e sz ra)))) (obr d ob))) else False)
   | _ => False
  | _ => False
 | [.u v] => match lk k ob with
  | some (.fm u rs) => bif famOne k ob then Rw rs m (fun row => match nth row off with
    | some (.os e sz _) => match v with
     | .nl => K (dropT k tm) (dropO k (obu k (.fm u (rs.set m (row.set off (.os e sz [])))) ob))
     | v => K (dropT k tm) (dropO k (obu k (.fm u (rs.set m (row.set off (.v v)))) ob))
    | some _ => K tm (obu k (.fm u (rs.set m (row.set off (.v v)))) ob)
    | none => False) else False
  | _ => False
 | [] => False
 | xs => match lk k ob with
  | some (.fm u rs) => bif famOne k ob then (match borL [] xs with
    | some ys => Rw rs m fun row => match putV row off ys with
     | some row' => K tm (obu k (.fm u (rs.set m row')) ob)
     | none => False
    | none => False) else False
  | _ => False
def vcM (kp : Bool) (o : Oper) (tm : List (Nat × SV)) (ob : List (Nat × Ob)) (K : Kt) : Prop := match o.op with
  | .alloc t => match o.dst with
   | some d => match lk t T with
    | some i => match famT t ob with
     | some (k,rs) => match vzT i.zero with
      | some zs => bif Nat.blt d nt && famOne k ob then Spc fun sp => K ((d,.d (.u (.m k rs.length 0))) :: dropT k tm) (dropO k (obu k (.fm t (rs ++ [mkE sp 0 zs])) ob)) else False
      | none => False
     | none => match zerosT i.zero with
      | some zs => bif Nat.blt d nt && newN d tm ob then K ((d,.d (.p d 0)) :: tm) ((d,.bx t zs) :: ob) else False
      | none => False
    | none => False
   | none => False
  | .box t x => match o.dst with
   | some d => match evT tm x with
    | some s => match cellsOfT s with
     | some cs => match famT t ob with
      | some (k,rs) => match borL [] cs with
       | some ys => bif Nat.blt d nt && famOne k ob then Spc fun sp => K ((d,.d (.u (.m k rs.length 0))) :: dropT k tm) (dropO k (obu k (.fm t (rs ++ [mkE sp 0 ys])) ob)) else False
       | none => False
      | none => bif Nat.blt d nt && newN d tm ob then K ((d,.d (.p d 0)) :: tm) ((d,.bx t cs) :: ob) else False
     | none => False
    | none => False
   | none => False
  | .store t x y => match o.dst with
   | some _ => False
   | none => match evT tm y with
    | none => False
    | some s => match cellsOfT s with
     | none => False
     | some xs => match lk t T with
      | none => False
      | some i => bif Nat.beq xs.length i.size then match evT tm x with
        | some (.d (.p k off)) => match lk k ob with
         | some (.bx u cs) => bif Nat.ble (off + xs.length) cs.length then K tm (obu k (.bx u (cs.take off ++ xs ++ cs.drop (off + xs.length))) ob) else False
         | _ => False
        | some (.d (.e k m off)) => match lk k ob with
         | some (.ar u sz rs) => match borL [] xs with
          | none => Raw P nt o tm ob K
          | some ys => Rw rs m fun row => bif Nat.ble (off + ys.length) sz then K tm (obu k (.ar u sz (rs.set m (row.take off ++ ys ++ row.drop (off + ys.length)))) ob) else False
         | some (.fa _ _ _) => Raw P nt o tm ob K
         | _ => False
        | some (.d (.u (.m k m off))) => stF k m off xs tm ob K
        | _ => Raw P nt o tm ob K
       else False
  | .buildSlice t n ps => match o.dst with
   | none => False
   | some d => match lk t T with
    | none => False
    | some i => match i.k with
     | .sl e => match lk e T with
      | none => False
      | some j => match partsT tm ps.toList with
       | none => False
       | some vs => match vzT j.zero with
        | none => False
        | some zs => match litRows zs n vs 0 with
         | none => RawK P nt o tm ob K
         | some rs => bif Nat.blt d nt && (newN d tm ob && (Nat.ble (n * j.size) 16777216 && (Nat.beq zs.length j.size && Nat.blt 0 j.size))) then K ((d,.d (.ow d n)) :: tm) ((d,.ar e j.size rs) :: ob) else False
     | _ => False
  | .call ⟨.builtin .append,xs,ts⟩ => match o.dst with
   | none => False
   | some d => match xs.toList with
    | [x,y] => match ts.toList with
     | [t,t'] => match lk t T with
      | none => False
      | some i => match i.k with
       | .sl e => match lk e T with
        | none => False
        | some j => match evT tm x with
         | none => False
         | some sx => match evT tm y with
          | none => False
          | some sy => match sx with
           | .d (.u (.sl _ _)) => Raw P nt o tm ob K
           | _ => match rowsT ob sx with
            | none => Raw P nt o tm ob K
            | some (rs,n,kx) => match rowsT ob sy with
             | none => Raw P nt o tm ob K
             | some (rs',m,_) =>
              bif Nat.beq t t' && (tyT ob e sx && (szT ob j.size sx && (szT ob j.size sy && (Nat.blt d nt && (newN d tm ob && (Nat.blt 0 j.size && Nat.beq j.zero.length j.size)))))) then
               Apd rs.length n rs'.length m j.bytes (K ((d,.d (.ow d (rs ++ rs').length)) :: tm) ((d,.ar e j.size (rs ++ rs')) :: obx kx ob))
              else False
       | _ => Raw P nt o tm ob K
     | _ => Raw P nt o tm ob K
    | _ => Raw P nt o tm ob K
  | .call ⟨.value (.func f),xs,_⟩ => CL (vcA P nt o.dst f xs tm ob K) (match kp with | true => RawK P nt o tm ob K | false => Raw P nt o tm ob K)
  | _ => Raw P nt o tm ob K
def vcOpK (kp : Bool) (o : Oper) (tm : List (Nat × SV)) (ob : List (Nat × Ob)) (K : Kt) : Prop :=
 match vcY P T o.op tm ob (fun s => putT nt o.dst s tm ob K) with
 | some p => p
 | none => vcM P T nt kp o tm ob K
def vcOp (o : Oper) (tm : List (Nat × SV)) (ob : List (Nat × Ob)) (K : Kt) : Prop :=
 match vcY P T o.op tm ob (fun s => putT nt o.dst s tm ob K) with
 | some p => p
 | none => vcM P T nt false o tm ob K
def skipT (d : Option Nat) (tm : List (Nat × SV)) (ob : List (Nat × Ob)) (K : Kt) : Prop := match d with
 | some d => bif Nat.blt d nt then K ((d,.t []) :: tm) (ob) else False
 | none => K tm ob
def gdT (ops : Array Oper) (j : Nat) : Option Nat := match nth ops.toList j with
 | some o => o.dst
 | none => none
def yldT (tm : List (Nat × SV)) : Op → Option Nat
 | .call ⟨.value x,_,_⟩ => match evT tm x with
  | some (.d (.u (.v (.func (.yield l) _ _)))) => some l
  | _ => none
 | _ => none
structure RawY (P : Program) (nt : Nt) (l : Nat) (o : Oper) (tmT : List (Nat × SV)) (ob : List (Nat × Ob)) (K : Kt) : Prop where
 out : ∀ (Q : Exit → Act → World → Prop) (c : Cx) (tm : List (Nat × Value)) (h : Hs) (ρ : Rho) (G : FG),Gd c ⟨tmT,ob⟩ tm h ρ G → ∀ a w,Slt nt tm a → Hp h w → ∀ ro,o.wpIn (RF ro) 0 P a w (fun a' w' => ∃ tm' h',Slt nt tm' a' ∧ Hp h' w' ∧ Kd c K tm' h') Q
def vcL (ops : Array Oper) (K : Kt) : List Oper → Kt
 | [],tm,ob => K tm ob
 | o :: r,tm,ob => match o.guard with
  | none => match yldT tm o.op with
   | some l => RawY P nt l o tm ob (vcL ops K r)
   | none => vcOp P T nt o tm ob (vcL ops K r)
  | some (j,want) => match gdT ops j with
   | none => False
   | some t => match lk t tm with
    | some (.d (.u (.bool b))) => match want with
     | true => Brn b (vcOp P T nt o tm ob (vcL ops K r)) (skipT nt o.dst tm ob (vcL ops K r))
     | false => Brn b (skipT nt o.dst tm ob (vcL ops K r)) (vcOp P T nt o tm ob (vcL ops K r))
    | some (.t []) => skipT nt o.dst tm ob (vcL ops K r)
    | _ => False
end
end Go.Proofs.YtjpaaaecbgmcgaaGreatDoor
/-
 The layer of trees: keys that are structs. Of no program.
-/
namespace Go.Proofs.YtjpaaaecbgmcgaaGreatDoor
open Go.RowKit
section
variable {ρ : Rho}
theorem borL_nil_denS {z : Fz} : ∀ {xs : List D} {ys : List V} {us : List Value},borL [] xs = some ys → DenL ρ z xs us → DenVL z ys us
 | [],ys,us,hb,hd => by
  simp [borL] at hb
  subst hb
  have := hd.len
  simp at this
  subst this
  exact .nil
 | x :: r,ys,us,hb,hd => by
  simp only [borL] at hb
  cases h1 : borD [] x with
  | none => simp [h1] at hb
  | some y =>
   cases h2 : borL [] r with
   | none => simp [h1,h2] at hb
   | some l =>
    simp only [h1,h2,Option.some.injEq] at hb
    subst hb
    have hl := hd.len
    cases us with
    | nil => simp at hl
    | cons u us =>
     have hx : DenV z y u := by
      have := hd.den 0 x u rfl rfl
      cases x <;> simp only [borD,lk] at h1 <;> first | (cases h1;done) | (injection h1 with h1;subst h1;cases this;assumption)
     have hr := borL_nil_denS h2 (us := us) ⟨by simpa using hl,by have := hd.one;simp at this;simpa using this.2,fun j d v e1 e2 => hd.den (j + 1) d v (by simpa using e1) (by simpa using e2)⟩
     exact ⟨by simp [hr.len],by simp [hx.one,hr.one],fun j d v e1 e2 => by
      cases j with
      | zero => simp at e1 e2;subst e1 e2;exact hx
      | succ j => exact hr.den j d v (by simpa using e1) (by simpa using e2)⟩
end
theorem bytesL_beq (a b : ByteArray) : (a.toList == b.toList) = decide (a = b) := by
 rw [ByteArray.toList_eq,ByteArray.toList_eq]
 by_cases h : a = b
 ·subst h;simp
 ·rw [decide_eq_false h]
  refine Bool.eq_false_iff.2 fun e => h ?_
  have e2 : a.data.toList = b.data.toList := by simpa using e
  obtain ⟨x⟩ := a
  obtain ⟨y⟩ := b
  have : x = y := Array.toList_inj.1 e2
  rw [this]
theorem bytesB_beq (a b : ByteArray) : (a == b) = decide (a = b) := by
 obtain ⟨⟨x⟩⟩ := a
 obtain ⟨⟨y⟩⟩ := b
 show ((⟨x⟩ : Array UInt8) == ⟨y⟩) = decide _
 by_cases h : x = y
 ·subst h;simp
 ·have h1 : ((⟨x⟩ : Array UInt8) == ⟨y⟩) = false := by simpa using h
  rw [h1];symm;rw [decide_eq_false_iff_not];intro e;injection e with e;injection e with e;exact h e
theorem eqD_key {k : Tk} {x y : V} (hx : keyC k x = true) (hy : keyC k y = true) : eqD k (.u x) (.u y) = some (eqC x y) := by
 cases k <;> simp only [keyC] at hx <;> try cases hx
 ·cases x <;> simp only [keyC] at hx <;> try cases hx
  cases y <;> simp only [keyC] at hy <;> try cases hy
  have e1 := ikEqT_eq hx
  have e2 := ikEqT_eq hy
  subst e1 e2
  simp only [eqD,hx,cond_true,eqC]
  rfl
 ·cases x <;> simp only [keyC] at hx <;> try cases hx
  cases y <;> simp only [keyC] at hy <;> try cases hy
  rfl
 ·cases x <;> simp only [keyC] at hx <;> try cases hx
  cases y <;> simp only [keyC] at hy <;> try cases hy
  simp only [eqD,eqC,bytesL_beq]
theorem keyFs_cons {T : List (Nat × Ty)} {off ft : Nat} {fs : List (Nat × TypeId)} {i : Nat} {xs : List V} (h : keyFs T ((off,ft) :: fs) i xs = true) : ∃ x r j,xs = x :: r ∧ off = i ∧ lk ft T = some j ∧ keyC j.k x = true ∧ keyFs T fs (i + 1) r = true := by
 cases xs with
 | nil => simp [keyFs] at h
 | cons x r =>
  simp only [keyFs] at h
  cases hb : Nat.beq off i
  ·simp [hb] at h
  ·simp only [hb,cond_true] at h
   cases hj : lk ft T with
   | none => simp [hj] at h
   | some j =>
    simp only [hj] at h
    cases hk : keyC j.k x
    ·simp [hk] at h
    ·simp only [hk,cond_true] at h
     exact ⟨x,r,j,rfl,Nat.eq_of_beq_eq_true hb,rfl,hk,h⟩
theorem eqT_keys {T : List (Nat × Ty)} : ∀ {fs : List (Nat × TypeId)} {i : Nat} {xs ys : List V},keyFs T fs i xs = true → keyFs T fs i ys = true → eqT T fs i (xs.map .u) (ys.map .u) = some (eqCs xs ys)
 | [],i,[],[],_,_ => rfl
 | [],i,_ :: _,_,h,_ => by simp [keyFs] at h
 | [],i,[],_ :: _,_,h => by simp [keyFs] at h
 | (off,ft) :: fs,i,xs,ys,hx,hy => by
  obtain ⟨x,r,j,rfl,rfl,h3,h4,h5⟩ := keyFs_cons hx
  obtain ⟨y,s,j',rfl,_,h3',h4',h5'⟩ := keyFs_cons hy
  rw [h3] at h3'
  injection h3' with h3'
  subst h3'
  simp only [List.map_cons,eqT,Nat.beq_refl,cond_true,h3,eqD_key h4 h4',eqT_keys h5 h5',eqCs]
  cases eqC x y <;> rfl
theorem mixG_get {x : List V} : ∀ (es : List (List V × List V)),(∀ z,mgetT es x z = match mixT es x with | some j => (match es[j]? with | some e => e.2 | none => z) | none => z) ∧ (mhasT es x = (mixT es x).isSome) ∧ (∀ j,mixT es x = some j → j < es.length) ∧ ∀ v,mputT es x v = match mixT es x with | some j => es.set j (x,v) | none => es ++ [(x,v)]
 | [] => ⟨fun _ => rfl,rfl,fun j h => (by cases h),fun _ => rfl⟩
 | e :: es => by
  obtain ⟨h1,h2,h3,h4⟩ := mixG_get (x := x) es
  simp only [mgetT,mhasT,mixT,mputT]
  cases eqCs x e.1
  ·simp only [cond_false]
   cases hm : mixT es x with
   | none =>
    simp only [hm] at h1 h2 h3 h4
    exact ⟨h1,h2,fun j h => (by cases h),fun v => by rw [h4];rfl⟩
   | some j =>
    simp only [hm] at h1 h2 h3 h4
    refine ⟨fun z => by rw [h1];simp,h2,fun j' hj => ?_,fun v => by rw [h4];rfl⟩
    injection hj with hj;subst hj
    have := h3 j rfl
    simp;omega
  ·simp
structure KeyOk (P : Program) (z : Fz) (kg : Bool) (kt : TypeId) (x : List V) (u : Value) (es : List (List V × List V)) : Prop where
 chk : ∀ (e : Bool) w,(Instr.checkKey e 10000 kt u).run P w = .ok () w
 find : ∀ (l : List MapEntry),l.length = es.length → (∀ (j : Nat) e m,es[j]? = some e → l[j]? = some m → DenW z kg e.1 m.key) → ∀ w,(Instr.findKey kt u l).run P w = .ok (match mixT es x with | some j => (l[j]?).map fun m => (j,m.val) | none => none) w
 bits : ∀ e ∈ es,eqCs x e.1 = true → ∀ k,DenW z kg e.1 k → Instr.sameBits 10000 k u = true
 den : DenW z kg x u
section
variable {P : Program} {T : List (Nat × Ty)} [hT : Tys P T]
theorem check_fields {e : Bool} {n : Nat} {cs : Array Value} {w : World} : ∀ (l : List Field),(∀ f ∈ l,∃ a,(part f.type cs f.offset).run P w = .ok a w ∧ (Instr.checkKey e n f.type a).run P w = .ok () w) →
  (forIn (m := Sem) l PUnit.unit fun f _ => if f.name ≠ "_" then (do
   let a ← part f.type cs f.offset
   Instr.checkKey e n f.type a
   pure (ForInStep.yield PUnit.unit)) else pure (ForInStep.yield PUnit.unit)).run P w = .ok PUnit.unit w
 | [],_ => by simp
 | f :: l,h => by
  obtain ⟨a,h1,h2⟩ := h f List.mem_cons_self
  have ih := check_fields l fun g hg => h g (List.mem_cons_of_mem _ hg)
  rw [List.forIn_cons]
  simp only [Sem.run_bind]
  by_cases hn : f.name ≠ "_"
  ·rw [if_pos hn]
   simp only [Sem.run_bind,h1,h2,Result.andThen_ok,Sem.run_pure]
   exact ih
  ·rw [if_neg hn]
   simp only [Result.andThen_ok,Sem.run_pure]
   exact ih
theorem checkKey_struct {e : Bool} {n : Nat} {kt : TypeId} {fields : Array Field} {cs : Array Value} {w : World} (hu : P.underlying kt = some (.struct fields)) (h : ∀ f ∈ fields.toList,∃ a,(part f.type cs f.offset).run P w = .ok a w ∧ (Instr.checkKey e n f.type a).run P w = .ok () w) : (Instr.checkKey e (n + 1) kt (.agg cs)).run P w = .ok () w := by
 simp only [Instr.checkKey,Sem.run_bind,run_underlying hu,Result.andThen_ok]
 rw [← Array.forIn_toList]
 have := check_fields (P := P) (e := e) (n := n) (cs := cs) (w := w) fields.toList h
 simp only [this,Result.andThen_ok,Sem.run_pure]
theorem keyC_chk {t : TypeId} {i : Ty} (ht : TyOk P t i) {x : V} (hx : keyC i.k x = true) (e : Bool) (n : Nat) (v : Value) (w : World) : (Instr.checkKey e (n + 1) t v).run P w = .ok () w := by
 have hk := ht.kind
 cases hik : i.k <;> rw [hik] at hk hx <;> simp only [keyC] at hx <;> try cases hx
 ·rename_i q
  have hk : P.underlying t = some (.int q) := hk
  simp only [Instr.checkKey,Sem.run_bind,run_underlying hk,Result.andThen_ok];rfl
 ·have hk : P.underlying t = some .bool := hk
  simp only [Instr.checkKey,Sem.run_bind,run_underlying hk,Result.andThen_ok];rfl
 ·have hk : P.underlying t = some .string := hk
  simp only [Instr.checkKey,Sem.run_bind,run_underlying hk,Result.andThen_ok];rfl
theorem keyFs_fields {z : Fz} {cs : List Value} : ∀ {fields : List Field} {i : Nat} {xs : List V},keyFs T (fields.map fun f => (f.offset,f.type)) i xs = true → (∀ (j : Nat) x,xs[j]? = some x → ∃ u,cs[i + j]? = some u ∧ DenV z x u) → ∀ f ∈ fields,∀ (e : Bool) (n : Nat) w,∃ a,(part f.type cs.toArray f.offset).run P w = .ok a w ∧ (Instr.checkKey e (n + 1) f.type a).run P w = .ok () w
 | [],i,xs,_,_ => fun f hf => by cases hf
 | f :: fs,i,xs,h,hd => fun g hg e n w => by
  obtain ⟨x,r,j,rfl,h2,h3,h4,h5⟩ := keyFs_cons (by simpa using h)
  rcases List.mem_cons.1 hg with rfl | hg
  ·obtain ⟨u,u1,u2⟩ := hd 0 x rfl
   have he := eqD_key h4 h4
   obtain ⟨q1,_⟩ := eqD_run (P := P) (ρ := ⟨fun _ => none,fun _ _ _ => none⟩) h3 he (.u u2) (.u u2) 0 w
   exact ⟨u,q1 cs.toArray g.offset u (by rw [h2];simpa using u1),keyC_chk (hT.ok _ _ h3) h4 e n u w⟩
  ·exact keyFs_fields h5 (fun j x hx => by have := hd (j + 1) x (by simpa using hx);rwa [show i + 1 + j = i + (j + 1) by omega]) g hg e n w
theorem askS {z : Fz} {kt : TypeId} {ik : Ty} {fs : List (Nat × TypeId)} {x : List V} {us : List Value} (hkt : lk kt T = some ik) (hk : ik.k = .st fs) (he : eqChk P kt = true) (hx : keyFs T fs 0 x = true) (hu : DenVL z x us) (w : World) : ∀ (es : List (List V × List V)) (l : List MapEntry) (i : Nat),l.length = es.length → (∀ (j : Nat) e m,es[j]? = some e → l[j]? = some m → DenW z true e.1 m.key) → (∀ e ∈ es,keyFs T fs 0 e.1 = true) →
  (Instr.findAsking kt (.agg us.toArray) l i).run P w = .ok (match mixT es x with | some j => (l[j]?).map fun m => (i + j,m.val) | none => none) w
 | [],[],i,_,_,_ => rfl
 | [],_ :: _,i,h,_,_ => by simp at h
 | _ :: _,[],i,h,_,_ => by simp at h
 | e :: es,m :: l,i,hl,hden,hok => by
  obtain ⟨ys,hy1,hy2⟩ := hden 0 e m rfl rfl
  have hp := eqT_keys hx (hok e List.mem_cons_self)
  obtain ⟨_,_,q3⟩ := eqT_binOp (P := P) (ρ := ⟨fun _ => none,fun _ _ _ => none⟩) hkt hk hp he hu.up hy2.up (.tmp 0) (.tmp 0) w
  have ih := askS hkt hk he hx hu w es l (i + 1) (by simpa using hl) (fun j e m q1 q2 => hden (j + 1) e m (by simpa using q1) (by simpa using q2)) (fun e he => hok e (List.mem_cons_of_mem _ he))
  simp only [Instr.findAsking,Sem.run_bind,hy1,q3,Result.andThen_ok,mixT]
  cases eqCs x e.1
  ·simp only [cond_false,Bool.false_eq_true,if_false,ih]
   cases mixT es x with
   | none => rfl
   | some j => simp [Nat.add_assoc,Nat.add_comm 1 j]
  ·simp
theorem bits_list {z : Fz} {fs : List (Nat × TypeId)} : ∀ {i : Nat} {x y : List V} {us vs : List Value},keyFs T fs i x = true → keyFs T fs i y = true → eqCs x y = true → DenVL z x us → DenVL z y vs → x = y ∧ ∀ n,us.length = vs.length ∧ ((vs.zip us).all fun p => Instr.sameBits n p.1 p.2) = true := by
 induction fs with
 | nil =>
  intro i x y us vs hx hy _ h1 h2
  cases x with
  | cons _ _ => simp [keyFs] at hx
  | nil => cases y with
   | cons _ _ => simp [keyFs] at hy
   | nil =>
    have e1 := h1.len
    have e2 := h2.len
    simp at e1 e2
    subst e1 e2
    exact ⟨rfl,fun _ => ⟨rfl,rfl⟩⟩
 | cons p fs ih =>
  obtain ⟨off,ft⟩ := p
  intro i x y us vs hx hy heq h1 h2
  obtain ⟨a,r,j,rfl,_,h3,h4,h5⟩ := keyFs_cons hx
  obtain ⟨b,s,j',rfl,_,h3',h4',h5'⟩ := keyFs_cons hy
  rw [h3] at h3'
  injection h3' with h3'
  subst h3'
  simp only [eqCs] at heq
  cases hc : eqC a b
  ·simp [hc] at heq
  ·simp only [hc,cond_true] at heq
   cases us with
   | nil => have := h1.len;simp at this
   | cons u us => cases vs with
    | nil => have := h2.len;simp at this
    | cons v vs =>
     have t1 : DenVL z r us := ⟨by simpa using h1.len,by have := h1.one;simp at this;simpa using this.2,fun j d u e1 e2 => h1.den (j + 1) d u (by simpa using e1) (by simpa using e2)⟩
     have t2 : DenVL z s vs := ⟨by simpa using h2.len,by have := h2.one;simp at this;simpa using this.2,fun j d u e1 e2 => h2.den (j + 1) d u (by simpa using e1) (by simpa using e2)⟩
     obtain ⟨q1,q2⟩ := ih h5 h5' heq t1 t2
     have d1 := h1.den 0 a u rfl rfl
     have d2 := h2.den 0 b v rfl rfl
     have hab : a = b ∧ ∀ n,Instr.sameBits n v u = true := by
      cases hk : j.k <;> rw [hk] at h4 h4' <;> simp only [keyC] at h4 <;> try cases h4
      ·cases a <;> simp only [keyC] at h4 <;> try cases h4
       cases b <;> simp only [keyC] at h4' <;> try cases h4'
       have e1 := ikEqT_eq h4
       have e2 := ikEqT_eq h4'
       subst e1 e2
       simp only [eqC,decide_eq_true_eq] at hc
       subst hc
       cases d1;cases d2
       exact ⟨rfl,fun n => by cases n <;> simp [Instr.sameBits]⟩
      ·cases a <;> simp only [keyC] at h4 <;> try cases h4
       cases b <;> simp only [keyC] at h4' <;> try cases h4'
       simp only [eqC,beq_iff_eq] at hc
       subst hc
       cases d1;cases d2
       exact ⟨rfl,fun n => by cases n <;> simp [Instr.sameBits]⟩
      ·cases a <;> simp only [keyC] at h4 <;> try cases h4
       cases b <;> simp only [keyC] at h4' <;> try cases h4'
       simp only [eqC,decide_eq_true_eq] at hc
       subst hc
       cases d1;cases d2
       exact ⟨rfl,fun n => by cases n <;> simp [Instr.sameBits,bytesB_beq]⟩
     refine ⟨by rw [hab.1,q1],fun n => ⟨by simp [(q2 n).1],?_⟩⟩
     simp only [List.zip_cons_cons,List.all_cons,hab.2 n,(q2 n).2,Bool.and_self]
theorem keyOk_S {z : Fz} {kt : TypeId} {ik : Ty} {fs : List (Nat × TypeId)} {x : List V} {u : Value} {es : List (List V × List V)} (hkt : lk kt T = some ik) (hk : ik.k = .st fs) (he : eqChk P kt = true) (hx : keyFs T fs 0 x = true) (hu : DenW z true x u) (hok : ∀ e ∈ es,keyFs T fs 0 e.1 = true) : KeyOk P z true kt x u es := by
 obtain ⟨us,rfl,hd⟩ := hu
 have hkind := (hT.ok kt ik hkt).kind
 rw [hk] at hkind
 obtain ⟨fields,hund,hfs⟩ := hkind
 subst hfs
 refine ⟨fun e w => ?_,fun l hl hden w => ?_,fun e hm heq k hke => ?_,⟨us,rfl,hd⟩⟩
 ·refine checkKey_struct (n := 9999) hund fun f hf => ?_
  exact keyFs_fields hx (fun j a ha => by obtain ⟨u,u1,u2⟩ := hd.get ha;exact ⟨u,by simpa using u1,u2⟩) f hf e 9998 w
 ·have hask := askS hkt hk he hx hd w es l 0 hl hden hok
  unfold Instr.findKey
  simp only [Sem.run_bind,run_underlying hund,Result.andThen_ok]
  cases l with
  | nil =>
   have : es = [] := List.eq_nil_of_length_eq_zero (by simpa using hl.symm)
   subst this
   simp [Instr.findNow,mixT]
  | cons m l =>
   have hn : Instr.findNow (.struct fields) (.agg us.toArray) (m :: l) 0 = none := rfl
   rw [hn]
   simp only [hask,Nat.zero_add]
 ·obtain ⟨vs,rfl,hv⟩ := hke
  obtain ⟨_,q⟩ := bits_list hx (hok e hm) heq hd hv
  obtain ⟨q1,q2⟩ := q 9999
  have e1 : Instr.sameBits 10000 (.agg vs.toArray) (.agg us.toArray) = (vs.toArray.size == us.toArray.size && (vs.toArray.toList.zip us.toArray.toList).all fun p => Instr.sameBits 9999 p.1 p.2) := rfl
  rw [e1]
  simp only [List.size_toArray,q2,Bool.and_true,beq_iff_eq]
  exact q1.symm
end
section
variable {P : Program} {T : List (Nat × Ty)} [hT : Tys P T] {nt : Nt} {tm : List (Nat × Value)} {h : Hs} {ty : TypeId} {pos : String} {af : Array Edge} {gd : Option (Nat × Bool)} {d : Option Tmp}
theorem Yd.lookupG {kg : Bool} {x ix : Operand} {t kt et : TypeId} {i ik ie : Ty} {b : Nat} {vg ok : Bool} {es : List (List V × List V)} {vs : List (Value × Value)} {y : List V} {u : Value} {zs : List V} {z : Fz} (hx : ev tm x = some (.map (some b))) (hi : ev tm ix = some u) (ht : lk t T = some i) (hk : i.k = .mp kt et) (hkt : lk kt T = some ik) (het : lk et T = some ie) (hz : vzT ie.zero = some zs) (hvz : ∀ z : Fz,DenVL z zs ie.zero) (key : ∀ w,Hp h w → ∃ (arr : Array MapEntry) (clock : Nat),w.heap[b]? = some (.map arr clock) ∧ arr.toList.map (fun e => (e.key,e.val)) = vs) (he : EntsOk z kg vg es vs) (hy : KeyOk P z kg kt y u es) (hzk : zAgg P et = some vg) :
  ∃ v,DenW z vg (mgetT es y zs) v ∧ Yd P nt ⟨d,.lookup t x ix ok,ty,pos,af,gd⟩ tm h (if ok then .tuple #[v,.bool (mhasT es y)] else v) := by
 have hund : P.underlying t = some (.map kt et) := by have := (hT.ok t i ht).kind;rw [hk] at this;exact this
 obtain ⟨f,zv,hf1,_,_,hf4,hf5⟩ := (hT.ok et ie het).info
 have hzd : DenW z vg zs zv := by
  have hd := hvz z
  rw [zAgg,hf1] at hzk
  simp only [hf4] at hzk
  cases vg
  ·cases zv with
   | agg cs => simp at hzk
   | _ => (simp only [Value.cells] at hf5;rw [← hf5] at hd;have hl := hd.len;match zs,hl with | [c],_ => exact ⟨c,rfl,hd.den 0 c _ rfl rfl⟩)
  ·cases zv with
   | agg cs => exact ⟨cs.toList,by simp,by have : (Value.agg cs).cells.toList = cs.toList := rfl;rw [← this,hf5];exact hd⟩
   | _ => simp at hzk
 have hzr : ∀ w,(zeroValue et).run P w = .ok zv w := fun w => by simp [zeroValue,typeInfo,hf1,hf4]
 obtain ⟨m1,m2,m3,m4⟩ := mixG_get (x := y) es
 have hfind : ∀ (arr : Array MapEntry),arr.toList.map (fun e => (e.key,e.val)) = vs → ∀ w,(Instr.findKey kt u arr.toList).run P w = .ok (match mixT es y with | some j => (arr.toList[j]?).map fun m => (j,m.val) | none => none) w := fun arr ha w => by
  refine hy.find arr.toList (by rw [← he.len,← ha,List.length_map]) (fun j e m q1 q2 => ?_) w
  have q3 : vs[j]? = some (m.key,m.val) := by rw [← ha,List.getElem?_map,q2];rfl
  exact (he.den j e _ q1 q3).1
 cases hj : mixT es y with
 | none =>
  have e1 : mgetT es y zs = zs := by rw [m1,hj]
  have e2 : mhasT es y = false := by rw [m2,hj];rfl
  refine ⟨zv,by rw [e1];exact hzd,⟨fun a w ha hw => ?_⟩⟩
  obtain ⟨arr,clock,q1,q2⟩ := key w hw
  have hf := hfind arr q2 w
  rw [hj] at hf
  cases ok <;> simp [execOp,ha.ev hx,ha.ev hi,Instr.lookup,run_underlying hund,getObj,Sem.run,q1,hy.chk,hf,hzr,e2]
 | some j =>
  have hlt := m3 j hj
  obtain ⟨e,he1⟩ : ∃ e,es[j]? = some e := ⟨_,List.getElem?_eq_getElem hlt⟩
  obtain ⟨p,hp1⟩ : ∃ p,vs[j]? = some p := ⟨_,List.getElem?_eq_getElem (by rw [he.len];exact hlt)⟩
  have e1 : mgetT es y zs = e.2 := by rw [m1,hj];simp only [he1]
  have e2 : mhasT es y = true := by rw [m2,hj];rfl
  refine ⟨p.2,by rw [e1];exact (he.den j e p he1 hp1).2,⟨fun a w ha hw => ?_⟩⟩
  obtain ⟨arr,clock,q1,q2⟩ := key w hw
  have hf := hfind arr q2 w
  rw [hj] at hf
  have q3 : (arr.toList[j]?).map (fun m => (j,m.val)) = some (j,p.2) := by
   rw [← q2,List.getElem?_map] at hp1
   cases hm : arr.toList[j]? with
   | none => rw [hm] at hp1;cases hp1
   | some m => rw [hm] at hp1;simp only [Option.map_some,Option.some.injEq] at hp1;rw [← hp1];rfl
  simp only [q3] at hf
  cases ok <;> simp [execOp,ha.ev hx,ha.ev hi,Instr.lookup,run_underlying hund,getObj,Sem.run,q1,hy.chk,hf,e2]
end
end Go.Proofs.YtjpaaaecbgmcgaaGreatDoor
/-
 The layer of trees: operations that yield under conditions are sound.
-/
namespace Go.Proofs.YtjpaaaecbgmcgaaGreatDoor
open Go.RowKit
theorem vzT_den {z : Fz} : ∀ {vs : List Value} {l : List V},vzT vs = some l → DenVL z l vs
 | [],l,h => by simp [vzT] at h;subst h;exact .nil
 | v :: r,l,h => by
  simp only [vzT] at h
  cases h1 : zeroT v with
  | none => simp [h1] at h
  | some x =>
   cases h2 : vzT r with
   | none => simp [h1,h2] at h
   | some l' =>
    simp only [h1,h2,Option.some.injEq] at h
    subst h
    have hr := vzT_den (z := z) h2
    have hx : DenV z x v := zeroT_den h1
    exact ⟨by simp [hr.len],by simp [hx.one,hr.one],fun j d u e1 e2 => by
     cases j with
     | zero => simp at e1 e2;subst e1 e2;exact hx
     | succ j => exact hr.den j d u (by simpa using e1) (by simpa using e2)⟩
theorem bytesT_beq (a b : ByteArray) : (a == b) = decide (a = b) := by
 obtain ⟨⟨x⟩⟩ := a
 obtain ⟨⟨y⟩⟩ := b
 show ((⟨x⟩ : Array UInt8) == ⟨y⟩) = decide _
 by_cases h : x = y
 ·subst h;simp
 ·have h1 : ((⟨x⟩ : Array UInt8) == ⟨y⟩) = false := by simpa using h
  rw [h1];symm;rw [decide_eq_false_iff_not];intro e;injection e with e;injection e with e;exact h e
section
variable {P : Program} {T : List (Nat × Ty)} [hT : Tys P T] {nt : Nt} {c : Cx} {st : St} {tm : List (Nat × Value)} {h : Hs} {ρ : Rho} {G : FG} {ty : TypeId} {pos : String} {af : Array Edge} {gd : Option (Nat × Bool)} {d : Option Tmp}
theorem Gd.row (g : Gd c st tm h ρ G) {k m off : Nat} {u sz : Nat} {rs : List (List V)} {row : List V} {v : Value} (hk : lk k st.ob = some (.ar u sz rs)) (hs : DenS ρ ⟨G,h.w0⟩ (.d (.e k m off)) v) (hr : rs[m]? = some row) :
  ∃ b o' us,v = .pointer (some ⟨b,o' + off,none⟩) ∧ DenVL ⟨G,h.w0⟩ row us ∧ ∀ w,Hp h w → ∀ (j : Nat) u,us[j]? = some u → w.cell? ⟨b,o' + j,none⟩ = some u := by
 cases hs with | d hs => cases hs with | @e _ _ _ b c' sz' h0 =>
 obtain ⟨X,f,⟨A,cc,us,rfl,g2,g3,g4,g5⟩,g6⟩ := g.ob.at_ hk
 rw [h0] at g2
 injection g2 with g2;injection g2 with e1 e2 e3;subst e1 e2 e3
 obtain ⟨vs,q1,q2⟩ := g4.part (l := row) (o := m * sz') (fun j d hd => flat_get g5 hr j d hd)
 refine ⟨b,m * sz',vs,rfl,q1,fun w hw j x hx => ?_⟩
 exact (hw.blk b _ (g6.mem (by rw [hbA_some];exact List.mem_singleton.2 rfl))).cell (x := ⟨u,us,_⟩) (q2 j x hx)
omit hT in
theorem Gd.fam (g : Gd c st tm h ρ G) {k m off u : Nat} {rs : List (List E)} {row : List E} {v : Value} (hk : lk k st.ob = some (.fm u rs)) (hs : DenV ⟨G,h.w0⟩ (.m k m off) v) (hr : rs[m]? = some row) :
  ∃ b us X,v = .pointer (some ⟨b,off,none⟩) ∧ CellsOk ρ ⟨G,h.w0⟩ k m 0 row us X ∧ (b,(⟨u,us,us.length⟩ : Hb)) ∈ h.hp ∧ ∀ p ∈ X,p ∈ h.hp := by
 obtain ⟨Y,f,⟨q1,q2⟩,q3⟩ := g.ob.at_ hk
 obtain ⟨b,us,X,rest,r1,r2,r3,_⟩ := q1.split hr
 rw [Nat.zero_add] at r2
 cases hs with | @m _ _ _ b' h0 =>
 rw [r1] at h0
 injection h0 with h0
 subst h0
 exact ⟨b,us,X,rfl,r2,q3.mem (r3.mem_iff.2 List.mem_cons_self),fun p hp => q3.mem (r3.mem_iff.2 (List.mem_cons_of_mem _ (List.mem_append_left _ hp)))⟩
omit hT in
theorem Gd.famRow (g : Gd c st tm h ρ G) {k m o j off u e sz : Nat} {rs : List (List E)} {row : List E} {rr : List (List V)} {r2 : List V} {v : Value} (hk : lk k st.ob = some (.fm u rs)) (hs : Den ρ ⟨G,h.w0⟩ (D.re k m o j off) v) (hr : rs[m]? = some row) (ho : nth row o = some (.os e sz rr)) (hr2 : rr[j]? = some r2) :
  ∃ b o' us,v = .pointer (some ⟨b,o' + off,none⟩) ∧ DenVL ⟨G,h.w0⟩ r2 us ∧ ∀ w,Hp h w → ∀ (j : Nat) u,us[j]? = some u → w.cell? ⟨b,o' + j,none⟩ = some u := by
 obtain ⟨Y,f,⟨q1,q2⟩,q3⟩ := g.ob.at_ hk
 obtain ⟨b,us,X,rest,r1,r2',r3,_⟩ := q1.split hr
 rw [Nat.zero_add] at r2'
 rw [nth_eq] at ho
 obtain ⟨u1,Xe,rest1,s1,⟨A,cc,us1,rfl,rfl,t3,t4,t5,t6⟩,s3,_⟩ := r2'.split ho
 rw [Nat.zero_add] at t3
 cases hs with | @re _ _ _ _ _ b1 c1 sz1 h0 =>
 rw [t3] at h0
 injection h0 with h0
 injection h0 with e1 e2 e3
 subst e1 e2 e3
 obtain ⟨vs,v1,v2⟩ := t5.part (l := r2) (o := j * sz) (fun jj d hd => flat_get t6 hr2 jj d hd)
 have hm : (b1,(⟨e,us1,cc * sz⟩ : Hb)) ∈ h.hp := q3.mem (r3.mem_iff.2 (List.mem_cons_of_mem _ (List.mem_append_left _ (s3.mem_iff.2 (List.mem_append_left _ (by rw [hbA_some];exact List.mem_singleton.2 rfl))))))
 exact ⟨b1,j * sz,vs,rfl,v1,fun w hw jj x hx => (hw.blk b1 _ hm).cell (x := ⟨e,us1,_⟩) (v2 jj x hx)⟩
omit hT in
theorem Gd.faRow (g : Gd c st tm h ρ G) {k m off : Nat} {u sz : Nat} {rs : List (List E)} {row : List E} {v : Value} (hk : lk k st.ob = some (.fa u sz rs)) (hs : DenS ρ ⟨G,h.w0⟩ (.d (.e k m off)) v) (hr : rs[m]? = some row) :
  ∃ b o' us X,v = .pointer (some ⟨b,o' + off,none⟩) ∧ CellsOk ρ ⟨G,h.w0⟩ k m 0 row us X ∧ (∀ w,Hp h w → ∀ (j : Nat) u,us[j]? = some u → w.cell? ⟨b,o' + j,none⟩ = some u) ∧ ∀ p ∈ X,p ∈ h.hp := by
 cases hs with | d hs => cases hs with | @e _ _ _ b c' sz' h0 =>
 obtain ⟨X,f,⟨A,cc,us,Y,rfl,g2,g3,g4,g5⟩,g6⟩ := g.ob.at_ hk
 rw [h0] at g2
 injection g2 with g2;injection g2 with e1 e2 e3;subst e1 e2 e3
 obtain ⟨us1,X1,rest,q0,q1,q2,q3,q4,_⟩ := g4.split g5 hr
 rw [Nat.zero_add] at q3
 refine ⟨b,m * sz',us1,X1,rfl,q3,fun w hw j x hx => ?_,fun p hp => g6.mem (List.mem_append_right _ (q4.mem_iff.2 (List.mem_append_left _ hp)))⟩
 exact (hw.blk b _ (g6.mem (List.mem_append_left _ (by rw [hbA_some];exact List.mem_singleton.2 rfl)))).cell (x := ⟨u,us,_⟩) (q2 j x hx)
omit hT in
theorem Gd.faRe (g : Gd c st tm h ρ G) {k m o j off u e sz sz0 : Nat} {rs : List (List E)} {row : List E} {rr : List (List V)} {r2 : List V} {v : Value} (hk : lk k st.ob = some (.fa u sz0 rs)) (hs : Den ρ ⟨G,h.w0⟩ (D.re k m o j off) v) (hr : rs[m]? = some row) (ho : nth row o = some (.os e sz rr)) (hr2 : rr[j]? = some r2) :
  ∃ b o' us,v = .pointer (some ⟨b,o' + off,none⟩) ∧ DenVL ⟨G,h.w0⟩ r2 us ∧ ∀ w,Hp h w → ∀ (j : Nat) u,us[j]? = some u → w.cell? ⟨b,o' + j,none⟩ = some u := by
 obtain ⟨X,f,⟨A0,cc0,us0,Y,rfl,g2,g3,g4,g5⟩,g6⟩ := g.ob.at_ hk
 obtain ⟨us,X1,rest,q0,q1,q2,r2',q4,_⟩ := g4.split g5 hr
 rw [Nat.zero_add] at r2'
 rw [nth_eq] at ho
 obtain ⟨u1,Xe,rest1,s1,⟨A,cc,us1,rfl,rfl,t3,t4,t5,t6⟩,s3,_⟩ := r2'.split ho
 rw [Nat.zero_add] at t3
 cases hs with | @re _ _ _ _ _ b1 c1 sz1 h0 =>
 rw [t3] at h0
 injection h0 with h0
 injection h0 with e1 e2 e3
 subst e1 e2 e3
 obtain ⟨vs,v1,v2⟩ := t5.part (l := r2) (o := j * sz) (fun jj d hd => flat_get t6 hr2 jj d hd)
 have hm : (b1,(⟨e,us1,cc * sz⟩ : Hb)) ∈ h.hp := g6.mem (List.mem_append_right _ (q4.mem_iff.2 (List.mem_append_left _ (s3.mem_iff.2 (List.mem_append_left _ (by rw [hbA_some];exact List.mem_singleton.2 rfl))))))
 exact ⟨b1,j * sz,vs,rfl,v1,fun w hw jj x hx => (hw.blk b1 _ hm).cell (x := ⟨e,us1,_⟩) (v2 jj x hx)⟩
theorem opnd_ev (g : Gd c st tm h ρ G) {x : Option Operand} {dflt i : Int} (ho : opnd st.tm dflt x = some i) : (x = none ∧ i = dflt) ∨ ∃ y k,x = some y ∧ ev tm y = some (.int k i) := by
 cases x with
 | none => simp only [opnd,Option.some.injEq] at ho;exact .inl ⟨rfl,ho.symm⟩
 | some y =>
  simp only [opnd] at ho
  split at ho
  ·rename_i k n hx
   injection ho with ho;subst ho
   exact .inr ⟨y,k,rfl,evT_int g hx⟩
  ·cases ho
theorem Yd.sliceG {t e : TypeId} {x : Operand} {lo hi : Option Operand} {A : Option Addr} {n cc l m : Nat} {i : Ty} {jk : Tk} {js jb : Nat} {jz : List Value} (hx : ev tm x = some (.slice A n cc)) (ht : lk t T = some i) (hk : i.k = .sl e) (hj : lk e T = some ⟨jk,js,jb,jz⟩)
  (hlo : (lo = none ∧ l = 0) ∨ ∃ y k,lo = some y ∧ ev tm y = some (.int k (l : Int))) (hhi : (hi = none ∧ m = n) ∨ ∃ y k,hi = some y ∧ ev tm y = some (.int k (m : Int))) (h1 : l ≤ m) (h2 : m ≤ cc) :
  Yd P nt ⟨d,.slice t x lo hi none,ty,pos,af,gd⟩ tm h (.slice (if cc = l then A else A.map (·.add (l * js))) (m - l) (cc - l)) := ⟨fun a w ha _ => by
 have := run_slice_aux (P := P) (w := w) (A := A) ht hk hj (lo := lo.map a.eval) (hi := hi.map a.eval) (l := l) (m := m) (c := cc) (n := n) (by
  rcases hlo with ⟨rfl,h⟩ | ⟨y,k,rfl,h⟩
  ·exact .inl ⟨rfl,h⟩
  ·exact .inr ⟨k,by simp [ha.ev h]⟩) (by
  rcases hhi with ⟨rfl,h⟩ | ⟨y,k,rfl,h⟩
  ·exact .inl ⟨rfl,h⟩
  ·exact .inr ⟨k,by simp [ha.ev h]⟩) h1 h2
 simp only [execOp,ha.ev hx,Option.map_none]
 simp [this]⟩
theorem Yd.slice3 {t e : TypeId} {x hi mx : Operand} {lo : Option Operand} {A : Option Addr} {n cc l m q : Nat} {i : Ty} {jk : Tk} {js jb : Nat} {jz : List Value} (hx : ev tm x = some (.slice A n cc)) (ht : lk t T = some i) (hk : i.k = .sl e) (hj : lk e T = some ⟨jk,js,jb,jz⟩)
  (hlo : (lo = none ∧ l = 0) ∨ ∃ y k,lo = some y ∧ ev tm y = some (.int k (l : Int))) (hhi : ∃ k,ev tm hi = some (.int k (m : Int))) (hmx : ∃ k,ev tm mx = some (.int k (q : Int))) (h1 : l ≤ m) (h2 : m ≤ q) (h3 : q ≤ cc) :
  Yd P nt ⟨d,.slice t x lo (some hi) (some mx),ty,pos,af,gd⟩ tm h (.slice (if q = l then A else A.map (·.add (l * js))) (m - l) (q - l)) := ⟨fun a w ha _ => by
 have hu := (hT.ok t i ht).kind
 rw [hk] at hu
 have hu : P.underlying t = some (.slice e) := hu
 obtain ⟨kh,hhi⟩ := hhi
 obtain ⟨kq,hmx⟩ := hmx
 rcases hlo with ⟨rfl,rfl⟩ | ⟨y,kl,rfl,hlo⟩
 ·simp [execOp,ha.ev hx,ha.ev hhi,ha.ev hmx,Instr.sliceAt,Instr.slice,Instr.sliceBounds,Instr.sliceBound,asIntOf,run_underlying hu,(hT.ok e _ hj).run_size,h2,h3]
 ·simp [execOp,ha.ev hx,ha.ev hhi,ha.ev hmx,ha.ev hlo,Instr.sliceAt,Instr.slice,Instr.sliceBounds,Instr.sliceBound,asIntOf,run_underlying hu,(hT.ok e _ hj).run_size,h1,h2,h3]⟩
omit hT in
theorem szT_at (g : Gd c st tm h ρ G) {k n m : Nat} {l : Loc} (hb : szT st.ob n (.d (.ow k m)) = true) (h0 : ρ k = some l) : l.sz = n ∧ (l.A = none ∨ ∃ b,l.A = some ⟨b,0,none⟩) := by
 simp only [szT] at hb
 split at hb
 ·rename_i u m' rs hk
  have := Nat.eq_of_beq_eq_true hb
  subst this
  obtain ⟨X,f,⟨A,cc,us,rfl,g2,g3,g4,g5⟩,g6⟩ := g.ob.at_ hk
  rw [h0] at g2
  injection g2 with g2;subst g2
  refine ⟨rfl,?_⟩
  rcases g3.form with ⟨h1,_⟩ | ⟨b,h1⟩
  ·exact .inl h1
  ·exact .inr ⟨b,h1⟩
 ·rename_i u m' rs hk
  have := Nat.eq_of_beq_eq_true hb
  subst this
  obtain ⟨X,f,⟨A,cc,us,Y,rfl,g2,g3,g4,g5⟩,g6⟩ := g.ob.at_ hk
  rw [h0] at g2
  injection g2 with g2;subst g2
  refine ⟨rfl,?_⟩
  rcases g3.form with ⟨h1,_⟩ | ⟨b,h1⟩
  ·exact .inl h1
  ·exact .inr ⟨b,h1⟩
 ·cases hb
theorem rows_cut {z : Fz} {sz : Nat} {rs : List (List V)} {A : Option Addr} {n cc l m : Nat} (h : DenV z (.sl sz rs) (.slice A n cc)) (h1 : l ≤ m) (h2 : m ≤ rs.length) : DenV z (.sl sz ((rs.take m).drop l)) (.slice (if cc = l then A else A.map (·.add (l * sz))) (m - l) (cc - l)) := by
 cases h with
 | @sl _ _ _ _ _ b o us hn hc hm hr hA hl hu hone hd =>
  have hr' : ∀ r ∈ (rs.take m).drop l,r.length = sz := fun r hr0 => hr r (List.mem_of_mem_take (List.mem_of_mem_drop hr0))
  have hlen : ((rs.take m).drop l).length = m - l := by simp;omega
  rcases Nat.eq_or_lt_of_le h1 with he | hlt
  ·have hnil : (rs.take m).drop l = [] := List.eq_nil_of_length_eq_zero (by omega)
   rw [hnil]
   exact .sl (b := b) (o := o) [] (by simp;omega) (by omega) (by omega) (by simp) (fun h => absurd rfl h) (by simp) (fun j u h => by simp at h) rfl (fun j d u h => by simp at h)
  ·have hne : rs ≠ [] := fun e => by subst e;simp at h2;omega
   obtain ⟨rfl,hG⟩ := hA hne
   have hcl : ¬ cc = l := by omega
   have hadd : (⟨b,o,none⟩ : Addr).add (l * sz) = ⟨b,o + l * sz,none⟩ := by unfold Addr.add;split <;> simp_all
   rw [if_neg hcl]
   simp only [Option.map_some,hadd]
   have hfl : ∀ (j : Nat) d,((rs.take m).drop l).flatten[j]? = some d → rs.flatten[l * sz + j]? = some d := by
    intro j d hj
    have e1 : rs.flatten = (rs.take l).flatten ++ (((rs.take m).drop l).flatten ++ (rs.drop m).flatten) := by
     rw [← List.flatten_append,← List.flatten_append]
     congr 1
     rw [List.drop_take]
     have : rs.drop l = List.take (m - l) (rs.drop l) ++ rs.drop m := by
      conv => lhs;rw [← List.take_append_drop (m - l) (rs.drop l)]
      rw [List.drop_drop];congr 2;omega
     rw [← this,List.take_append_drop]
    have e2 : (rs.take l).flatten.length = l * sz := by
     rw [flat_len (sz := sz) (fun r h0 => hr r (List.mem_of_mem_take h0))]
     rw [List.length_take,Nat.min_eq_left (by omega)]
    rw [e1,List.getElem?_append_right (by omega),e2,Nat.add_sub_cancel_left,List.getElem?_append_left (List.getElem?_eq_some_iff.1 hj).1]
    exact hj
   obtain ⟨vs,q1,q2⟩ := DenVL.part (z := z) ⟨hl,hone,hd⟩ hfl
   exact .sl (b := b) (o := o + l * sz) vs (by omega) (by omega) (by omega) hr' (fun _ => ⟨rfl,hG⟩) q1.len (fun j u hj => by rw [Nat.add_assoc];exact hu _ u (q2 j u hj)) q1.one q1.den
theorem Yd.cat {x y : Operand} {t u : TypeId} {a b : ByteArray} (hx : ev tm x = some (.string a)) (hy : ev tm y = some (.string b)) (hs : a.size + b.size ≤ maxLen) : Yd P nt ⟨d,.binOp .add t x y u,ty,pos,af,gd⟩ tm h (.string (a ++ b)) := ⟨fun s w ha _ => by
 have hn : ¬ (((a.size + b.size : Nat) : Int) > IntKind.i64.max) := by
  have : IntKind.i64.max = 9223372036854775807 := by decide
  rw [this];unfold maxLen at hs;omega
 simp only [execOp,eqGuard,binOp,Op.stringOp,ha.ev hx,ha.ev hy,if_neg hn]
 simp⟩
theorem Yd.strLss {x y : Operand} {t u : TypeId} {a b : ByteArray} (hx : ev tm x = some (.string a)) (hy : ev tm y = some (.string b)) : Yd P nt ⟨d,.binOp .lss t x y u,ty,pos,af,gd⟩ tm h (.bool (strLt a b)) := ⟨fun s w ha _ => by
 simp [execOp,eqGuard,ha.ev hx,ha.ev hy,binOp_string_lss,strLt]⟩
theorem Yd.strGtr {x y : Operand} {t u : TypeId} {a b : ByteArray} (hx : ev tm x = some (.string a)) (hy : ev tm y = some (.string b)) : Yd P nt ⟨d,.binOp .gtr t x y u,ty,pos,af,gd⟩ tm h (.bool (!(strLt a b || a.toList == b.toList))) := ⟨fun s w ha _ => by
 simp [execOp,eqGuard,ha.ev hx,ha.ev hy,binOp_string_gtr,strLt]⟩
theorem Yd.eqlBool {x y : Operand} {t u : TypeId} {a b : Bool} {i : Ty} (hx : ev tm x = some (.bool a)) (hy : ev tm y = some (.bool b)) (ht : lk t T = some i) (hk : i.k = .bo) : Yd P nt ⟨d,.binOp .eql t x y u,ty,pos,af,gd⟩ tm h (.bool (a == b)) := ⟨fun s w ha _ => by
 have hu := (hT.ok t i ht).kind
 rw [hk] at hu
 have hu : P.underlying t = some .bool := hu
 simp [execOp,eqGuard,binOp,Op.equal,Op.maxDepth,ha.ev hx,ha.ev hy,run_equalIn_bool w 9999 t a b hu]⟩
theorem Yd.neqBool {x y : Operand} {t u : TypeId} {a b : Bool} {i : Ty} (hx : ev tm x = some (.bool a)) (hy : ev tm y = some (.bool b)) (ht : lk t T = some i) (hk : i.k = .bo) : Yd P nt ⟨d,.binOp .neq t x y u,ty,pos,af,gd⟩ tm h (.bool (!(a == b))) := ⟨fun s w ha _ => by
 have hu := (hT.ok t i ht).kind
 rw [hk] at hu
 have hu : P.underlying t = some .bool := hu
 simp [execOp,eqGuard,binOp,Op.equal,Op.maxDepth,ha.ev hx,ha.ev hy,run_equalIn_bool w 9999 t a b hu]⟩
theorem Yd.min {x y : Operand} {ts : Array TypeId} {k k' : IntKind} {m n : Int} (hx : ev tm x = some (.int k m)) (hy : ev tm y = some (.int k' n)) : Yd P nt ⟨d,.call ⟨.builtin .min,#[x,y],ts⟩,ty,pos,af,gd⟩ tm h (.int k (Min.min m n)) := ⟨fun a w ha _ => by
  have e : Min.min m n = if n < m then n else m := by
   by_cases q : n < m
   ·rw [if_pos q];omega
   ·rw [if_neg q];omega
  rw [e]
  simp [execOp,resolve,invoke,builtin,Builtin.min_,Builtin.min2,ha.ev hx,ha.ev hy]⟩
theorem Yd.strIndex {x y : Operand} {t : Nat} {s : ByteArray} {i : Ty} {k : IntKind} {n : Nat} (hx : ev tm x = some (.string s)) (hy : ev tm y = some (.int k (n : Int))) (ht : lk t T = some i) (hk : i.k = .sr) (hn : n < s.size) : Yd P nt ⟨d,.index t x y,ty,pos,af,gd⟩ tm h (.int .u8 (s[n].toNat : Int)) :=
 ⟨fun a w ha _ => by
  have h1 := (hT.ok t i ht).kind
  rw [hk] at h1
  have h1 : P.underlying t = some .string := h1
  simp [execOp,Instr.index,asIntOf,ha.ev hx,ha.ev hy,run_underlying h1,hn]⟩
theorem Yd.strSlice {x : Operand} {t : Nat} {s : ByteArray} {i : Ty} {lo hi : Option Operand} {l m : Nat} (hx : ev tm x = some (.string s)) (ht : lk t T = some i) (hk : i.k = .sr) (hlo : (lo = none ∧ l = 0) ∨ ∃ y k,lo = some y ∧ ev tm y = some (.int k (l : Int))) (hhi : (hi = none ∧ m = s.size) ∨ ∃ y k,hi = some y ∧ ev tm y = some (.int k (m : Int))) (h1 : l ≤ m) (h2 : m ≤ s.size) : Yd P nt ⟨d,.slice t x lo hi none,ty,pos,af,gd⟩ tm h (.string (s.extract l m)) :=
 ⟨fun a w ha _ => by
  have hu := (hT.ok t i ht).kind
  rw [hk] at hu
  have hu : P.underlying t = some .string := hu
  rcases hlo with ⟨rfl,rfl⟩ | ⟨y,k,rfl,hy⟩ <;> rcases hhi with ⟨rfl,rfl⟩ | ⟨z,k',rfl,hz⟩
  ·simp [execOp,Instr.sliceAt,Instr.slice,Instr.sliceBounds,Instr.sliceBound,asIntOf,ha.ev hx,run_underlying hu]
  ·simp [execOp,Instr.sliceAt,Instr.slice,Instr.sliceBounds,Instr.sliceBound,asIntOf,ha.ev hx,ha.ev hz,run_underlying hu,h2]
  ·simp [execOp,Instr.sliceAt,Instr.slice,Instr.sliceBounds,Instr.sliceBound,asIntOf,ha.ev hx,ha.ev hy,run_underlying hu,h1]
  ·simp [execOp,Instr.sliceAt,Instr.slice,Instr.sliceBounds,Instr.sliceBound,asIntOf,ha.ev hx,ha.ev hy,ha.ev hz,run_underlying hu,h1,h2]⟩
theorem sameNow_T {P : Program} {t : TypeId} {i : Ty} {dd : TypeDesc} (ht : TyOk P t i) (hd : P.underlying t = some dd) {z : Fz} {x y : V} {u v : Value} (hx : keyC i.k x = true) (hy : keyC i.k y = true) (h1 : DenV z x u) (h2 : DenV z y v) : Instr.sameNow dd u v = some (eqC x y) := by
 have hk := ht.kind
 cases hik : i.k <;> rw [hik] at hk hx hy <;> simp only [keyC] at hx <;> try cases hx
 ·rename_i q
  have hk : P.underlying t = some (.int q) := hk
  rw [hk] at hd
  injection hd with hd;subst hd
  cases x <;> simp only [keyC] at hx <;> try cases hx
  cases y <;> simp only [keyC] at hy <;> try cases hy
  have e1 := ikEqT_eq hx
  have e2 := ikEqT_eq hy
  subst e1 e2
  cases h1;cases h2
  simp only [Instr.sameNow,if_true,eqC]
  rfl
 ·have hk : P.underlying t = some .bool := hk
  rw [hk] at hd
  injection hd with hd;subst hd
  cases x <;> simp only [keyC] at hx <;> try cases hx
  cases y <;> simp only [keyC] at hy <;> try cases hy
  cases h1;cases h2
  simp only [Instr.sameNow,eqC]
 ·have hk : P.underlying t = some .string := hk
  rw [hk] at hd
  injection hd with hd;subst hd
  cases x <;> simp only [keyC] at hx <;> try cases hx
  cases y <;> simp only [keyC] at hy <;> try cases hy
  cases h1;cases h2
  simp only [Instr.sameNow,eqC,bytesT_beq]
theorem keyC_und {P : Program} {t : TypeId} {i : Ty} (ht : TyOk P t i) {x : V} (hx : keyC i.k x = true) : ∃ dd,P.underlying t = some dd ∧ ∀ (e : Bool) (v : Value) (w : World),(Instr.checkKey e 10000 t v).run P w = .ok () w := by
 have hk := ht.kind
 cases hik : i.k <;> rw [hik] at hk hx <;> simp only [keyC] at hx <;> try cases hx
 ·rename_i q
  have hk : P.underlying t = some (.int q) := hk
  exact ⟨_,hk,fun e v w => (fun n => by simp only [Instr.checkKey,Sem.run_bind,run_underlying hk,Result.andThen_ok];rfl : ∀ n,(Instr.checkKey e (n + 1) t v).run P w = .ok () w) 9999⟩
 ·have hk : P.underlying t = some .bool := hk
  exact ⟨_,hk,fun e v w => (fun n => by simp only [Instr.checkKey,Sem.run_bind,run_underlying hk,Result.andThen_ok];rfl : ∀ n,(Instr.checkKey e (n + 1) t v).run P w = .ok () w) 9999⟩
 ·have hk : P.underlying t = some .string := hk
  exact ⟨_,hk,fun e v w => (fun n => by simp only [Instr.checkKey,Sem.run_bind,run_underlying hk,Result.andThen_ok];rfl : ∀ n,(Instr.checkKey e (n + 1) t v).run P w = .ok () w) 9999⟩
theorem keyT_one {k : Tk} {cs : List V} (h : keyT k cs = true) : ∃ y,cs = [y] ∧ keyC k y = true := by
 match cs,h with
 | [y],h => exact ⟨y,rfl,h⟩
theorem eqCs_one {x y : V} : eqCs [x] [y] = eqC x y := by
 simp only [eqCs];cases eqC x y <;> rfl
theorem findNow_T {P : Program} {t : TypeId} {i : Ty} {dd : TypeDesc} (ht : TyOk P t i) (hd : P.underlying t = some dd) {z : Fz} {x : V} {u : Value} (hx : keyC i.k x = true) (h1 : DenV z x u) : ∀ (es : List (List V × List V)) (l : List MapEntry) (n : Nat),l.length = es.length → (∀ (j : Nat) e m,es[j]? = some e → l[j]? = some m → DenW z false e.1 m.key) → (∀ e ∈ es,keyT i.k e.1 = true) →
  Instr.findNow dd u l n = some (match mixT es [x] with | some j => (l[j]?).map fun m => (n + j,m.val) | none => none)
 | [],[],n,_,_,_ => rfl
 | [],_ :: _,n,h,_,_ => by simp at h
 | _ :: _,[],n,h,_,_ => by simp at h
 | e :: es,m :: l,n,hl,hden,hok => by
  obtain ⟨y,hy1,hy2⟩ := keyT_one (hok e List.mem_cons_self)
  obtain ⟨y',hy3,hy4⟩ := hden 0 e m rfl rfl
  rw [hy1] at hy3
  injection hy3 with hy3 _;subst hy3
  have hs := sameNow_T ht hd hx hy2 h1 hy4
  have ih := findNow_T ht hd hx h1 es l (n + 1) (by simpa using hl) (fun j e m q1 q2 => hden (j + 1) e m (by simpa using q1) (by simpa using q2)) (fun e he => hok e (List.mem_cons_of_mem _ he))
  simp only [Instr.findNow,mixT,hy1,eqCs_one,hs]
  cases eqC x y
  ·simp only [ih,cond_false]
   cases mixT es [x] with
   | none => rfl
   | some j => simp [Nat.add_assoc,Nat.add_comm 1 j]
  ·simp
theorem mixT_get {x : List V} : ∀ (es : List (List V × List V)),(∀ z,mgetT es x z = match mixT es x with | some j => (match es[j]? with | some e => e.2 | none => z) | none => z) ∧ (mhasT es x = (mixT es x).isSome) ∧ (∀ j,mixT es x = some j → j < es.length) ∧ ∀ v,mputT es x v = match mixT es x with | some j => es.set j (x,v) | none => es ++ [(x,v)]
 | [] => ⟨fun _ => rfl,rfl,fun j h => (by cases h),fun _ => rfl⟩
 | e :: es => by
  obtain ⟨h1,h2,h3,h4⟩ := mixT_get (x := x) es
  simp only [mgetT,mhasT,mixT,mputT]
  cases eqCs x e.1
  ·simp only [cond_false]
   cases hm : mixT es x with
   | none =>
    simp only [hm] at h1 h2 h3 h4
    exact ⟨h1,h2,fun j h => (by cases h),fun v => by rw [h4];rfl⟩
   | some j =>
    simp only [hm] at h1 h2 h3 h4
    refine ⟨fun z => by rw [h1];simp,h2,fun j' hj => ?_,fun v => by rw [h4];rfl⟩
    injection hj with hj;subst hj
    have := h3 j rfl
    simp;omega
  ·simp
theorem ObOk.map {ρ : Rho} {z : Fz} {k : Nat} {kg vg : Bool} {es : List (List V × List V)} {X hp : List (Nat × Hb)} {f : List (Nat × Hb) → List (Nat × Hb)} (h : ObOk ρ z k (.mp kg vg es) X) (r : RowAt X hp f) {v : Value} (hv : Den ρ z (.mp k) v) : ∃ b vs,v = .map (some b) ∧ X = [(b,⟨0,[],.m vs⟩)] ∧ (b,(⟨0,[],.m vs⟩ : Hb)) ∈ hp ∧ EntsOk z kg vg es vs := by
 obtain ⟨b,vs,h1,h2,h3⟩ := h
 cases hv with | @mp _ b' l h4 hA =>
 rw [h2] at h4
 injection h4 with h4;subst h4
 injection hA with hA;injection hA with hA;subst hA
 refine ⟨b,vs,rfl,h1,r.mem ?_,h3⟩
 rw [h1];exact List.mem_cons_self
omit hT in
theorem entsT_ok (g : Gd c st tm h ρ G) {sx : SV} {v : Value} {vg : Bool} {es : List (List V × List V)} (he : entsT st.ob sx = some (vg,es)) (hs : DenS ρ ⟨G,h.w0⟩ sx v) : ∃ b vs,v = .map (some b) ∧ (∀ w,Hp h w → ∃ (arr : Array MapEntry) (clock : Nat),w.heap[b]? = some (.map arr clock) ∧ arr.toList.map (fun e => (e.key,e.val)) = vs) ∧ EntsOk ⟨G,h.w0⟩ false vg es vs := by
 unfold entsT at he
 split at he
 ·rename_i k
  split at he
  ·rename_i vg' es' hko
   injection he with he
   injection he with e1 e2
   subst e1 e2
   cases hs with | d hs =>
   obtain ⟨X,f,o1,o2⟩ := g.ob.at_ hko
   obtain ⟨b,vs,rfl,_,o3,o4⟩ := o1.map o2 hs
   exact ⟨b,vs,rfl,fun w hw => (by
    obtain ⟨_,arr,clock,q1,q2,_⟩ : HasB w b ⟨0,[],.m vs⟩ := hw.blk b _ o3
    exact ⟨arr,clock,q1,q2⟩),o4⟩
  ·cases he
 ·rename_i vg' es'
  injection he with he
  injection he with e1 e2
  subst e1 e2
  cases hs with | d hs => cases hs with | u hs =>
  obtain ⟨b,clock,arr,rfl,hG,hb,h1⟩ := hs.fz_inv
  exact ⟨b,_,rfl,fun w hw => ⟨arr,clock,(hw.same.block b (g.gF b hG)).trans hb,rfl⟩,h1⟩
 ·cases he
omit hT in
theorem entsS_ok (g : Gd c st tm h ρ G) {sx : SV} {v : Value} {vg : Bool} {es : List (List V × List V)} (he : entsS st.ob sx = some (vg,es)) (hs : DenS ρ ⟨G,h.w0⟩ sx v) : ∃ b vs,v = .map (some b) ∧ (∀ w,Hp h w → ∃ (arr : Array MapEntry) (clock : Nat),w.heap[b]? = some (.map arr clock) ∧ arr.toList.map (fun e => (e.key,e.val)) = vs) ∧ EntsOk ⟨G,h.w0⟩ true vg es vs := by
 unfold entsS at he
 split at he
 ·rename_i k
  split at he
  ·rename_i vg' es' hko
   injection he with he
   injection he with e1 e2
   subst e1 e2
   cases hs with | d hs =>
   obtain ⟨X,f,o1,o2⟩ := g.ob.at_ hko
   obtain ⟨b,vs,rfl,_,o3,o4⟩ := o1.map o2 hs
   exact ⟨b,vs,rfl,fun w hw => (by
    obtain ⟨_,arr,clock,q1,q2,_⟩ : HasB w b ⟨0,[],.m vs⟩ := hw.blk b _ o3
    exact ⟨arr,clock,q1,q2⟩),o4⟩
  ·cases he
 ·cases he
theorem Yd.lookup {x ix : Operand} {t kt et : TypeId} {i ik ie : Ty} {b : Nat} {vg ok : Bool} {es : List (List V × List V)} {vs : List (Value × Value)} {y : V} {u : Value} {zs : List V} {z : Fz} (hx : ev tm x = some (.map (some b))) (hi : ev tm ix = some u) (ht : lk t T = some i) (hk : i.k = .mp kt et) (hkt : lk kt T = some ik) (het : lk et T = some ie) (hz : vzT ie.zero = some zs) (hvg : vg = ie.k.agg) (key : ∀ w,Hp h w → ∃ (arr : Array MapEntry) (clock : Nat),w.heap[b]? = some (.map arr clock) ∧ arr.toList.map (fun e => (e.key,e.val)) = vs) (he : EntsOk z false vg es vs) (hy : keyC ik.k y = true) (hu : DenV z y u) (hzk : zAgg P et = some vg) (hok : ∀ e ∈ es,keyT ik.k e.1 = true) :
  ∃ v,DenW z vg (mgetT es [y] zs) v ∧ Yd P nt ⟨d,.lookup t x ix ok,ty,pos,af,gd⟩ tm h (if ok then .tuple #[v,.bool (mhasT es [y])] else v) := by
 obtain ⟨dd,hdd,hchk⟩ := keyC_und (hT.ok kt ik hkt) hy
 have hund : P.underlying t = some (.map kt et) := by have := (hT.ok t i ht).kind;rw [hk] at this;exact this
 obtain ⟨f,zv,hf1,_,_,hf4,hf5⟩ := (hT.ok et ie het).info
 have hzd : DenW z vg zs zv := by
  have hd := vzT_den (z := z) hz
  rw [zAgg,hf1] at hzk
  simp only [hf4] at hzk
  cases vg
  ·cases zv with
   | agg cs => simp at hzk
   | _ => (simp only [Value.cells] at hf5;rw [← hf5] at hd;have hl := hd.len;match zs,hl with | [c],_ => exact ⟨c,rfl,hd.den 0 c _ rfl rfl⟩)
  ·cases zv with
   | agg cs => exact ⟨cs.toList,by simp,by have : (Value.agg cs).cells.toList = cs.toList := rfl;rw [← this,hf5];exact hd⟩
   | _ => simp at hzk
 have hzr : ∀ w,(zeroValue et).run P w = .ok zv w := fun w => by simp [zeroValue,typeInfo,hf1,hf4]
 obtain ⟨m1,m2,m3,m4⟩ := mixT_get (x := [y]) es
 have hfind : ∀ (arr : Array MapEntry),arr.toList.map (fun e => (e.key,e.val)) = vs → Instr.findNow dd u arr.toList 0 = some (match mixT es [y] with | some j => (arr.toList[j]?).map fun m => (0 + j,m.val) | none => none) := fun arr ha => by
  refine findNow_T (hT.ok kt ik hkt) hdd hy hu es arr.toList 0 (by rw [← he.len,← ha,List.length_map]) (fun j e m q1 q2 => ?_) hok
  have q3 : vs[j]? = some (m.key,m.val) := by rw [← ha,List.getElem?_map,q2];rfl
  exact (he.den j e _ q1 q3).1
 cases hj : mixT es [y] with
 | none =>
  have e1 : mgetT es [y] zs = zs := by rw [m1,hj]
  have e2 : mhasT es [y] = false := by rw [m2,hj];rfl
  refine ⟨zv,by rw [e1];exact hzd,⟨fun a w ha hw => ?_⟩⟩
  obtain ⟨arr,clock,q1,q2⟩ := key w hw
  have hf := hfind arr q2
  rw [hj] at hf
  cases ok <;> simp [execOp,ha.ev hx,ha.ev hi,Instr.lookup,run_underlying hund,run_underlying hdd,getObj,Sem.run,q1,hchk,Instr.findKey,hf,hzr,e2]
 | some j =>
  have hlt := m3 j hj
  obtain ⟨e,he1⟩ : ∃ e,es[j]? = some e := ⟨_,List.getElem?_eq_getElem hlt⟩
  obtain ⟨p,hp1⟩ : ∃ p,vs[j]? = some p := ⟨_,List.getElem?_eq_getElem (by rw [he.len];exact hlt)⟩
  have e1 : mgetT es [y] zs = e.2 := by rw [m1,hj];simp only [he1]
  have e2 : mhasT es [y] = true := by rw [m2,hj];rfl
  refine ⟨p.2,by rw [e1];exact (he.den j e p he1 hp1).2,⟨fun a w ha hw => ?_⟩⟩
  obtain ⟨arr,clock,q1,q2⟩ := key w hw
  have hf := hfind arr q2
  rw [hj] at hf
  have q3 : (arr.toList[j]?).map (fun m => (0 + j,m.val)) = some (0 + j,p.2) := by
   rw [← q2,List.getElem?_map] at hp1
   cases hm : arr.toList[j]? with
   | none => rw [hm] at hp1;cases hp1
   | some m => rw [hm] at hp1;simp only [Option.map_some,Option.some.injEq] at hp1;rw [← hp1];rfl
  simp only [q3] at hf
  cases ok <;> simp [execOp,ha.ev hx,ha.ev hi,Instr.lookup,run_underlying hund,run_underlying hdd,getObj,Sem.run,q1,hchk,Instr.findKey,hf,e2]
omit hT in
theorem valC_den {z : Fz} {vg : Bool} {row : List V} {v : Value} {c : SC} (h : DenW z vg row v) (hc : valC vg row = some c) : DenC ρ z c v := by
 cases vg
 ·obtain ⟨x,rfl,hx⟩ := h
  simp only [valC,Option.some.injEq] at hc
  subst hc
  exact .d (.u hx)
 ·obtain ⟨us,rfl,hu⟩ := h
  simp only [valC,Option.some.injEq] at hc
  subst hc
  exact .a (by rw [upT_map];exact hu.up)
omit hT in
theorem FamOk.nodup {z : Fz} {k : Nat} {u : TypeId} {i : Nat} {bs : List Nat} {rs : List (List E)} {Y : List (Nat × Hb)} (f : FamOk ρ z k u i bs rs Y) : (Y.map Prod.fst).Nodup → bs.Nodup ∧ ∀ b ∈ bs,b ∈ Y.map Prod.fst := by
 induction f with
 | nil => intro _;exact ⟨List.nodup_nil,fun b h => by cases h⟩
 | @cons i b bs row rows us X Y _ _ ih =>
  intro hn
  simp only [List.cons_append,List.map_cons,List.map_append,List.nodup_cons] at hn
  obtain ⟨h1,h2⟩ := ih (List.nodup_append.1 hn.2).2.1
  refine ⟨List.nodup_cons.2 ⟨fun hm => hn.1 (List.mem_append_right _ (h2 b hm)),h1⟩,fun c hc => ?_⟩
  rcases List.mem_cons.1 hc with rfl | hc
  ·simp
  ·simp only [List.cons_append,List.map_cons,List.map_append]
   exact List.mem_cons_of_mem _ (List.mem_append_right _ (h2 c hc))
omit hT in
theorem ptrT_some {z : Fz} {s : SV} {m : Option (Nat × Nat × Nat)} {v : Value} (hp : ptrT s = some (true,m)) (hs : DenS ρ z s v) : ∃ a,v = .pointer (some a) := by
 unfold ptrT at hp
 split at hp <;> try cases hp
 all_goals cases hs with | d hs => first | (cases hs with | u hs => cases hs;exact ⟨_,rfl⟩) | (cases hs;exact ⟨_,rfl⟩)
omit hT in
theorem ptrT_nil {z : Fz} {s : SV} {m : Option (Nat × Nat × Nat)} {v : Value} (hp : ptrT s = some (false,m)) (hs : DenS ρ z s v) : v = .pointer none := by
 unfold ptrT at hp
 split at hp <;> try cases hp
 cases hs with | d hs => cases hs with | u hs => cases hs;rfl
omit hT in
theorem ptrT_mem {z : Fz} {s : SV} {k i o : Nat} {a : Bool} {v : Value} (hp : ptrT s = some (a,some (k,i,o))) (hs : DenS ρ z s v) : DenV z (.m k i o) v := by
 unfold ptrT at hp
 split at hp <;> try cases hp
 cases hs with | d hs => cases hs with | u hs => exact hs
omit hT in
theorem Yd.ptrEq {x y : Operand} {t u : TypeId} {op : BinOp} {p q : Option Addr} {r ng : Bool} {i : Ty} {e : TypeId} (hx : ev tm x = some (.pointer p)) (hy : ev tm y = some (.pointer q)) (ht : lk t T = some i) (hk : i.k = .pt e) (ho : neqT op = some ng) (hr : ∀ w,Hp h w → ∀ d,(Op.equalIn (d + 1) t (.pointer p) (.pointer q)).run P w = .ok r w) : Yd P nt ⟨d,.binOp op t x y u,ty,pos,af,gd⟩ tm h (.bool (notT ng r)) :=
 ⟨fun a w ha hw => by
  have h1 := hr w hw 9999
  cases op <;> simp only [neqT] at ho <;> first | (cases ho;done) | (injection ho with ho;subst ho)
  ·simp [execOp,eqGuard,binOp,Op.equal,Op.maxDepth,ha.ev hx,ha.ev hy,h1,notT]
  ·simp [execOp,eqGuard,binOp,Op.equal,Op.maxDepth,ha.ev hx,ha.ev hy,h1,notT]⟩
theorem cmpPT_sound (g : Gd c st tm h ρ G) {op : BinOp} {t u : TypeId} {x y : Operand} {sx sy : SV} {K : SV → Prop} {p : Prop} (hx : evT st.tm x = some sx) (hy' : evT st.tm y = some sy) (hy : cmpPT T st.ob op t sx sy K = some p) (hp : p) : ∃ s v,Yd P nt ⟨d,.binOp op t x y u,ty,pos,af,gd⟩ tm h v ∧ DenS ρ ⟨G,h.w0⟩ s v ∧ K s := by
 obtain ⟨vx,x1,x2⟩ := g.ev hx
 obtain ⟨vy,y1,y2⟩ := g.ev hy'
 unfold cmpPT at hy
 split at hy
 ·cases hy
 ·rename_i a ma hpx
  split at hy
  ·cases hy
  ·rename_i b mb hpy
   cases ht : lk t T with
   | none => simp [ht] at hy
   | some i =>
    simp only [ht] at hy
    split at hy
    ·rename_i e hk
     have hund : P.underlying t = some (.pointer e) := by have := (hT.ok t i ht).kind;rw [hk] at this;exact this
     have triv : ∀ r,(∀ w,Hp h w → ∀ d,(Op.equalIn (d + 1) t vx vy).run P w = .ok r w) → eqlT op K r = some p → (∃ a,vx = .pointer a) → (∃ a,vy = .pointer a) → ∃ s v,Yd P nt ⟨d,.binOp op t x y u,ty,pos,af,gd⟩ tm h v ∧ DenS ρ ⟨G,h.w0⟩ s v ∧ K s := by
      rintro r hr he ⟨a,rfl⟩ ⟨b,rfl⟩
      cases op <;> simp only [eqlT] at he <;> first | (cases he;done) | (injection he with he;subst he)
      ·exact ⟨_,_,Yd.ptrEq x1 y1 ht hk rfl hr,.d (.u (.bool _)),hp⟩
      ·exact ⟨_,_,Yd.ptrEq x1 y1 ht hk rfl hr,.d (.u (.bool _)),hp⟩
     split at hy
     ·split at hy
      ·rename_i k i0 o k' i' o'
       cases hb : Nat.beq k k' && Nat.beq o o' <;> simp only [hb,cond_false,cond_true] at hy
       ·cases hy
       ·rw [Bool.and_eq_true] at hb
        have e1 := Nat.eq_of_beq_eq_true hb.1
        have e2 := Nat.eq_of_beq_eq_true hb.2
        subst e1 e2
        split at hy
        ·rename_i uu rs hko
         split at hy
         ·rename_i j hj
          cases hz : Nat.blt 0 j.size <;> simp only [hz,cond_false,cond_true] at hy
          ·cases hy
          ·split at hy
           ·rename_i ng hng
            injection hy with hy;subst hy
            have d1 := ptrT_mem hpx x2
            have d2 := ptrT_mem hpy y2
            obtain ⟨row1,hr1⟩ : ∃ row,rs[i0]? = some row := ⟨_,List.getElem?_eq_getElem hp.hi⟩
            obtain ⟨row2,hr2⟩ : ∃ row,rs[i']? = some row := ⟨_,List.getElem?_eq_getElem hp.hj⟩
            obtain ⟨b1,us1,X1,v1,_,m1,_⟩ := g.fam hko d1 hr1
            obtain ⟨b2,us2,X2,v2,_,m2,_⟩ := g.fam hko d2 hr2
            subst v1 v2
            have f1 : (G.fam k)[i0]? = some b1 := by cases d1 with | m h => exact h
            have f2 : (G.fam k)[i']? = some b2 := by cases d2 with | m h => exact h
            obtain ⟨f0,z0,hf1,hf2,_⟩ := (hT.ok e j hj).info
            have hne0 : ¬ j.size = 0 := by intro e0;rw [e0] at hz;cases hz
            refine ⟨_,_,Yd.ptrEq (r := decide (i0 = i')) x1 y1 ht hk hng ?_,.d (.u (.bool _)),hp.k⟩
            intro w hw dd
            by_cases he : i0 = i'
            ·subst he
             rw [f1] at f2
             injection f2 with f2;subst f2
             simp [Op.equalIn,run_underlying hund,sizeOf,typeInfo,hf1,hf2,hne0,sameAddr]
            ·have hbn : b1 ≠ b2 := by
              obtain ⟨X,f,⟨q1,_⟩,q3⟩ := g.ob.at_ hko
              have hnd : (X.map Prod.fst).Nodup := by
               have h9 := (q3.perm X).symm.map Prod.fst
               rw [q3.eq] at h9
               have h9 := h9.nodup_iff.2 hw.nd
               rw [List.map_append] at h9
               exact (List.nodup_append.1 h9).1
              have hbs := (q1.nodup hnd).1
              intro e0
              subst e0
              have l1 := (List.getElem?_eq_some_iff.1 f1).1
              have l2 := (List.getElem?_eq_some_iff.1 f2).1
              rw [List.getElem?_eq_getElem l1] at f1
              rw [List.getElem?_eq_getElem l2] at f2
              have f3 : (G.fam k)[i0] = (G.fam k)[i'] := by injection f1 with f1;injection f2 with f2;rw [f1,f2]
              rcases Nat.lt_or_ge i0 i' with hlt | hge
              ·exact List.pairwise_iff_getElem.1 hbs i0 i' l1 l2 hlt f3
              ·exact List.pairwise_iff_getElem.1 hbs i' i0 l2 l1 (by omega) f3.symm
             have c1 := hw.blk b1 _ m1
             have c2 := hw.blk b2 _ m2
             obtain ⟨j1,c1,_⟩ := c1
             obtain ⟨j2,c2,_⟩ := c2
             have hs : ¬ ((⟨b1,o,none⟩ : Addr) = ⟨b2,o,none⟩) := fun e0 => hbn (by injection e0)
             have := Go.run_sameAddr_other (P := P) w (a := ⟨b1,o,none⟩) (b := ⟨b2,o,none⟩) hs c1 c2
             simp [Op.equalIn,run_underlying hund,sizeOf,typeInfo,hf1,hf2,hne0,this,he]
           ·cases hy
         ·cases hy
        ·cases hy
      ·cases hy
     ·have e1 := ptrT_nil hpx x2
      have e2 := ptrT_nil hpy y2
      subst e1 e2
      exact triv true (fun w _ dd => by simp [Op.equalIn,run_underlying hund]) hy ⟨_,rfl⟩ ⟨_,rfl⟩
     ·rename_i hne1 hne2
      cases a <;> cases b
      ·exact (hne2 rfl rfl).elim
      ·have e1 := ptrT_nil hpx x2
       obtain ⟨a2,e2⟩ := ptrT_some hpy y2
       subst e1 e2
       exact triv false (fun w _ dd => by simp [Op.equalIn,run_underlying hund]) hy ⟨_,rfl⟩ ⟨_,rfl⟩
      ·have e2 := ptrT_nil hpy y2
       obtain ⟨a2,e1⟩ := ptrT_some hpx x2
       subst e1 e2
       exact triv false (fun w _ dd => by simp [Op.equalIn,run_underlying hund]) hy ⟨_,rfl⟩ ⟨_,rfl⟩
      ·exact (hne1 rfl rfl).elim
    ·cases hy
theorem Yd.indexA {t e an : Nat} {x ix : Operand} {b o m : Nat} {k : IntKind} {i j : Ty} (hx : ev tm x = some (.pointer (some ⟨b,o,none⟩))) (hix : ev tm ix = some (.int k (m : Int))) (ht : lk t T = some i) (hk : i.k = .ar an e) (hj : lk e T = some j) (hz : m < an) : Yd P nt ⟨d,.indexAddr t x ix,ty,pos,af,gd⟩ tm h (.pointer (some ⟨b,o + m * j.size,none⟩)) :=
 ⟨fun a w ha hw => by
  have h1 := (hT.ok t i ht).kind
  rw [hk] at h1
  have h1 : P.underlying t = some (.array an e) := h1
  have hadd : (⟨b,o,none⟩ : Addr).add (m * j.size) = ⟨b,o + m * j.size,none⟩ := by unfold Addr.add;split <;> simp_all
  simp [execOp,Instr.indexAt,asIntOf,Instr.sureAddr,ha.ev hx,ha.ev hix,run_underlying h1,(hT.ok e _ hj).run_size,hz,hadd]⟩
theorem vcY_sound (g : Gd c st tm h ρ G) {op : Op} {K : SV → Prop} {p : Prop} (hy : vcY P T op st.tm st.ob K = some p) (hp : p) : ∃ s v,Yd P nt ⟨d,op,ty,pos,af,gd⟩ tm h v ∧ DenS ρ ⟨G,h.w0⟩ s v ∧ K s := by
 simp only [vcY] at hy
 cases h0 : yT T st.tm st.ob op with
 | some s =>
  simp only [h0,Option.some.injEq] at hy
  subst hy
  obtain ⟨v,q1,q2⟩ := yT_sound g h0 (P := P) (nt := nt) (ty := ty) (pos := pos) (af := af) (gd := gd) (d := d)
  exact ⟨s,v,q1,q2,hp⟩
 | none =>
  simp only [h0] at hy
  clear h0
  split at hy
  ·-- pick
   split at hy
   ·rename_i b hc
    have e0 := evT_bool g hc
    split at hy
    ·rename_i s hx
     obtain ⟨v,q1,q2⟩ := g.ev hx
     split at hy
     ·rename_i s' hy'
      obtain ⟨v',r1,r2⟩ := g.ev hy'
      injection hy with hy;subst hy
      cases b
      ·exact ⟨s',v',.pickF e0 rfl r1,r2,hp.f rfl⟩
      ·exact ⟨s,v,.pickT e0 rfl q1,q2,hp.t rfl⟩
     ·injection hy with hy;subst hy
      cases b
      ·exact (hp.f rfl).elim
      ·exact ⟨s,v,.pickT e0 rfl q1,q2,hp.t rfl⟩
    ·split at hy
     ·rename_i s' hy'
      obtain ⟨v',r1,r2⟩ := g.ev hy'
      injection hy with hy;subst hy
      cases b
      ·exact ⟨s',v',.pickF e0 rfl r1,r2,hp.f rfl⟩
      ·exact (hp.t rfl).elim
     ·cases hy
   ·cases hy
  ·-- binOp
   rename_i op t x y u
   split at hy
   ·rename_i m hx
    split at hy
    ·rename_i n hy'
     cases ha : arithT op m n with
     | none => simp [ha] at hy
     | some r =>
      simp only [ha,Option.some.injEq] at hy
      subst hy
      have e1 := evT_int g hx
      have e2 := evT_int g hy'
      have hr := hp.r
      refine ⟨_,.int .i64 r,?_,.d (.u (.int _ _)),hp.k⟩
      cases op <;> simp only [arithT] at ha <;> first | (cases ha;done) | (injection ha with ha;subst ha)
      ·exact Yd.add e1 e2 hr
      ·exact Yd.sub e1 e2 hr
      ·exact Yd.mul e1 e2 hr
    ·cases hy
   ·rename_i a hx
    split at hy
    ·rename_i b hy'
     split at hy
     ·injection hy with hy;subst hy
      exact ⟨_,_,Yd.cat (evT_str g hx) (evT_str g hy') hp.h,.d (.u (.str _ (by rw [ByteArray.size_append];exact hp.h))),hp.k⟩
     ·injection hy with hy;subst hy
      exact ⟨_,_,Yd.strLss (evT_str g hx) (evT_str g hy'),.d (.u (.bool _)),hp⟩
     ·injection hy with hy;subst hy
      exact ⟨_,_,Yd.strGtr (evT_str g hx) (evT_str g hy'),.d (.u (.bool _)),hp⟩
     ·cases hy
    ·cases hy
   ·rename_i a hx
    split at hy
    ·rename_i b hy'
     cases ht : lk t T with
     | none => simp [ht] at hy
     | some i =>
      simp only [ht] at hy
      split at hy
      ·rename_i hk
       split at hy
       ·injection hy with hy;subst hy
        exact ⟨_,_,Yd.eqlBool (evT_bool g hx) (evT_bool g hy') ht hk,.d (.u (.bool _)),hp⟩
       ·injection hy with hy;subst hy
        exact ⟨_,_,Yd.neqBool (evT_bool g hx) (evT_bool g hy') ht hk,.d (.u (.bool _)),hp⟩
       ·cases hy
      ·cases hy
    ·cases hy
   ·rename_i xs hx
    split at hy
    ·rename_i ys hy'
     cases ht : lk t T with
     | none => simp [ht] at hy
     | some i =>
      simp only [ht] at hy
      split at hy
      ·rename_i fs hk
       cases he : eqT T fs 0 xs ys with
       | none => simp [he] at hy
       | some p0 =>
        simp only [he] at hy
        obtain ⟨vx,x1,x2⟩ := g.ev hx
        obtain ⟨vy,y1,y2⟩ := g.ev hy'
        cases x2 with | @a _ us x2 => cases y2 with | @a _ vs y2 =>
        split at hy
        ·injection hy with hy;subst hy
         refine ⟨_,.bool p0,⟨fun s w ha _ => ?_⟩,.d (.u (.bool _)),hp.k⟩
         obtain ⟨e1,_,e3⟩ := eqT_binOp (P := P) ht hk he hp.h x2 y2 x y w
         simp [execOp,ha.ev x1,ha.ev y1,e1,binOp,e3]
        ·injection hy with hy;subst hy
         refine ⟨_,.bool (!p0),⟨fun s w ha _ => ?_⟩,.d (.u (.bool _)),hp.k⟩
         obtain ⟨_,e2,e3⟩ := eqT_binOp (P := P) ht hk he hp.h x2 y2 x y w
         simp [execOp,ha.ev x1,ha.ev y1,e2,binOp,e3]
        ·cases hy
      ·cases hy
    ·cases hy
   ·rename_i sx _ _ _ _ hx
    split at hy
    ·rename_i sy hy'
     exact cmpPT_sound g hx hy' hy hp
    ·cases hy
   ·cases hy
  ·-- neg
   split at hy
   ·rename_i n hx
    injection hy with hy;subst hy
    have h1 := hp.r
    have h2 := hp.k.r
    exact ⟨_,_,Yd.neg (evT_int g hx) (by omega),.d (.u (.int _ _)),hp.k.k⟩
   ·cases hy
  ·-- load
   split at hy
   ·rename_i k m off hx
    split at hy
    ·rename_i u sz rs hk
     split at hy
     ·cases hy
     ·rename_i i ht
      injection hy with hy;subst hy
      obtain ⟨row,hr,hp⟩ := hp.out
      obtain ⟨v,q1,q2⟩ := g.ev hx
      obtain ⟨b,o',us,rfl,hd,hcell⟩ := g.row hk q2 hr
      cases hg : i.k.agg <;> simp only [hg] at hp
      ·cases hn : nth row off with
       | none => simp only [hn] at hp
       | some e =>
        simp only [hn] at hp
        rw [nth_eq] at hn
        obtain ⟨w,hw,hdw⟩ := hd.get hn
        exact ⟨_,w,Yd.load1 q1 ht hg ⟨fun w' hw' => hcell w' hw' off w hw⟩,.d (.u hdw),hp⟩
      ·cases hl : cutT row off i.size with
       | none => simp only [hl] at hp
       | some l =>
        simp only [hl] at hp
        obtain ⟨h1,h2⟩ := cutT_get hl
        obtain ⟨vs,r1,r2⟩ := hd.part (o := off) h2
        refine ⟨_,_,Yd.loadn (vs := vs) q1 ht hg ⟨fun w hw j u hu => ?_⟩ (by rw [r1.len,h1]),.a (by rw [upT_map];exact r1.up),hp⟩
        rw [Nat.add_assoc]
        exact hcell w hw (off + j) u (r2 j u hu)
    ·rename_i u sz rs hk
     split at hy
     ·cases hy
     ·rename_i i ht
      injection hy with hy;subst hy
      obtain ⟨row,hr,hp⟩ := hp.out
      obtain ⟨v,q1,q2⟩ := g.ev hx
      obtain ⟨b,o',us,X,rfl,hcs,hcell,_⟩ := g.faRow hk q2 hr
      cases hg : i.k.agg <;> simp only [hg] at hp
      ·cases hn : nth row off with
       | none => simp only [hn] at hp
       | some e =>
        simp only [hn] at hp
        cases he : eD k m off e with
        | none => simp only [he] at hp
        | some dd =>
         simp only [he] at hp
         rw [nth_eq] at hn
         obtain ⟨w,hw,hdw⟩ := hcs.get hn (by rw [Nat.zero_add];exact he)
         exact ⟨_,w,Yd.load1 q1 ht hg ⟨fun w' hw' => hcell w' hw' off w hw⟩,.d hdw,hp⟩
      ·cases hl : cutE k m row off i.size with
       | none => simp only [hl] at hp
       | some l =>
        simp only [hl] at hp
        obtain ⟨vs,r1,r2,r3⟩ := hcs.part hl
        refine ⟨_,_,Yd.loadn (vs := vs) q1 ht hg ⟨fun w hw j u hu => ?_⟩ r2.symm,.a r1,hp⟩
        rw [Nat.add_assoc]
        exact hcell w hw (off + j) u (r3 j u hu)
    ·cases hy
   ·rename_i k m off hx
    split at hy
    ·rename_i u rs hk
     split at hy
     ·cases hy
     ·rename_i i ht
      injection hy with hy;subst hy
      obtain ⟨row,hr,hp⟩ := hp.out
      obtain ⟨v,q1,q2⟩ := g.ev hx
      cases q2 with | d q2 => cases q2 with | u q2 =>
      obtain ⟨b,us,X,rfl,hcs,hmem,_⟩ := g.fam hk q2 hr
      have hcell : ∀ w,Hp h w → ∀ (j : Nat) x,us[j]? = some x → w.cell? ⟨b,j,none⟩ = some x := fun w hw j x hx => (hw.blk b _ hmem).cell (x := ⟨u,us,_⟩) hx
      cases hg : i.k.agg <;> simp only [hg] at hp
      ·cases hn : nth row off with
       | none => simp only [hn] at hp
       | some e =>
        simp only [hn] at hp
        cases he : eD k m off e with
        | none => simp only [he] at hp
        | some dd =>
         simp only [he] at hp
         rw [nth_eq] at hn
         obtain ⟨w,hw,hdw⟩ := hcs.get hn (by rw [Nat.zero_add];exact he)
         exact ⟨_,w,Yd.load1 q1 ht hg ⟨fun w' hw' => hcell w' hw' off w hw⟩,.d hdw,hp⟩
      ·cases hl : cutE k m row off i.size with
       | none => simp only [hl] at hp
       | some l =>
        simp only [hl] at hp
        obtain ⟨vs,r1,r2,r3⟩ := hcs.part hl
        exact ⟨_,_,Yd.loadn (vs := vs) q1 ht hg ⟨fun w hw j u hu => hcell w hw (off + j) u (r3 j u hu)⟩ r2.symm,.a r1,hp⟩
    ·cases hy
   ·rename_i k m o j off hx
    split at hy
    ·rename_i u rs hk
     split at hy
     ·cases hy
     ·rename_i i ht
      injection hy with hy;subst hy
      obtain ⟨row,hr,hp⟩ := hp.out
      split at hp
      ·rename_i e sz rr ho
       obtain ⟨r2,hr2,hp⟩ := hp.out
       obtain ⟨v,q1,q2⟩ := g.ev hx
       cases q2 with | d q2 =>
       obtain ⟨b,o',us,rfl,hd,hcell⟩ := g.famRow hk q2 hr ho hr2
       cases hg : i.k.agg <;> simp only [hg] at hp
       ·cases hn : nth r2 off with
        | none => simp only [hn] at hp
        | some e =>
         simp only [hn] at hp
         rw [nth_eq] at hn
         obtain ⟨w,hw,hdw⟩ := hd.get hn
         exact ⟨_,w,Yd.load1 q1 ht hg ⟨fun w' hw' => hcell w' hw' off w hw⟩,.d (.u hdw),hp⟩
       ·cases hl : cutT r2 off i.size with
        | none => simp only [hl] at hp
        | some l =>
         simp only [hl] at hp
         obtain ⟨h1,h2⟩ := cutT_get hl
         obtain ⟨vs,r1,r2⟩ := hd.part (o := off) h2
         refine ⟨_,_,Yd.loadn (vs := vs) q1 ht hg ⟨fun w hw j u hu => ?_⟩ (by rw [r1.len,h1]),.a (by rw [upT_map];exact r1.up),hp⟩
         rw [Nat.add_assoc]
         exact hcell w hw (off + j) u (r2 j u hu)
      ·exact hp.elim
    ·rename_i u sz0 rs hk
     split at hy
     ·cases hy
     ·rename_i i ht
      injection hy with hy;subst hy
      obtain ⟨row,hr,hp⟩ := hp.out
      split at hp
      ·rename_i e sz rr ho
       obtain ⟨r2,hr2,hp⟩ := hp.out
       obtain ⟨v,q1,q2⟩ := g.ev hx
       cases q2 with | d q2 =>
       obtain ⟨b,o',us,rfl,hd,hcell⟩ := g.faRe hk q2 hr ho hr2
       cases hg : i.k.agg <;> simp only [hg] at hp
       ·cases hn : nth r2 off with
        | none => simp only [hn] at hp
        | some e =>
         simp only [hn] at hp
         rw [nth_eq] at hn
         obtain ⟨w,hw,hdw⟩ := hd.get hn
         exact ⟨_,w,Yd.load1 q1 ht hg ⟨fun w' hw' => hcell w' hw' off w hw⟩,.d (.u hdw),hp⟩
       ·cases hl : cutT r2 off i.size with
        | none => simp only [hl] at hp
        | some l =>
         simp only [hl] at hp
         obtain ⟨h1,h2⟩ := cutT_get hl
         obtain ⟨vs,r1,r2⟩ := hd.part (o := off) h2
         refine ⟨_,_,Yd.loadn (vs := vs) q1 ht hg ⟨fun w hw j u hu => ?_⟩ (by rw [r1.len,h1]),.a (by rw [upT_map];exact r1.up),hp⟩
         rw [Nat.add_assoc]
         exact hcell w hw (off + j) u (r2 j u hu)
      ·exact hp.elim
    ·cases hy
   ·cases hy
  ·-- indexAddr
   split at hy
   ·rename_i ik i hix
    split at hy
    ·cases hy
    ·rename_i ti ht
     split at hy
     ·rename_i e hk
      split at hy
      ·cases hy
      ·rename_i j hj
       obtain ⟨jk,js,jb,jz⟩ := j
       have e2 := evT_int g hix
       split at hy
       ·rename_i sz rs hx
        cases hb : Nat.beq sz js <;> simp only [hb,cond_false,cond_true] at hy
        ·cases hy
        ·injection hy with hy;subst hy
         have := Nat.eq_of_beq_eq_true hb
         subst this
         obtain ⟨m,row,rfl,hr,hp⟩ := hp.out
         obtain ⟨v,q1,q2⟩ := g.ev hx
         cases q2 with | d q2 => cases q2 with | u q2 => cases q2 with | @sl _ _ A n cc b o us hn hc hm hrr hA hl hu h1 hd =>
         have hm' : m < n := by rw [← hn];exact (List.getElem?_eq_some_iff.1 hr).1
         obtain ⟨rfl,hG⟩ := hA (fun e => by rw [e] at hr;simp at hr)
         obtain ⟨vs,r1,r2⟩ := DenVL.part (z := ⟨G,h.w0⟩) ⟨hl,h1,hd⟩ (l := row) (o := m * sz) (fun j d hd => flat_get hrr hr j d hd)
         refine ⟨_,_,Yd.indexNat q1 e2 ht hk hj hm',.d (.q (o' := o + m * sz) hG (fun j u hj => by rw [Nat.add_assoc];exact hu _ u (r2 j u hj)) r1),hp⟩
       ·rename_i k n hx
        cases hb : szT st.ob js (.d (.ow k n)) <;> simp only [hb,cond_false,cond_true] at hy
        ·cases hy
        ·injection hy with hy;subst hy
         obtain ⟨m,rfl,hm,hp⟩ := hp.out
         obtain ⟨v,q1,q2⟩ := g.ev hx
         cases q2 with | d q2 => cases q2 with | @ow _ _ l h0 hA hnc =>
         obtain ⟨hls,hform⟩ := szT_at g hb h0
         obtain ⟨A,cc,lsz⟩ := l
         dsimp only at hls
         subst hls
         rcases hform with h1 | ⟨b,h1⟩ <;> dsimp only at h1 <;> subst h1
         ·have := hA rfl;omega
         ·have := Yd.indexNat (P := P) (nt := nt) (h := h) (d := d) (ty := ty) (pos := pos) (af := af) (gd := gd) q1 e2 ht hk hj hm
          rw [Nat.zero_add] at this
          exact ⟨_,_,this,.d (.e (o := 0) h0),hp⟩
       ·rename_i k a o sz n hx
        cases hb : Nat.beq sz js <;> simp only [hb,cond_false,cond_true] at hy
        ·cases hy
        ·injection hy with hy;subst hy
         have := Nat.eq_of_beq_eq_true hb
         subst this
         obtain ⟨m,rfl,hm,hp⟩ := hp.out
         obtain ⟨v,q1,q2⟩ := g.ev hx
         cases q2 with | d q2 => cases q2 with | r h0 hA hc hmx =>
         rcases hA with ⟨_,hn⟩ | ⟨b,rfl⟩
         ·omega
         ·have := Yd.indexNat (P := P) (nt := nt) (h := h) (d := d) (ty := ty) (pos := pos) (af := af) (gd := gd) q1 e2 ht hk hj hm
          rw [Nat.zero_add] at this
          exact ⟨_,_,this,.d (.re (f := 0) h0),hp⟩
       ·cases hy
     ·rename_i an e hk
      split at hy
      ·cases hy
      ·rename_i j hj
       have e2 := evT_int g hix
       split at hy
       ·rename_i s hx
        split at hy
        ·rename_i s0 hs0
         injection hy with hy;subst hy
         obtain ⟨m,rfl,hm,hp⟩ := hp.out
         obtain ⟨v,q1,q2⟩ := g.ev hx
         cases hs' : plusT s (m * j.size) with
         | none => simp only [hs'] at hp
         | some s' =>
          simp only [hs'] at hp
          obtain ⟨b,o,rfl,r2⟩ := plusT_den hs' q2
          exact ⟨_,_,Yd.indexA (P := P) (nt := nt) (h := h) (d := d) (ty := ty) (pos := pos) (af := af) (gd := gd) q1 e2 ht hk hj hm,r2,hp⟩
        ·cases hy
       ·cases hy
     ·cases hy
   ·cases hy
  ·-- slice
   split at hy
   ·cases hy
   ·rename_i ti ht
    split at hy
    ·rename_i e hk
     split at hy
     ·cases hy
     ·rename_i j hj
      obtain ⟨jk,js,jb,jz⟩ := j
      split at hy
      ·rename_i sz rs hx
       split at hy
       ·cases hy
       ·rename_i l hlo
        split at hy
        ·cases hy
        ·rename_i m hhi
         cases hb : Nat.beq sz js <;> simp only [hb,cond_false,cond_true] at hy
         ·cases hy
         ·injection hy with hy;subst hy
          have := Nat.eq_of_beq_eq_true hb
          subst this
          obtain ⟨l',m',rfl,rfl,h1,h2,hp⟩ := hp.out
          obtain ⟨v,q1,q2⟩ := g.ev hx
          cases q2 with | d q2 => cases q2 with | u q2 =>
          have q2' := q2
          cases q2' with | @sl _ _ A n cc b o us hn hc hm hrr hA hl hu h1' hd =>
          refine ⟨_,_,Yd.sliceG (l := l') (m := m') q1 ht hk hj ?_ ?_ h1 (by omega),.d (.u (rows_cut q2 h1 h2)),hp⟩
          ·rcases opnd_ev g hlo with ⟨e1,e2⟩ | e
           ·exact .inl ⟨e1,by omega⟩
           ·exact .inr e
          ·rcases opnd_ev g hhi with ⟨e1,e2⟩ | e
           ·exact .inl ⟨e1,by omega⟩
           ·exact .inr e
      ·rename_i k n hx
       split at hy
       ·rename_i u0 m0 rs hk'
        cases hb : Nat.beq m0 js <;> simp only [hb,cond_false,cond_true] at hy
        ·cases hy
        ·have := Nat.eq_of_beq_eq_true hb
         subst this
         obtain ⟨v,q1,q2⟩ := g.ev hx
         cases q2 with | d q2 => cases q2 with | @ow _ _ l h0 hA hnc =>
         obtain ⟨X,f,⟨A,cc,us,rfl,g2,g3,g4,g5⟩,g6⟩ := g.ob.at_ hk'
         rw [h0] at g2
         injection g2 with g2;subst g2
         have hcap : rs.length ≤ cc := g3.cap
         split at hy
         ·split at hy
          ·cases hy
          ·rename_i m hhi
           injection hy with hy;subst hy
           obtain ⟨l',m',h00,rfl,h1,h2,hp⟩ := hp.out
           have hy2 := Yd.sliceG (P := P) (nt := nt) (h := h) (d := d) (ty := ty) (pos := pos) (af := af) (gd := gd) (l := 0) (m := m') q1 ht hk hj (lo := none) (.inl ⟨rfl,rfl⟩) (by
            rcases opnd_ev g hhi with ⟨e1,e2⟩ | e
            ·exact .inl ⟨e1,by omega⟩
            ·exact .inr e) (Nat.zero_le _) (by dsimp only;omega)
           have hz : (if cc = 0 then A else A.map (·.add (0 * m0))) = A := by
            split
            ·rfl
            ·cases A <;> simp [Addr.add]
           rw [hz,Nat.sub_zero,Nat.sub_zero] at hy2
           refine ⟨_,_,hy2,.d (.ow h0 (fun e => ?_) (by dsimp only;omega)),hp⟩
           rcases g3.form with ⟨_,h3,_⟩ | ⟨b,h3⟩
           ·omega
           ·rw [h3] at e;cases e
         ·split at hy
          ·cases hy
          ·rename_i y l hlo
           split at hy
           ·cases hy
           ·rename_i m hhi
            injection hy with hy;subst hy
            obtain ⟨l',m',rfl,rfl,h1,h2,hp⟩ := hp.out
            have hy2 := Yd.sliceG (P := P) (nt := nt) (h := h) (d := d) (ty := ty) (pos := pos) (af := af) (gd := gd) (l := l') (m := m') q1 ht hk hj (by
             rcases opnd_ev g hlo with ⟨e1,e2⟩ | e
             ·cases e1
             ·exact .inr e) (by
             rcases opnd_ev g hhi with ⟨e1,e2⟩ | e
             ·exact .inl ⟨e1,by omega⟩
             ·exact .inr e) h1 (by dsimp only;omega)
            exact ⟨_,_,hy2,.d (.ows h0 (by dsimp only;omega)),hp⟩
       ·cases hy
      ·cases hy
    ·rename_i hk
     split at hy
     ·rename_i s hx
      split at hy
      ·cases hy
      ·rename_i l hlo
       split at hy
       ·cases hy
       ·rename_i m hhi
        injection hy with hy;subst hy
        obtain ⟨l',m',rfl,rfl,h1,h2,hp⟩ := hp.out
        obtain ⟨v,q1,q2⟩ := g.ev hx
        cases q2 with | d q2 => cases q2 with | u q2 => cases q2 with | str _ hs =>
        refine ⟨_,_,Yd.strSlice (l := l') (m := m') q1 ht hk ?_ ?_ h1 h2,.d (.u (.str _ (by simp;omega))),hp⟩
        ·rcases opnd_ev g hlo with ⟨e1,e2⟩ | e
         ·exact .inl ⟨e1,by omega⟩
         ·exact .inr e
        ·rcases opnd_ev g hhi with ⟨e1,e2⟩ | e
         ·exact .inl ⟨e1,by omega⟩
         ·exact .inr e
     ·cases hy
    ·cases hy
  ·-- slice with a bound of its own
   rename_i t x lo hi mx
   split at hy
   ·cases hy
   ·rename_i ti ht
    split at hy
    ·rename_i e hk
     split at hy
     ·cases hy
     ·rename_i j hj
      obtain ⟨jk,js,jb,jz⟩ := j
      split at hy
      ·cases hy
      ·rename_i l hlo
       split at hy
       ·cases hy
       ·rename_i m hhi
        split at hy
        ·cases hy
        ·rename_i q hmx
         have key : ∀ (A : Option Addr) (n cc len : Nat),ev tm x = some (.slice A n cc) → len ≤ cc → Slc3 len l m q (K (.d .any)) → ∃ s v,Yd P nt ⟨d,.slice t x lo (some hi) (some mx),ty,pos,af,gd⟩ tm h v ∧ DenS ρ ⟨G,h.w0⟩ s v ∧ K s := by
          intro A n cc len hx hlen ⟨⟨l',m',q',e1,e2,e3,h1,h2,h3⟩,hk0⟩
          subst e1 e2 e3
          refine ⟨_,_,Yd.slice3 (l := l') (m := m') (q := q') hx ht hk hj ?_ ?_ ?_ h1 h2 (by omega),.d (.any rfl),hk0⟩
          ·rcases opnd_ev g hlo with ⟨e1,e2⟩ | e
           ·exact .inl ⟨e1,by omega⟩
           ·exact .inr e
          ·rcases opnd_ev g hhi with ⟨e1,e2⟩ | ⟨y,k,e1,e2⟩
           ·cases e1
           ·injection e1 with e1;subst e1;exact ⟨k,e2⟩
          ·rcases opnd_ev g hmx with ⟨e1,e2⟩ | ⟨y,k,e1,e2⟩
           ·cases e1
           ·injection e1 with e1;subst e1;exact ⟨k,e2⟩
         split at hy
         ·rename_i sz rs hx
          injection hy with hy;subst hy
          obtain ⟨v,q1,q2⟩ := g.ev hx
          cases q2 with | d q2 => cases q2 with | u q2 => cases q2 with | @sl _ _ A n cc b o us hn hc hm hrr hA hl hu h1' hd =>
          exact key _ _ _ _ q1 (by omega) hp
         ·rename_i k n hx
          split at hy
          ·rename_i u0 m0 rs hk'
           injection hy with hy;subst hy
           obtain ⟨v,q1,q2⟩ := g.ev hx
           cases q2 with | d q2 => cases q2 with | @ow _ _ l h0 hA hnc =>
           obtain ⟨X,f,⟨A,cc,us,rfl,g2,g3,g4,g5⟩,g6⟩ := g.ob.at_ hk'
           rw [h0] at g2
           injection g2 with g2;subst g2
           exact key _ _ _ _ q1 g3.cap hp
          ·cases hy
         ·cases hy
    ·cases hy
  ·-- len
   rename_i xs ts
   split at hy
   ·rename_i x hxs
    split at hy
    ·rename_i t hts
     have h1 : xs = #[x] := by rw [← Array.toArray_toList (xs := xs),hxs]
     have h2 : ts = #[t] := by rw [← Array.toArray_toList (xs := ts),hts]
     subst h1 h2
     cases ht : lk t T with
     | none => simp [ht] at hy
     | some i =>
      simp only [ht] at hy
      split at hy
      ·rename_i e hk
       split at hy
       ·rename_i sz rs hx
        injection hy with hy;subst hy
        obtain ⟨v,hv,hs⟩ := g.ev hx
        cases hs with | d hs => cases hs with | u hs => cases hs with | sl us hn hc hm => subst hn;exact ⟨_,_,Yd.len hv ht hk,.d (.u (.int _ _)),hp.k (by omega)⟩
       ·rename_i k n hx
        split at hy
        ·rename_i u sz rs hk'
         injection hy with hy;subst hy
         obtain ⟨v,hv,hs⟩ := g.ev hx
         cases hs with | d hs => cases hs with | @ow _ _ l h0 hA hnc =>
         obtain ⟨X,f,⟨A,cc,us,rfl,g2,g3,g4,g5⟩,g6⟩ := g.ob.at_ hk'
         rw [h0] at g2
         injection g2 with g2;subst g2
         have hnc' : n ≤ cc := hnc
         have := g3.max
         exact ⟨_,_,Yd.len hv ht hk,.d (.u (.int _ _)),hp.k (by omega)⟩
        ·rename_i u sz rs hk'
         injection hy with hy;subst hy
         obtain ⟨v,hv,hs⟩ := g.ev hx
         cases hs with | d hs => cases hs with | @ow _ _ l h0 hA hnc =>
         obtain ⟨X,f,⟨A,cc,us,Y,rfl,g2,g3,g4,g5⟩,g6⟩ := g.ob.at_ hk'
         rw [h0] at g2
         injection g2 with g2;subst g2
         have hnc' : n ≤ cc := hnc
         have := g3.max
         exact ⟨_,_,Yd.len hv ht hk,.d (.u (.int _ _)),hp.k (by omega)⟩
        ·cases hy
       ·rename_i hx
        injection hy with hy;subst hy
        obtain ⟨v,hv,hs⟩ := g.ev hx
        cases hs with | d hs => cases hs with | u hs => cases hs with | nl => exact ⟨_,_,Yd.len hv ht hk,.d (.u (.int _ _)),hp⟩
       ·rename_i kk aa oo szz n hx
        injection hy with hy;subst hy
        obtain ⟨v,hv,hs⟩ := g.ev hx
        cases hs with | d hs => cases hs with | r h0 hA hc hmx => exact ⟨_,_,Yd.len hv ht hk,.d (.u (.int _ _)),hp.k (by omega)⟩
       ·cases hy
      ·rename_i hk
       split at hy
       ·rename_i b hx
        injection hy with hy;subst hy
        obtain ⟨v,hv,hs⟩ := g.ev hx
        cases hs with | d hs => cases hs with | u hs => cases hs with | str _ hs => exact ⟨_,_,Yd.lenStr hv ht hk,.d (.u (.int _ _)),hp.k hs⟩
       ·cases hy
      ·cases hy
    ·cases hy
   ·cases hy
  ·-- min
   rename_i xs ts
   split at hy
   ·rename_i x y hxs
    have h1 : xs = #[x,y] := by rw [← Array.toArray_toList (xs := xs),hxs]
    subst h1
    split at hy
    ·rename_i k m hx
     split at hy
     ·rename_i k' n hy'
      injection hy with hy;subst hy
      exact ⟨_,_,Yd.min (evT_int g hx) (evT_int g hy'),.d (.u (.int _ _)),hp⟩
     ·cases hy
    ·cases hy
   ·cases hy
  ·-- index
   split at hy
   ·cases hy
   ·rename_i ti ht
    split at hy
    ·rename_i hk
     split at hy
     ·rename_i s hx
      split at hy
      ·rename_i q i hi
       injection hy with hy;subst hy
       obtain ⟨n,hn,e0,hp'⟩ := hp.out
       subst e0
       exact ⟨_,_,Yd.strIndex (evT_str g hx) (evT_int g hi) ht hk hn,.d (.u (.int _ _)),hp'⟩
      ·cases hy
     ·cases hy
    ·cases hy
  ·-- lookup
   rename_i t x ix ok
   split at hy
   ·cases hy
   ·rename_i ti ht
    split at hy
    ·rename_i kt et hk
     split at hy
     ·cases hy
     ·rename_i ik hkt
      split at hy
      ·cases hy
      ·rename_i ie het
       split at hy
       ·cases hy
       ·rename_i zs hz
        split at hy
        ·rename_i sx hx
         split at hy
         ·rename_i vg es hent
          split at hy
          ·rename_i y hiy
           split at hy
           ·rename_i hcond
            injection hy with hy;subst hy
            rw [Bool.and_eq_true] at hcond
            have hvg : vg = ie.k.agg := by have := hcond.1;cases vg <;> cases h9 : ie.k.agg <;> rw [h9] at this <;> first | rfl | cases this
            obtain ⟨vx,x1,x2⟩ := g.ev hx
            obtain ⟨vi,i1,i2⟩ := g.ev hiy
            cases i2 with | d i2 => cases i2 with | u i2 =>
            obtain ⟨b,vs,rfl,o3,o4⟩ := entsT_ok g hent x2
            obtain ⟨v,l1,l2⟩ := Yd.lookup (P := P) (T := T) (nt := nt) (ok := ok) (ty := ty) (pos := pos) (af := af) (gd := gd) (d := d) x1 i1 ht hk hkt het hz hvg o3 o4 hcond.2 i2 hp.zk hp.ok
            have hp := hp.out
            cases hc : valC vg (mgetT es [y] zs) with
            | none => simp only [hc] at hp
            | some c =>
             simp only [hc] at hp
             have hcd := valC_den (ρ := ρ) l1 hc
             cases ok
             ·exact ⟨_,_,l2,hcd.up,hp⟩
             ·refine ⟨_,_,l2,.t (vs := [v,.bool (mhasT es [y])]) rfl fun j s v' h1 h2 => ?_,hp⟩
              rcases j with _ | _ | j
              ·simp at h1 h2;subst h1 h2;exact hcd
              ·simp at h1 h2;subst h1 h2;exact .d (.u (.bool _))
              ·simp at h1
           ·cases hy
          ·cases hy
         ·split at hy
          ·rename_i vg es hent
           split at hy
           ·rename_i cs hiy
            split at hy
            ·rename_i ys hbor
             split at hy
             ·rename_i hcond
              injection hy with hy;subst hy
              rw [Bool.and_eq_true] at hcond
              obtain ⟨vx,x1,x2⟩ := g.ev hx
              obtain ⟨vi,i1,i2⟩ := g.ev hiy
              have hkd : DenW ⟨G,h.w0⟩ true ys vi := by cases i2 with | a i2 => exact ⟨_,rfl,borL_nil_denS hbor i2⟩
              obtain ⟨b,vs,rfl,o3,o4⟩ := entsS_ok g hent x2
              have hko : KeyOk P ⟨G,h.w0⟩ true kt ys vi es := by
               have hc2 := hcond.2
               have hok := hp.ok
               unfold keyS at hc2 hok
               split at hc2
               ·rename_i fs hfs
                rw [hfs] at hok
                exact keyOk_S hkt hfs hp.ek hc2 hkd hok
               ·cases hc2
              obtain ⟨v,l1,l2⟩ := Yd.lookupG (P := P) (T := T) (nt := nt) (ok := ok) (ty := ty) (pos := pos) (af := af) (gd := gd) (d := d) x1 i1 ht hk hkt het hz (fun z => vzT_den hz) o3 o4 hko hp.zk
              have hp := hp.out
              cases hc : valC vg (mgetT es ys zs) with
              | none => simp only [hc] at hp
              | some c =>
               simp only [hc] at hp
               have hcd := valC_den (ρ := ρ) l1 hc
               cases ok
               ·exact ⟨_,_,l2,hcd.up,hp⟩
               ·refine ⟨_,_,l2,.t (vs := [v,.bool (mhasT es ys)]) rfl fun j s v' h1 h2 => ?_,hp⟩
                rcases j with _ | _ | j
                ·simp at h1 h2;subst h1 h2;exact hcd
                ·simp at h1 h2;subst h1 h2;exact .d (.u (.bool _))
                ·simp at h1
             ·cases hy
            ·cases hy
           ·cases hy
          ·cases hy
        ·cases hy
    ·cases hy
  ·cases hy
end
end Go.Proofs.YtjpaaaecbgmcgaaGreatDoor
/-
 The layer of trees: operations that make or write memory are sound.
-/
namespace Go.Proofs.YtjpaaaecbgmcgaaGreatDoor
open Go.RowKit
structure OsAt (k : Nat) (ρ ρ' : Rho) : Prop where
 loc : ρ'.loc = ρ.loc
 os : ∀ j,j ≠ k → ρ'.os j = ρ.os j
section
variable {ρ ρ' : Rho} {z z' : Fz} {k : Nat}
theorem beq_ne {a b : Nat} (h : Nat.beq a b = false) : a ≠ b := fun e => by rw [e,Nat.beq_refl] at h;cases h
theorem Den.inF (a : OsAt k ρ ρ') {d : D} {v : Value} (hd : d.inF k = false) (h : Den ρ z d v) : Den ρ' z d v := by
 cases h with
 | u h => exact .u h
 | ow h hA hc => exact .ow (by rw [a.loc];exact h) hA hc
 | p h => exact .p (by rw [a.loc];exact h)
 | e h => exact .e (by rw [a.loc];exact h)
 | q hb hu hd' => exact .q hb hu hd'
 | fn us hl hu =>
  refine .fn us hl fun j i u h1 h2 => ?_
  obtain ⟨b,c,sz,h3,h4⟩ := hu j i u h1 h2
  exact ⟨b,c,sz,by rw [a.loc];exact h3,h4⟩
 | mp h hA => exact .mp (by rw [a.loc];exact h) hA
 | r h hA hc hm => exact .r (by rw [a.os _ (beq_ne hd)];exact h) hA hc hm
 | re h => exact .re (by rw [a.os _ (beq_ne hd)];exact h)
 | ows h hc => exact .ows (by rw [a.loc];exact h) hc
 | any h1 => exact .any h1
theorem inFL_get {cs : List D} (h : inFL k cs = false) : ∀ (j : Nat) d,cs[j]? = some d → d.inF k = false := by
 induction cs with
 | nil => intro j d hj;simp at hj
 | cons x r ih =>
  simp only [inFL] at h
  cases hb : x.inF k
  ·rw [hb] at h
   intro j d hj
   cases j with
   | zero => simp at hj;subst hj;exact hb
   | succ j => exact ih h j d (by simpa using hj)
  ·rw [hb] at h;cases h
theorem inFC_get {cs : List SC} (h : inFC k cs = false) : ∀ (j : Nat) s,cs[j]? = some s → s.up.inF k = false := by
 induction cs with
 | nil => intro j d hj;simp at hj
 | cons x r ih =>
  have : x.up.inF k = false ∧ inFC k r = false := by
   cases x with
   | d x => simp only [inFC] at h;cases hb : x.inF k <;> rw [hb] at h;exact ⟨hb,h⟩;cases h
   | a x => simp only [inFC] at h;cases hb : inFL k x <;> rw [hb] at h;exact ⟨hb,h⟩;cases h
  intro j d hj
  cases j with
  | zero => simp at hj;subst hj;exact this.1
  | succ j => exact ih this.2 j d (by simpa using hj)
theorem DenS.inF (a : OsAt k ρ ρ') {s : SV} {v : Value} (hd : s.inF k = false) (h : DenS ρ z s v) : DenS ρ' z s v := by
 cases h with
 | d h => exact .d (h.inF a hd)
 | a h => exact .a ⟨h.len,h.one,fun j d u h1 h2 => (h.den j d u h1 h2).inF a (inFL_get hd j d h1)⟩
 | t hl hh =>
  refine .t hl fun j s v h1 h2 => ?_
  have hs := inFC_get hd j s h1
  cases hh j s v h1 h2 with
  | d h => exact .d (h.inF a hs)
  | a h => exact .a ⟨h.len,h.one,fun j d u h1 h2 => (h.den j d u h1 h2).inF a (inFL_get hs j d h1)⟩
theorem dropK_get : ∀ {tm : List (Nat × SV)} {ks : List Nat} {j : Nat} {s : SV},lk j (dropK k ks tm) = some s → inKs ks j = false ∧ lk j tm = some s ∧ s.inF k = false
 | [],_,_,_,h => by simp [dropK,lk] at h
 | (i,x) :: r,ks,j,s,h => by
  simp only [dropK] at h
  simp only [lk]
  cases h1 : inKs ks i <;> simp only [h1,cond_false,cond_true] at h
  ·cases h2 : x.inF k <;> simp only [h2,cond_false,cond_true] at h
   ·simp only [lk] at h
    cases hb : Nat.beq j i <;> simp only [hb,cond_false,cond_true] at h ⊢
    ·exact dropK_get h
    ·injection h with h;subst h
     rw [Nat.eq_of_beq_eq_true hb];exact ⟨h1,rfl,h2⟩
   ·obtain ⟨q1,q2,q3⟩ := dropK_get h
    simp only [inKs] at q1
    cases hb : Nat.beq j i <;> simp only [hb,cond_false,cond_true] at q1 ⊢
    ·exact ⟨q1,q2,q3⟩
    ·cases q1
  ·obtain ⟨q1,q2,q3⟩ := dropK_get h
   cases hb : Nat.beq j i
   ·exact ⟨q1,q2,q3⟩
   ·rw [Nat.eq_of_beq_eq_true hb,h1] at q1;cases q1
theorem dropL_ok (a : OsAt k ρ ρ') : ∀ {cs : List D} {us : List Value},DenL ρ z cs us → (dropL k cs).length = cs.length ∧ DenL ρ' z (dropL k cs) us
 | [],us,h => ⟨rfl,by have := h.len;simp at this;subst this;exact .nil⟩
 | x :: r,us,h => by
  have hl := h.len
  cases us with
  | nil => simp at hl
  | cons u us =>
   obtain ⟨q1,q2⟩ := dropL_ok a (us := us) (cs := r) ⟨by simpa using hl,by have := h.one;simp at this;simpa using this.2,fun j d v e1 e2 => h.den (j + 1) d v (by simpa using e1) (by simpa using e2)⟩
   have h0 := h.den 0 x u rfl rfl
   refine ⟨by simp [dropL,q1],?_⟩
   simp only [dropL]
   cases hx : x.inF k
   ·exact q2.cons (h0.inF a hx)
   ·exact q2.cons (.any h0.one)
theorem famNo_ne {ob : List (Nat × Ob)} (h : famNo k ob = true) : ∀ j o,(j,o) ∈ ob → j ≠ k := by
 induction ob with
 | nil => intro j o hm;cases hm
 | cons p r ih =>
  obtain ⟨i,x⟩ := p
  simp only [famNo] at h
  cases hb : Nat.beq k i <;> rw [hb] at h
  ·intro j o hm
   rcases List.mem_cons.1 hm with hm | hm
   ·cases hm;exact fun e => beq_ne hb e.symm
   ·exact ih h j o hm
  ·cases h
theorem ObsOk.drop (m : Mz z z') (hf : ∀ j,j ≠ k → z'.G.fam j = z.G.fam j) (hw : z'.G.own = z.G.own) (a : OsAt k ρ ρ') : ∀ {ob : List (Nat × Ob)} {hp : List (Nat × Hb)},famNo k ob = true → ObsOk ρ z ob hp → ObsOk ρ' z' (dropO k ob) hp
 | [],_,_,h => h
 | (j,.bx t cs) :: r,_,hn,⟨X,hp',h1,⟨b,us,h2,h3,h4⟩,h5⟩ => by
  obtain ⟨q1,q2⟩ := dropL_ok a (h4.mono m .refl)
  have hr : famNo k r = true := by simp only [famNo] at hn;cases hb : Nat.beq k j <;> rw [hb] at hn;exact hn;cases hn
  exact ⟨X,hp',h1,⟨b,us,by rw [q1];exact h2,by rw [q1,a.loc];exact h3,q2⟩,h5.drop m hf hw a hr⟩
 | (j,.ar t sz rs) :: r,_,hn,⟨X,hp',h1,⟨A,c,us,h2,h3,h4,h5',h6⟩,h5⟩ => by
  have hr : famNo k r = true := by simp only [famNo] at hn;cases hb : Nat.beq k j <;> rw [hb] at hn;exact hn;cases hn
  exact ⟨X,hp',h1,⟨A,c,us,h2,by rw [a.loc];exact h3,h4,h5'.mono m,h6⟩,h5.drop m hf hw a hr⟩
 | (j,.fm t rs) :: r,_,hn,⟨X,hp',h1,⟨h2,h3⟩,h5⟩ => by
  have hj : j ≠ k := famNo_ne hn j _ List.mem_cons_self
  have hr : famNo k r = true := by simp only [famNo] at hn;cases hb : Nat.beq k j <;> rw [hb] at hn;exact hn;cases hn
  exact ⟨X,hp',h1,⟨by rw [hf j hj];exact (h2.mono m .refl).congr fun i o => by rw [a.os j hj],by rw [hw];exact h3⟩,h5.drop m hf hw a hr⟩
 | (j,.mp kg vg es) :: r,_,hn,⟨X,hp',h1,⟨b,vs,h2,h3,h4⟩,h5⟩ => by
  have hr : famNo k r = true := by simp only [famNo] at hn;cases hb : Nat.beq k j <;> rw [hb] at hn;exact hn;cases hn
  exact ⟨X,hp',h1,⟨b,vs,h2,by rw [a.loc];exact h3,h4.mono m⟩,h5.drop m hf hw a hr⟩
 | (j,.fa t sz rs) :: r,_,hn,⟨X,hp',h1,⟨A,c,us,Y,h2,h3,h4,h5',h6⟩,h5⟩ => by
  have hj : j ≠ k := famNo_ne hn j _ List.mem_cons_self
  have hr : famNo k r = true := by simp only [famNo] at hn;cases hb : Nat.beq k j <;> rw [hb] at hn;exact hn;cases hn
  exact ⟨X,hp',h1,⟨A,c,us,Y,h2,by rw [a.loc];exact h3,h4,(h5'.mono m .refl).congr fun i o => by rw [a.os j hj],h6⟩,h5.drop m hf hw a hr⟩
 | (j,.ab cs us zb φ) :: r,_,hn,⟨X,hp',h1,⟨h2,h3,h4⟩,h5⟩ => by
  obtain ⟨q1,q2⟩ := dropL_ok a (h4.mono m .refl)
  have hr : famNo k r = true := by simp only [famNo] at hn;cases hb : Nat.beq k j <;> rw [hb] at hn;exact hn;cases hn
  exact ⟨X,hp',h1,⟨h2,h3.trans m,q2⟩,h5.drop m hf hw a hr⟩
theorem ObsOk.keep (m : Mz z z') (hf : ∀ j,j ≠ k → z'.G.fam j = z.G.fam j) (hw : z'.G.own = z.G.own) {ob : List (Nat × Ob)} {hp : List (Nat × Hb)} (hn : famNo k ob = true) (h : ObsOk ρ z ob hp) : ObsOk ρ z' ob hp :=
 h.monoF m .refl fun j o hm => Fms.of fun t rs e => ⟨hf j (famNo_ne hn j o hm),by rw [hw];exact id⟩
theorem ObsOk.famSet : ∀ {ob : List (Nat × Ob)} {hp : List (Nat × Hb)} {o : Ob},ObsOk ρ z ob hp → lk k ob = some o → famOne k ob = true → ∃ X rest,ObOk ρ z k o X ∧ hp.Perm (X ++ rest) ∧
  (∀ (z' : Fz) o' Y,Mz z z' → (∀ j,j ≠ k → z'.G.fam j = z.G.fam j) → z'.G.own = z.G.own → ObOk ρ z' k o' Y → ∃ hp',ObsOk ρ z' (obu k o' ob) hp' ∧ hp'.Perm (Y ++ rest)) ∧
  ∀ (ρ' : Rho) (z' : Fz) t rs' Y,Mz z z' → (∀ j,j ≠ k → z'.G.fam j = z.G.fam j) → z'.G.own = z.G.own → OsAt k ρ ρ' → ObOk ρ' z' k (.fm t rs') Y → ∃ hp',ObsOk ρ' z' (dropO k (obu k (.fm t rs') ob)) hp' ∧ hp'.Perm (Y ++ rest)
 | [],_,_,_,h,_ => by simp [lk] at h
 | (j,x) :: r,hp,o,⟨X,hp0,h1,h2,h3⟩,h,hn => by
  simp only [lk] at h
  simp only [famOne] at hn
  cases hb : Nat.beq k j <;> rw [hb] at h hn
  ·obtain ⟨X1,rest,q1,q2,q3,q4⟩ := h3.famSet h hn
   have hjk : j ≠ k := fun e => beq_ne hb e.symm
   have hpm : ∀ (A B : List (Nat × Hb)),(X ++ (A ++ B)).Perm (A ++ (X ++ B)) := fun A B => by
    rw [← List.append_assoc,← List.append_assoc];exact List.perm_append_comm.append_right _
   subst h1
   refine ⟨X1,X ++ rest,q1,(q2.append_left X).trans (hpm _ _),fun z' o' Y m hf hw ho => ?_,fun ρ' z' t rs' Y m hf hw a ho => ?_⟩
   ·obtain ⟨hp',r1,r2⟩ := q3 z' o' Y m hf hw ho
    simp only [obu,hb,cond_false]
    exact ⟨X ++ hp',⟨X,hp',rfl,h2.mono m .refl (Fms.of fun t rs e => ⟨hf j hjk,by rw [hw];exact id⟩),r1⟩,(r2.append_left X).trans (hpm _ _)⟩
   ·obtain ⟨hp',r1,r2⟩ := q4 ρ' z' t rs' Y m hf hw a ho
    simp only [obu,hb,cond_false]
    have hone : ObsOk ρ z [(j,x)] X := ⟨X,[],by simp,h2,rfl⟩
    have hno : famNo k [(j,x)] = true := by simp [famNo,hb]
    have hx := hone.drop m hf hw a hno
    cases x with
    | bx t cs =>
     obtain ⟨Z,hz,e1,e2,e3⟩ := hx
     have : hz = [] := e3
     subst this
     rw [List.append_nil] at e1
     subst e1
     exact ⟨X ++ hp',⟨X,hp',rfl,e2,r1⟩,(r2.append_left X).trans (hpm _ _)⟩
    | ar t sz rs =>
     obtain ⟨Z,hz,e1,e2,e3⟩ := hx
     have : hz = [] := e3
     subst this
     rw [List.append_nil] at e1
     subst e1
     exact ⟨X ++ hp',⟨X,hp',rfl,e2,r1⟩,(r2.append_left X).trans (hpm _ _)⟩
    | mp kg vg es =>
     obtain ⟨Z,hz,e1,e2,e3⟩ := hx
     have : hz = [] := e3
     subst this
     rw [List.append_nil] at e1
     subst e1
     exact ⟨X ++ hp',⟨X,hp',rfl,e2,r1⟩,(r2.append_left X).trans (hpm _ _)⟩
    | fa t sz rs =>
     obtain ⟨Z,hz,e1,e2,e3⟩ := hx
     have : hz = [] := e3
     subst this
     rw [List.append_nil] at e1
     subst e1
     exact ⟨X ++ hp',⟨X,hp',rfl,e2,r1⟩,(r2.append_left X).trans (hpm _ _)⟩
    | ab cs us zb φ =>
     obtain ⟨Z,hz,e1,e2,e3⟩ := hx
     have : hz = [] := e3
     subst this
     rw [List.append_nil] at e1
     subst e1
     exact ⟨X ++ hp',⟨X,hp',rfl,e2,r1⟩,(r2.append_left X).trans (hpm _ _)⟩
    | fm t rs =>
     obtain ⟨Z,hz,e1,e2,e3⟩ := hx
     have : hz = [] := e3
     subst this
     rw [List.append_nil] at e1
     subst e1
     exact ⟨X ++ hp',⟨X,hp',rfl,e2,r1⟩,(r2.append_left X).trans (hpm _ _)⟩
  ·simp only [cond_true,Option.some.injEq] at h
   subst h
   have := Nat.eq_of_beq_eq_true hb
   subst this
   refine ⟨X,hp0,h2,by rw [h1],fun z' o' Y m hf hw ho => ?_,fun ρ' z' t rs' Y m hf hw a ho => ?_⟩
   ·simp only [obu,hb,cond_true]
    exact ⟨Y ++ hp0,⟨Y,hp0,rfl,ho,h3.keep m hf hw hn⟩,.refl _⟩
   ·simp only [obu,hb,cond_true,dropO]
    exact ⟨Y ++ hp0,⟨Y,hp0,rfl,ho,h3.drop m hf hw a hn⟩,.refl _⟩
theorem famOne_lk {ob : List (Nat × Ob)} {o : Ob} (hn : famOne k ob = true) (hm : (k,o) ∈ ob) : lk k ob = some o := by
 induction ob with
 | nil => cases hm
 | cons p r ih =>
  obtain ⟨j,x⟩ := p
  simp only [famOne] at hn
  simp only [lk]
  cases hb : Nat.beq k j <;> rw [hb] at hn
  ·rcases List.mem_cons.1 hm with hm | hm
   ·cases hm;rw [Nat.beq_refl] at hb;cases hb
   ·exact ih hn hm
  ·rcases List.mem_cons.1 hm with hm | hm
   ·cases hm;rfl
   ·exact absurd rfl (famNo_ne hn k o hm)
theorem famT_mem {t : Nat} : ∀ {ob : List (Nat × Ob)} {rs : List (List E)},famT t ob = some (k,rs) → (k,.fm t rs) ∈ ob
 | [],_,h => by cases h
 | (j,.bx _ _) :: r,rs,h => List.mem_cons_of_mem _ (famT_mem (ob := r) h)
 | (j,.ar _ _ _) :: r,rs,h => List.mem_cons_of_mem _ (famT_mem (ob := r) h)
 | (j,.mp _ _ _) :: r,rs,h => List.mem_cons_of_mem _ (famT_mem (ob := r) h)
 | (j,.fa _ _ _) :: r,rs,h => List.mem_cons_of_mem _ (famT_mem (ob := r) h)
 | (j,.ab _ _ _ _) :: r,rs,h => List.mem_cons_of_mem _ (famT_mem (ob := r) h)
 | (j,.fm u ss) :: r,rs,h => by
  simp only [famT] at h
  cases hb : Nat.beq u t <;> rw [hb] at h
  ·exact List.mem_cons_of_mem _ (famT_mem (ob := r) h)
  ·simp only [cond_true,Option.some.injEq,Prod.mk.injEq] at h
   obtain ⟨rfl,rfl⟩ := h
   rw [Nat.eq_of_beq_eq_true hb]
   exact List.mem_cons_self
end
section
variable {c : Cx} {st : St} {tm : List (Nat × Value)} {ρ : Rho} {G : FG}
def newOs (ρ : Rho) (k i : Nat) (sp : List (Nat × (Nat × Nat))) : Rho := ⟨ρ.loc,fun j i' o => if j = k ∧ i' = i then (match lk o sp with | some (_,sz) => some ⟨none,0,sz⟩ | none => none) else ρ.os j i' o⟩
theorem newOs_at {ρ : Rho} {k i : Nat} {sp : List (Nat × (Nat × Nat))} : OsAt k ρ (newOs ρ k i sp) := ⟨rfl,fun j hj => by funext i' o';simp [newOs,hj]⟩
theorem cells_mkE {ρ : Rho} {z : Fz} {k i : Nat} {sp : List (Nat × (Nat × Nat))} : ∀ {xs : List V} {us : List Value} {o : Nat},DenVL z xs us → CellsOk (newOs ρ k i sp) z k i o (mkE sp o xs) us []
 | [],us,o,h => by have := h.len;simp at this;subst this;exact .nil
 | x :: xs,us,o,h => by
  have hl := h.len
  cases us with
  | nil => simp at hl
  | cons u us =>
   have h0 := h.den 0 x u rfl rfl
   refine .cons (X := []) ?_ (cells_mkE (o := o + 1) ⟨by simpa using hl,by have := h.one;simp at this;simpa using this.2,fun j d v e1 e2 => h.den (j + 1) d v (by simpa using e1) (by simpa using e2)⟩)
   cases x
   case nl =>
    cases h0
    simp only
    cases hs : lk o sp with
    | none => exact ⟨rfl,.nl⟩
    | some q => exact ⟨none,0,[],rfl,rfl,by simp [newOs,hs],OkA.nil q.2,.nil,by simp⟩
   all_goals exact ⟨rfl,h0⟩
theorem FamOk.congrB {ρ ρ' : Rho} {z : Fz} {k : Nat} {ty : TypeId} {i : Nat} {bs : List Nat} {rs : List (List E)} {X : List (Nat × Hb)} (h : FamOk ρ z k ty i bs rs X) : (∀ i' o,i' < i + rs.length → ρ'.os k i' o = ρ.os k i' o) → FamOk ρ' z k ty i bs rs X := by
 induction h with
 | nil => intro _;exact .nil
 | cons h _ ih => intro hq;exact .cons (h.congr fun o' _ => hq _ o' (by simp)) (ih fun i' o hi => hq i' o (by simp at hi ⊢;omega))
theorem Gd.newFam {F : Nat → Prop} {w0 : World} {hp : List (Nat × Hb)} (g : Gd c st tm ⟨F,w0,hp⟩ ρ G) {k t : Nat} {rs : List (List E)} (hf : famT t st.ob = some (k,rs)) (h1 : famOne k st.ob = true) {ys : List V} {us : List Value} (hd : DenVL ⟨G,w0⟩ ys us) (b : Nat) (sp : List (Nat × (Nat × Nat))) :
  ∃ hp' G' ρ',Gd c ⟨dropT k st.tm,dropO k (obu k (.fm t (rs ++ [mkE sp 0 ys])) st.ob)⟩ tm ⟨F,w0,hp'⟩ ρ' G' ∧ hp'.Perm ((b,⟨t,us,us.length⟩) :: hp) ∧ (G'.fam k)[rs.length]? = some b := by
 have hk := famOne_lk h1 (famT_mem hf)
 obtain ⟨X,rest,⟨q1,q1'⟩,q2,_,q3⟩ := g.ob.famSet hk h1
 have hown : c.G.own k := by rw [← g.fm.own];exact q1'
 let G' : FG := ⟨G.on,fun j => if j = k then G.fam k ++ [b] else G.fam j,G.own⟩
 have hgr : ∀ (j i b' : Nat),(G.fam j)[i]? = some b' → (G'.fam j)[i]? = some b' := fun j i b' h => by
  show (if j = k then G.fam k ++ [b] else G.fam j)[i]? = _
  split
  ·rename_i e;subst e
   rw [List.getElem?_append_left (List.getElem?_eq_some_iff.1 h).1];exact h
  ·exact h
 have m : Mz ⟨G,w0⟩ ⟨G',w0⟩ := ⟨fun _ h => h,fun _ _ => rfl,hgr⟩
 have hk' : G'.fam k = G.fam k ++ [b] := by show (if k = k then _ else _) = _;rw [if_pos rfl]
 have hlen := q1.len
 have hq1 : FamOk (newOs ρ k rs.length sp) ⟨G',w0⟩ k t 0 (G.fam k) rs X := (q1.mono m .refl).congrB fun i' o hi => by
  have : ¬ i' = rs.length := by omega
  simp [newOs,this]
 obtain ⟨hp',r1,r2⟩ := q3 (newOs ρ k rs.length sp) ⟨G',w0⟩ t (rs ++ [mkE sp 0 ys]) (X ++ ((b,⟨t,us,us.length⟩) :: [])) m (fun j hj => by show (if j = k then _ else _) = _;rw [if_neg hj]) rfl newOs_at
  ⟨by show FamOk _ ⟨G',w0⟩ k t 0 (G'.fam k) _ _;rw [hk'];exact hq1.snoc (by rw [Nat.zero_add];exact cells_mkE (hd.mono m)),q1'⟩
 refine ⟨hp',G',_,⟨g.fF,g.fw,g.gF,g.gx,⟨g.fm.own,fun j hj => ?_,fun j i b' h => hgr j i b' (g.fm.gr j i b' h)⟩,fun j s hj => ?_,r1⟩,?_,?_⟩
 ·have : j ≠ k := fun e => hj (by rw [e];exact hown)
  show (if j = k then _ else _) = _
  rw [if_neg this];exact g.fm.eq j hj
 ·obtain ⟨_,d1,d2⟩ := dropK_get hj
  obtain ⟨v,v1,v2⟩ := g.tm j s d1
  exact ⟨v,v1,(v2.mono m .refl).inF newOs_at d2⟩
 ·refine r2.trans ?_
  refine List.Perm.trans ?_ (q2.cons (b,⟨t,us,us.length⟩)).symm
  simp only [List.append_assoc,List.singleton_append]
  exact List.perm_middle
 ·rw [hk',List.getElem?_append_right (by rw [hlen];exact Nat.le_refl _),hlen,Nat.sub_self];rfl
end
section
variable {ρ : Rho}
theorem borL_nil_den {z : Fz} : ∀ {xs : List D} {ys : List V} {us : List Value},borL [] xs = some ys → DenL ρ z xs us → DenVL z ys us
 | [],ys,us,hb,hd => by
  simp [borL] at hb
  subst hb
  have := hd.len
  simp at this
  subst this
  exact .nil
 | x :: r,ys,us,hb,hd => by
  simp only [borL] at hb
  cases h1 : borD [] x with
  | none => simp [h1] at hb
  | some y =>
   cases h2 : borL [] r with
   | none => simp [h1,h2] at hb
   | some l =>
    simp only [h1,h2,Option.some.injEq] at hb
    subst hb
    have hl := hd.len
    cases us with
    | nil => simp at hl
    | cons u us =>
     have hx : DenV z y u := by
      have := hd.den 0 x u rfl rfl
      cases x <;> simp only [borD,lk] at h1 <;> first | (cases h1;done) | (injection h1 with h1;subst h1;cases this;assumption)
     have hr := borL_nil_den h2 (us := us) ⟨by simpa using hl,by have := hd.one;simp at this;simpa using this.2,fun j d v e1 e2 => hd.den (j + 1) d v (by simpa using e1) (by simpa using e2)⟩
     exact ⟨by simp [hr.len],by simp [hx.one,hr.one],fun j d v e1 e2 => by
      cases j with
      | zero => simp at e1 e2;subst e1 e2;exact hx
      | succ j => exact hr.den j d v (by simpa using e1) (by simpa using e2)⟩
end
theorem RowAt.updB {b : Nat} {x y : Hb} {X hp : List (Nat × Hb)} {f : List (Nat × Hb) → List (Nat × Hb)} (r : RowAt X hp f) (hX : X = [(b,x)]) : UpdB b x y hp (f [(b,y)]) := by
 induction r with
 | here => subst hX;exact .here
 | there _ ih => exact .there ih
 | skip _ ih => exact .skip ih
section
variable {P : Program} {T : List (Nat × Ty)} [hT : Tys P T] {nt : Nt} {Q : Exit → Act → World → Prop} {c : Cx} {st : St} {tm : List (Nat × Value)} {h : Hs} {ρ : Rho} {G : FG} {ty : TypeId} {pos : String} {af : Array Edge} {gd : Option (Nat × Bool)} {K : Kt}
omit hT in
theorem OpS.mono {o : Oper} {K K' : List (Nat × Value) → Hs → Prop} (k : OpS P nt Q o tm h K) (hk : ∀ tm h,K tm h → K' tm h) : OpS P nt Q o tm h K' :=
 ⟨fun a w ha hw => Oper.wp_mono (fun _ _ ⟨tm',h',h1,h2,h3⟩ => ⟨tm',h',h1,h2,hk _ _ h3⟩) (k.out a w ha hw)⟩
omit hT in
theorem Kd.of (g : Gd c st tm h ρ G) (k : K st.tm st.ob) : Kd c K tm h := ⟨st,ρ,G,h,fun _ hw => hw,g,k⟩
theorem putT_sound {op : Op} {d : Option Tmp} {s : SV} {v : Value} (g : Gd c st tm h ρ G) (y : Yd P nt ⟨d,op,ty,pos,af,gd⟩ tm h v) (hs : DenS ρ ⟨G,h.w0⟩ s v) (k : putT nt d s st.tm st.ob K) : OpS P nt Q ⟨d,op,ty,pos,af,gd⟩ tm h (Kd c K) := by
 cases d with
 | none => exact k.elim
 | some d =>
  simp only [putT] at k
  cases hd : Nat.blt d nt
  ·rw [hd] at k;exact k.elim
  ·rw [hd] at k
   exact OpS.yd y hd (.of (g.put hs) k)
theorem alloc_keep {t : TypeId} {d : Option Tmp} (g : Gd c st tm h ρ G) {kp : Bool} (k : vcM P T nt kp ⟨d,.alloc t,ty,pos,af,gd⟩ st.tm st.ob K) : OpS P nt Q ⟨d,.alloc t,ty,pos,af,gd⟩ tm h (Kk h c K) := by
 obtain ⟨F,w0,hp⟩ := h
 simp only [vcM] at k
 cases d with
 | none => exact k.elim
 | some d =>
  simp only at k
  cases ht : lk t T with
  | none => simp only [ht] at k
  | some i =>
   obtain ⟨ik,is,ib,iz⟩ := i
   simp only [ht] at k
   cases hfam : famT t st.ob with
   | some p =>
    obtain ⟨k0,rs⟩ := p
    simp only [hfam] at k
    cases hz : vzT iz with
    | none => simp only [hz] at k
    | some zs =>
     simp only [hz] at k
     cases hb : (Nat.blt d nt && famOne k0 st.ob)
     ·rw [hb] at k;exact k.elim
     ·rw [hb] at k
      simp only [Bool.and_eq_true] at hb
      obtain ⟨sp,k⟩ := k.out
      refine OpS.alloc ht hb.1 fun b => ?_
      obtain ⟨hp',G',ρ',g1,g2,g3⟩ := g.newFam hfam hb.2 (vzT_den hz) b sp
      have hsh : ∀ w,Hp ⟨F,w0,(b,⟨t,iz,iz.length⟩) :: hp⟩ w → Hp ⟨F,w0,hp'⟩ w := fun w hw => hw.perm g2.symm
      exact ⟨⟨(d,.d (.u (.m k0 rs.length 0))) :: dropT k0 st.tm,_⟩,ρ',G',⟨F,w0,hp'⟩,hsh,fun w hw => (hw.perm g2).sub (List.sublist_cons_self _ _),g1.put (.d (.u (.m g3))),k⟩
   | none =>
   simp only [hfam] at k
   cases hz : zerosT iz with
   | none => simp only [hz] at k
   | some zs =>
    simp only [hz] at k
    cases hb : (Nat.blt d nt && newN d st.tm st.ob)
    ·rw [hb] at k;exact k.elim
    ·rw [hb] at k
     simp only [Bool.and_eq_true] at hb
     refine OpS.alloc ht hb.1 fun b => ?_
     have hd : DenL (upd ρ d ⟨some ⟨b,0,none⟩,1,zs.length⟩) ⟨G,w0⟩ zs iz := zerosT_den hz
     have ho : ObOk (upd ρ d ⟨some ⟨b,0,none⟩,1,zs.length⟩) ⟨G,w0⟩ d (.bx t zs) [(b,⟨t,iz,zs.length⟩)] := ⟨b,iz,rfl,upd_self,hd⟩
     rw [hd.len]
     exact .of (fun w hw => hw.sub (List.sublist_cons_self _ _)) ((g.new hb.2 ho).put (.d (.p upd_self))) k
omit hT in
theorem box_keep {t : TypeId} {x : Operand} {d : Option Tmp} (g : Gd c st tm h ρ G) {kp : Bool} (k : vcM P T nt kp ⟨d,.box t x,ty,pos,af,gd⟩ st.tm st.ob K) : OpS P nt Q ⟨d,.box t x,ty,pos,af,gd⟩ tm h (Kk h c K) := by
 obtain ⟨F,w0,hp⟩ := h
 simp only [vcM] at k
 cases d with
 | none => exact k.elim
 | some d =>
  simp only at k
  cases hx : evT st.tm x with
  | none => simp only [hx] at k
  | some s =>
   simp only [hx] at k
   cases hc : cellsOfT s with
   | none => simp only [hc] at k
   | some cs =>
    simp only [hc] at k
    cases hfam : famT t st.ob with
    | some p =>
     obtain ⟨k0,rs⟩ := p
     simp only [hfam] at k
     cases hy : borL [] cs with
     | none => simp only [hy] at k
     | some ys =>
      simp only [hy] at k
      cases hb : (Nat.blt d nt && famOne k0 st.ob)
      ·rw [hb] at k;exact k.elim
      ·rw [hb] at k
       simp only [Bool.and_eq_true] at hb
       obtain ⟨v,q1,q2⟩ := g.ev hx
       obtain ⟨sp,k⟩ := k.out
       refine OpS.box q1 hb.1 fun b => ?_
       obtain ⟨hp',G',ρ',g1,g2,g3⟩ := g.newFam hfam hb.2 (borL_nil_den hy (cellsOfT_den hc q2)) b sp
       have hsh : ∀ w,Hp ⟨F,w0,(b,⟨t,vcells v,(vcells v).length⟩) :: hp⟩ w → Hp ⟨F,w0,hp'⟩ w := fun w hw => hw.perm g2.symm
       exact ⟨⟨(d,.d (.u (.m k0 rs.length 0))) :: dropT k0 st.tm,_⟩,ρ',G',⟨F,w0,hp'⟩,hsh,fun w hw => (hw.perm g2).sub (List.sublist_cons_self _ _),g1.put (.d (.u (.m g3))),k⟩
    | none =>
    simp only [hfam] at k
    cases hb : (Nat.blt d nt && newN d st.tm st.ob)
    ·rw [hb] at k;exact k.elim
    ·rw [hb] at k
     simp only [Bool.and_eq_true] at hb
     obtain ⟨v,q1,q2⟩ := g.ev hx
     refine OpS.box q1 hb.1 fun b => ?_
     have hs : s.has d = false := by
      cases x with
      | tmp t => exact hasTm_get (newN_tm hb.2).1 t s hx
      | const v =>
       simp only [evT] at hx
       split at hx
       ·injection hx with hx;subst hx;rfl
       ·cases hx
      | global g => cases hx
      | func f => simp only [evT,Option.some.injEq] at hx;subst hx;rfl
     have hd : DenL (upd ρ d ⟨some ⟨b,0,none⟩,1,cs.length⟩) ⟨G,w0⟩ cs (vcells v) := cellsOfT_den hc (q2.upd hs)
     have ho : ObOk (upd ρ d ⟨some ⟨b,0,none⟩,1,cs.length⟩) ⟨G,w0⟩ d (.bx t cs) [(b,⟨t,vcells v,cs.length⟩)] := ⟨b,_,rfl,upd_self,hd⟩
     rw [hd.len]
     exact .of (fun w hw => hw.sub (List.sublist_cons_self _ _)) ((g.new hb.2 ho).put (.d (.p upd_self))) k
theorem flat_mid {α : Type} {sz m off : Nat} {rs : List (List α)} {row ys : List α} (hr : ∀ r ∈ rs,r.length = sz) (hm : rs[m]? = some row) (ho : off + ys.length ≤ sz) :
  (rs.set m (row.take off ++ ys ++ row.drop (off + ys.length))).flatten = rs.flatten.take (m * sz + off) ++ ys ++ rs.flatten.drop (m * sz + off + ys.length) := by
 induction rs generalizing m with
 | nil => simp at hm
 | cons r rs ih =>
  have h1 := hr r List.mem_cons_self
  cases m with
  | zero =>
   simp at hm
   subst hm
   simp only [List.set_cons_zero,List.flatten_cons,Nat.zero_mul,Nat.zero_add]
   rw [List.take_append_of_le_length (by omega),List.drop_append_of_le_length (by omega)]
   simp
  | succ m =>
   have := ih (m := m) (fun x hx => hr x (List.mem_cons_of_mem _ hx)) (by simpa using hm)
   simp only [List.set_cons_succ,List.flatten_cons,this]
   rw [show (m + 1) * sz + off = r.length + (m * sz + off) by rw [Nat.succ_mul,h1];omega]
   rw [List.take_length_add_append,show r.length + (m * sz + off) + ys.length = r.length + (m * sz + off + ys.length) by omega,List.drop_length_add_append]
   simp
def updOs (ρ : Rho) (k i o : Nat) (l : Option Loc) : Rho := ⟨ρ.loc,fun j i' o' => if j = k ∧ i' = i ∧ o' = o then l else ρ.os j i' o'⟩
theorem updOs_at {ρ : Rho} {k i o : Nat} {l : Option Loc} : OsAt k ρ (updOs ρ k i o l) := ⟨rfl,fun j hj => by funext i' o';simp [updOs,hj]⟩
omit hT in
theorem Gd.famPut {F : Nat → Prop} {w0 : World} {hp : List (Nat × Hb)} (g : Gd c st tm ⟨F,w0,hp⟩ ρ G) {k m off u : Nat} {rs : List (List E)} {row : List E} {e e' : E} {p v : Value} (hk : lk k st.ob = some (.fm u rs)) (h1 : famOne k st.ob = true) (hp' : DenV ⟨G,w0⟩ (.m k m off) p) (hr : rs[m]? = some row) (ho : row[off]? = some e) :
  ∃ b us Xe rest,p = .pointer (some ⟨b,off,none⟩) ∧ off < us.length ∧ us.all Value.oneCell' = true ∧ (∃ u0,us[off]? = some u0 ∧ CellOk ρ ⟨G,w0⟩ k m off e u0 Xe) ∧ hp.Perm ((b,⟨u,us,us.length⟩) :: (Xe ++ rest)) ∧
   (∀ y,(∃ x,e = .v x) ∨ e = .hl → e' = .v y → DenV ⟨G,w0⟩ y v → ∃ hq,hq.Perm ((b,⟨u,us.set off v,us.length⟩) :: (Xe ++ rest)) ∧ Gd c ⟨st.tm,obu k (.fm u (rs.set m (row.set off e'))) st.ob⟩ tm ⟨F,w0,hq⟩ ρ G) ∧
   (∀ l Xe',CellOk (updOs ρ k m off l) ⟨G,w0⟩ k m off e' v Xe' → ∃ hq,hq.Perm ((b,⟨u,us.set off v,us.length⟩) :: (Xe' ++ rest)) ∧ Gd c ⟨dropT k st.tm,dropO k (obu k (.fm u (rs.set m (row.set off e'))) st.ob)⟩ tm ⟨F,w0,hq⟩ (updOs ρ k m off l) G) := by
 obtain ⟨X,rest0,⟨q1,q1'⟩,q2,q3,q4⟩ := g.ob.famSet hk h1
 obtain ⟨b,us,X1,rest1,r1,r2,r3,r4⟩ := q1.split hr
 obtain ⟨u0,Xe,rest2,s1,s2,s3,s4⟩ := r2.split ho
 rw [Nat.zero_add] at s2 s4 r2 r4
 rw [Nat.zero_add] at s2 s4
 cases hp' with | @m _ _ _ b' h0 =>
 rw [r1] at h0
 injection h0 with h0
 subst h0
 have hone := r2.one
 have hlen : off < us.length := (List.getElem?_eq_some_iff.1 s1).1
 have hperm : ∀ (A B C D X1' X' : List (Nat × Hb)) (q : Nat × Hb),X1'.Perm (A ++ B) → X'.Perm (q :: (X1' ++ C)) → (X' ++ D).Perm (q :: (A ++ (B ++ C ++ D))) := fun A B C D X1' X' q h1 h2 => by
  refine (h2.append_right D).trans ?_
  simp only [List.cons_append,List.append_assoc]
  refine List.Perm.cons q ?_
  have := h1.append_right (C ++ D)
  simpa [List.append_assoc] using this
 refine ⟨b,us,Xe,rest2 ++ rest1 ++ rest0,rfl,hlen,hone,⟨u0,s1,s2⟩,q2.trans (hperm _ _ _ _ _ _ _ s3 r3),fun y hx hy hv => ?_,fun l Xe' hc => ?_⟩
 ·subst hy
  have hXe : Xe = [] := by
   rcases hx with ⟨x,rfl⟩ | rfl
   ·exact s2.1
   ·exact s2.1
  subst hXe
  obtain ⟨X1',t1,t2⟩ := s4 ρ (.v y) v [] (fun _ _ => rfl) ⟨rfl,hv⟩
  obtain ⟨X',u1,u2⟩ := r4 ρ _ _ _ (fun _ _ _ => rfl) t1
  obtain ⟨hq,v1,v2⟩ := q3 ⟨G,w0⟩ (.fm u (rs.set m (row.set off (.v y)))) X' .refl (fun _ _ => rfl) rfl ⟨u1,q1'⟩
  refine ⟨hq,?_,g.fF,g.fw,g.gF,g.gx,g.fm,g.tm,v1⟩
  have := v2.trans (hperm _ _ _ _ _ _ _ t2 u2)
  simpa using this
 ·obtain ⟨X1',t1,t2⟩ := s4 (updOs ρ k m off l) e' v Xe' (fun o' ho' => by simp [updOs,ho']) hc
  obtain ⟨X',u1,u2⟩ := r4 (updOs ρ k m off l) _ _ _ (fun i' o hi => by simp [updOs,hi]) t1
  obtain ⟨hq,v1,v2⟩ := q4 (updOs ρ k m off l) ⟨G,w0⟩ u (rs.set m (row.set off e')) X' .refl (fun _ _ => rfl) rfl updOs_at ⟨u1,q1'⟩
  refine ⟨hq,?_,g.fF,g.fw,g.gF,g.gx,g.fm,fun j s hj => ?_,v1⟩
  ·have := v2.trans (hperm _ _ _ _ _ _ _ t2 u2)
   simpa using this
  ·obtain ⟨_,d1,d2⟩ := dropK_get hj
   obtain ⟨v',v1,v2⟩ := g.tm j s d1
   exact ⟨v',v1,v2.inF updOs_at d2⟩
omit hT in
theorem Gd.famPutV {F : Nat → Prop} {w0 : World} {hp : List (Nat × Hb)} (g : Gd c st tm ⟨F,w0,hp⟩ ρ G) {k m off u : Nat} {rs : List (List E)} {row row' : List E} {ys : List V} {vs : List Value} {p : Value} (hk : lk k st.ob = some (.fm u rs)) (h1 : famOne k st.ob = true) (hp' : DenV ⟨G,w0⟩ (.m k m off) p) (hr : rs[m]? = some row) (ho : putV row off ys = some row') (hv : DenVL ⟨G,w0⟩ ys vs) (hne : vs ≠ []) :
  ∃ b us R,p = .pointer (some ⟨b,off,none⟩) ∧ off + vs.length ≤ us.length ∧ hp.Perm ((b,⟨u,us,us.length⟩) :: R) ∧ ∃ hq,hq.Perm ((b,⟨u,spl us off vs,us.length⟩) :: R) ∧ Gd c ⟨st.tm,obu k (.fm u (rs.set m row')) st.ob⟩ tm ⟨F,w0,hq⟩ ρ G := by
 obtain ⟨X,rest0,⟨q1,q1'⟩,q2,q3,_⟩ := g.ob.famSet hk h1
 obtain ⟨b,us,X1,rest1,r1,r2,r3,r4⟩ := q1.split hr
 rw [Nat.zero_add] at r2 r4
 cases hp' with | @m _ _ _ b' h0 =>
 rw [r1] at h0
 injection h0 with h0
 subst h0
 have hbound : off + vs.length ≤ us.length ∨ vs = [] := by
  left
  have : ∀ (ys : List V) (row : List E) (o : Nat) row',putV row o ys = some row' → ys ≠ [] → o + ys.length ≤ row.length := by
   intro ys
   induction ys with
   | nil => intro row o row' _ h;exact absurd rfl h
   | cons y ys ih =>
    intro row o row' h _
    simp only [putV] at h
    have key : ∀ e,nth row o = some e → putV (row.set o (.v y)) (o + 1) ys = some row' → o + (y :: ys).length ≤ row.length := fun e hn h => by
     rw [nth_eq] at hn
     have ho := (List.getElem?_eq_some_iff.1 hn).1
     by_cases hys : ys = []
     ·subst hys;simp;omega
     ·have := ih _ _ _ h hys
      simp at this ⊢;omega
    split at h
    ·rename_i x hn;exact key _ hn h
    ·rename_i hn;exact key _ hn h
    ·cases h
  have h2 := this ys row off row' ho (fun e => hne (List.eq_nil_of_length_eq_zero (by rw [hv.len,e];rfl)))
  rw [hv.len,r2.len];exact h2
 obtain ⟨X1',t1,t2,_⟩ := r2.putV ho hv hbound
 obtain ⟨X',u1,u2⟩ := r4 ρ _ _ _ (fun _ _ _ => rfl) t1
 obtain ⟨hq,v1,v2⟩ := q3 ⟨G,w0⟩ (.fm u (rs.set m row')) X' .refl (fun _ _ => rfl) rfl ⟨u1,q1'⟩
 rw [spl_length] at u2
 refine ⟨b,us,X1 ++ rest1 ++ rest0,rfl,by rcases hbound with h | h;exact h;exact absurd h hne,?_,hq,?_,g.fF,g.fw,g.gF,g.gx,g.fm,g.tm,v1⟩
 ·have := q2.trans (r3.append_right rest0)
  simpa [List.append_assoc] using this
 ·have h3 := v2.trans (u2.append_right rest0)
  have h4 := (t2.append_right (rest1 ++ rest0)).cons (b,(⟨u,spl us off vs,us.length⟩ : Hb))
  rw [List.append_assoc]
  refine List.Perm.trans ?_ h4
  simpa [List.append_assoc] using h3
omit hT in
theorem OpS.wk {o : Oper} {h h' : Hs} {K : List (Nat × Value) → Hs → Prop} (hh : ∀ w,Hp h w → Hp h' w) (k : OpS P nt Q o tm h' K) : OpS P nt Q o tm h K := ⟨fun a w ha hw => k.out a w ha (hh w hw)⟩
theorem spl_one {us : List Value} {o : Nat} {v : Value} (h : o < us.length) : spl us o [v] = us.set o v := by
 rw [spl_mid _ _ _ (by simp;omega),set_mid v h];rfl
theorem store_sound {t : TypeId} {x y : Operand} {d : Option Tmp} (g : Gd c st tm h ρ G) {kp : Bool} (k : vcM P T nt kp ⟨d,.store t x y,ty,pos,af,gd⟩ st.tm st.ob K) : OpS P nt Q ⟨d,.store t x y,ty,pos,af,gd⟩ tm h (Kd c K) := by
 simp only [vcM] at k
 cases d with
 | some d => exact k.elim
 | none =>
  simp only at k
  cases hy : evT st.tm y with
  | none => simp only [hy] at k
  | some s =>
   simp only [hy] at k
   cases hc : cellsOfT s with
   | none => simp only [hc] at k
   | some xs =>
    simp only [hc] at k
    cases ht : lk t T with
    | none => simp only [ht] at k
    | some i =>
     simp only [ht] at k
     obtain ⟨v,q1,q2⟩ := g.ev hy
     have hv := cellsOfT_den hc q2
     cases hb : Nat.beq xs.length i.size
     ·rw [hb] at k;exact k.elim
     ·rw [hb] at k
      have hsz := Nat.eq_of_beq_eq_true hb
      simp only [cond_true] at k
      split at k
      ·rename_i k0 off hx
       split at k
       ·rename_i u cs hk
        cases hle : Nat.ble (off + xs.length) cs.length
        ·rw [hle] at k;exact k.elim
        ·rw [hle] at k
         simp only [cond_true] at k
         have hle' : off + xs.length ≤ cs.length := by simpa [Nat.ble_eq] using hle
         obtain ⟨p,r1,r2⟩ := g.ev hx
         cases r2 with | d r2 => cases r2 with | @p _ _ b c' sz' h0 =>
         obtain ⟨F,w0,hp⟩ := h
         obtain ⟨X,f,⟨b',us,rfl,g2,g3⟩,g5,g6,_⟩ := g.ob.set hk
         have g2' := g2
         rw [h0] at g2
         injection g2 with g2;injection g2 with e1;injection e1 with e1;injection e1 with e1;subst e1
         have hmid := g3.mid hv hle'
         refine OpS.store (z := ⟨u,us,cs.length⟩) r1 q1 ht (g5.updB rfl) (by rw [hv.len];exact hsz) hv.one (by rw [← hsz];simp only [g3.len];exact hle) rfl ?_
         have hlen : (cs.take off ++ xs ++ cs.drop (off + xs.length)).length = cs.length := by simp;omega
         refine .of (st := ⟨st.tm,obu k0 (.bx u (cs.take off ++ xs ++ cs.drop (off + xs.length))) st.ob⟩) (ρ := ρ) (G := G) ⟨g.fF,g.fw,g.gF,g.gx,g.fm,g.tm,?_⟩ k
         exact g6 (.bx u _) _ ⟨b,_,by rw [hlen],by rw [hlen];exact g2',hmid⟩
       ·exact k.elim
      ·rename_i k0 m off hx
       split at k
       ·rename_i u sz rs hk
        split at k
        ·exact k.out Q c tm h ρ G g
        ·rename_i ys hys
         obtain ⟨row,hrow,k⟩ := k.out
         cases hle : Nat.ble (off + ys.length) sz
         ·rw [hle] at k;exact k.elim
         ·rw [hle] at k
          simp only [cond_true] at k
          have hle' : off + ys.length ≤ sz := by simpa [Nat.ble_eq] using hle
          have hv' := borL_nil_den hys hv
          obtain ⟨p,r1,r2⟩ := g.ev hx
          cases r2 with | d r2 => cases r2 with | @e _ _ _ b c' sz' h0 =>
          obtain ⟨F,w0,hp⟩ := h
          obtain ⟨X,f,⟨A,cc,us,rfl,g2,g3,g4,g5⟩,g6,g7,_⟩ := g.ob.set hk
          have g2' := g2
          rw [h0] at g2
          injection g2 with g2;injection g2 with e1 e2 e3;subst e1 e2 e3
          have hrl : row.length = sz' := g5 row (List.mem_of_getElem? hrow)
          have hfl := flat_len g5
          have hm : m < rs.length := (List.getElem?_eq_some_iff.1 hrow).1
          have hin : m * sz' + off + ys.length ≤ rs.flatten.length := by
           rw [hfl]
           have : (m + 1) * sz' ≤ rs.length * sz' := Nat.mul_le_mul_right _ hm
           rw [Nat.succ_mul] at this;omega
          have hmid : DenVL ⟨G,w0⟩ (rs.set m (row.take off ++ ys ++ row.drop (off + ys.length))).flatten (spl us (m * sz' + off) (vcells v)) := by
           rw [flat_mid g5 hrow hle']
           have hq : DenL ρ ⟨G,w0⟩ ((rs.flatten.map D.u).take (m * sz' + off) ++ (ys.map D.u) ++ (rs.flatten.map D.u).drop (m * sz' + off + (ys.map D.u).length)) (spl us (m * sz' + off) (vcells v)) := g4.up.mid hv'.up (by simp only [List.length_map];exact hin)
           rw [List.length_map,← List.map_take,← List.map_drop,← List.map_append,← List.map_append] at hq
           refine ⟨by rw [hq.len,List.length_map],hq.one,fun j d0 u0 e1 e2 => ?_⟩
           have := hq.den j (.u d0) u0 (by rw [List.getElem?_map,e1];rfl) e2
           cases this;assumption
          have hol : us.length = rs.flatten.length := g4.len
          refine OpS.store (z := ⟨u,us,c' * sz'⟩) r1 q1 ht (g6.updB (by rw [hbA_some])) (by rw [hv.len];exact hsz) hv.one (by rw [← hsz,← hv.len,hv'.len];simp only [hol];rw [Nat.ble_eq];exact hin) rfl ?_
          have hlen : (rs.set m (row.take off ++ ys ++ row.drop (off + ys.length))).length = rs.length := by simp
          refine .of (st := ⟨st.tm,obu k0 (.ar u sz' (rs.set m (row.take off ++ ys ++ row.drop (off + ys.length)))) st.ob⟩) (ρ := ρ) (G := G) ⟨g.fF,g.fw,g.gF,g.gx,g.fm,g.tm,?_⟩ k
          refine g7 (.ar u sz' _) _ ⟨some ⟨b,0,none⟩,c',_,rfl,g2',?_,hmid,?_⟩
          ·rw [hlen]
           exact ⟨.inr ⟨b,rfl⟩,by rw [spl_length];exact g3.len,g3.cap,g3.max⟩
          ·intro r hr0
           rcases List.mem_or_eq_of_mem_set hr0 with h1 | h1
           ·exact g5 r h1
           ·subst h1;simp;omega
       ·exact k.out Q c tm h ρ G g
       ·exact k.elim
      ·rename_i k0 m off hx
       obtain ⟨F,w0,hp⟩ := h
       obtain ⟨p,r1,r2⟩ := g.ev hx
       cases r2 with | d r2 => cases r2 with | u r2 =>
       unfold stF at k
       have one : ∀ x,DenL ρ ⟨G,w0⟩ [x] (vcells v) → ∃ u,vcells v = [u] ∧ Den ρ ⟨G,w0⟩ x u := fun x hv => by
        have hl := hv.len
        match hvc : vcells v,hl with
        | [u],_ => exact ⟨u,rfl,by have := hv.den 0 x u rfl (by rw [hvc];rfl);exact this⟩
       have hble : ∀ (us : List Value),off + (vcells v).length ≤ us.length → Nat.ble (off + i.size) us.length = true := fun us h => by
        rw [← hsz,← hv.len,Nat.ble_eq];exact h
       split at k
       ·-- an own array moves in
        rename_i d0 n
        split at k
        ·rename_i e sz ra hkd
         split at k
         ·rename_i u rs hk
          obtain ⟨hlen,k⟩ := k
          obtain ⟨row,hrow,k⟩ := k.out
          cases hb2 : (Nat.blt off row.length && famOne k0 (obr d0 st.ob)) <;> rw [hb2] at k
          ·exact k.elim
          ·simp only [Bool.and_eq_true] at hb2
           have hoff : off < row.length := by simpa [Nat.blt_eq] using hb2.1
           obtain ⟨X0,f,⟨A,cc,us1,rfl,g2,g3,g4,g5⟩,g6,_,g8⟩ := g.ob.set hkd
           have g0 : Gd c ⟨st.tm,obr d0 st.ob⟩ tm ⟨F,w0,f []⟩ ρ G := ⟨g.fF,g.fw,g.gF,g.gx,g.fm,g.tm,g8⟩
           have hperm : hp.Perm (hbA A e us1 cc sz ++ f []) := by have := g6.perm (hbA A e us1 cc sz);rwa [g6.eq] at this
           obtain ⟨u0,hu0,hdu⟩ := one _ hv
           have hvs : u0 = .slice A ra.length cc := by
            cases hdu with | @ow _ _ l h0 hA hnc =>
            rw [h0] at g2
            injection g2 with g2;subst g2
            rw [hlen]
           subst hvs
           obtain ⟨b,us,Xe,rest,rfl,hlt,hone,_,p1,_,p3⟩ := g0.famPut (e' := .os e sz ra) (v := .slice A ra.length cc) hk hb2.2 r2 hrow (List.getElem?_eq_getElem hoff)
           obtain ⟨hq,s1,s2⟩ := p3 (some ⟨A,cc,sz⟩) (hbA A e us1 cc sz) ⟨A,cc,us1,rfl,rfl,by simp [updOs],g3,g4,g5⟩
           have p2 : hp.Perm ((b,⟨u,us,us.length⟩) :: (Xe ++ rest ++ hbA A e us1 cc sz)) := by
            refine hperm.trans ?_
            refine List.perm_append_comm.trans ?_
            refine (p1.append_right _).trans ?_
            simp
           refine OpS.wk (h' := ⟨F,w0,(b,⟨u,us,us.length⟩) :: (Xe ++ rest ++ hbA A e us1 cc sz)⟩) (fun w hw => hw.perm p2) ?_
           refine OpS.store (z := ⟨u,us,us.length⟩) r1 q1 ht UpdB.here (by rw [hv.len];exact hsz) hv.one (hble us (by rw [hu0];simp;omega)) rfl ?_
           rw [hu0,spl_one hlt]
           refine ⟨_,_,G,⟨F,w0,hq⟩,fun w hw => ?_,s2,k⟩
           have p4 : ((b,(⟨u,us.set off (.slice A ra.length cc),us.length⟩ : Hb)) :: (Xe ++ rest ++ hbA A e us1 cc sz)).Perm (Xe ++ ((b,⟨u,us.set off (.slice A ra.length cc),us.length⟩) :: (hbA A e us1 cc sz ++ rest))) := by
            refine List.Perm.trans ?_ List.perm_middle.symm
            refine List.Perm.cons _ ?_
            rw [List.append_assoc]
            exact List.perm_append_comm.append_left _
           exact (((hw.perm p4).sub (List.sublist_append_right _ _)).perm s1.symm)
         ·exact k.elim
        ·exact k.elim
       ·-- a value of one cell
        rename_i yv
        split at k
        ·rename_i u rs hk
         cases hb2 : famOne k0 st.ob <;> rw [hb2] at k
         ·exact k.elim
         ·simp only [cond_true] at k
          obtain ⟨row,hrow,k⟩ := k.out
          obtain ⟨u0,hu0,hdu⟩ := one _ hv
          cases hdu with | u hdu =>
          have fin : ∀ (b : Nat) (us : List Value) (Xe rest hq Xe' : List (Nat × Hb)) (st' : St) (ρ' : Rho),p = .pointer (some ⟨b,off,none⟩) → off < us.length → hp.Perm ((b,⟨u,us,us.length⟩) :: (Xe ++ rest)) → hq.Perm ((b,⟨u,us.set off u0,us.length⟩) :: (Xe' ++ rest)) → Xe' = [] ∨ Xe' = Xe → Gd c st' tm ⟨F,w0,hq⟩ ρ' G → K st'.tm st'.ob → OpS P nt Q ⟨none,.store t x y,ty,pos,af,gd⟩ tm ⟨F,w0,hp⟩ (Kd c K) := by
           intro b us Xe rest hq Xe' st' ρ' hpp hlt p1 p2 hx s2 k
           subst hpp
           refine OpS.wk (h' := ⟨F,w0,(b,⟨u,us,us.length⟩) :: (Xe ++ rest)⟩) (fun w hw => hw.perm p1) ?_
           refine OpS.store (z := ⟨u,us,us.length⟩) r1 q1 ht UpdB.here (by rw [hv.len];exact hsz) hv.one (hble us (by rw [hu0];simp;omega)) rfl ?_
           rw [hu0,spl_one hlt]
           refine ⟨st',ρ',G,⟨F,w0,hq⟩,fun w hw => ?_,s2,k⟩
           rcases hx with rfl | rfl
           ·have p4 : ((b,(⟨u,us.set off u0,us.length⟩ : Hb)) :: (Xe ++ rest)).Perm (Xe ++ ((b,⟨u,us.set off u0,us.length⟩) :: ([] ++ rest))) := List.perm_middle.symm
            exact (((hw.perm p4).sub (List.sublist_append_right _ _)).perm p2.symm)
           ·exact hw.perm p2.symm
          split at k
          ·rename_i e sz ra hn
           rw [nth_eq] at hn
           split at k
           ·cases hdu with | nl =>
            obtain ⟨b,us,Xe,rest,e1,hlt,hone,_,p1,_,p3⟩ := g.famPut (e' := .os e sz []) (v := .slice none 0 0) hk hb2 r2 hrow hn
            obtain ⟨hq,s1,s2⟩ := p3 (some ⟨none,0,sz⟩) [] ⟨none,0,[],rfl,rfl,by simp [updOs],OkA.nil sz,.nil,by simp⟩
            exact fin b us Xe rest hq [] _ _ e1 hlt p1 s1 (.inl rfl) s2 k
           ·obtain ⟨b,us,Xe,rest,e1,hlt,hone,_,p1,_,p3⟩ := g.famPut (e' := .v yv) (v := u0) hk hb2 r2 hrow hn
            obtain ⟨hq,s1,s2⟩ := p3 none [] ⟨rfl,hdu⟩
            exact fin b us Xe rest hq [] _ _ e1 hlt p1 s1 (.inl rfl) s2 k
          ·rename_i e hos hn
           rw [nth_eq] at hn
           obtain ⟨b,us,Xe,rest,e1,hlt,hone,_,p1,p2,_⟩ := g.famPut (e' := .v yv) (v := u0) hk hb2 r2 hrow hn
           have he : (∃ x,e = .v x) ∨ e = .hl := by
            cases e with
            | v x => exact .inl ⟨x,rfl⟩
            | hl => exact .inr rfl
            | os a b c => exact absurd rfl (hos a b c)
           obtain ⟨hq,s1,s2⟩ := p2 yv he rfl hdu
           exact fin b us Xe rest hq Xe _ _ e1 hlt p1 s1 (.inr rfl) s2 k
          ·exact k.elim
        ·exact k.elim
       ·exact k.elim
       ·-- values
        rename_i hne1 hne2 hne3
        split at k
        ·rename_i u rs hk
         cases hb2 : famOne k0 st.ob <;> rw [hb2] at k
         ·exact k.elim
         ·simp only [cond_true] at k
          split at k
          ·rename_i ys hys
           obtain ⟨row,hrow,k⟩ := k.out
           split at k
           ·rename_i row' hrow'
            have hv' := borL_nil_den hys hv
            by_cases hnil : vcells v = []
            ·exact absurd (List.eq_nil_of_length_eq_zero (by have := hv.len;rw [hnil] at this;exact this.symm)) hne3
            ·obtain ⟨b,us,R,rfl,hle,p1,hq,p2,s2⟩ := g.famPutV hk hb2 r2 hrow hrow' hv' hnil
             refine OpS.wk (h' := ⟨F,w0,(b,⟨u,us,us.length⟩) :: R⟩) (fun w hw => hw.perm p1) ?_
             refine OpS.store (z := ⟨u,us,us.length⟩) r1 q1 ht UpdB.here (by rw [hv.len];exact hsz) hv.one (hble us hle) rfl ?_
             exact ⟨_,_,G,⟨F,w0,hq⟩,fun w hw => hw.perm p2.symm,s2,k⟩
           ·exact k.elim
          ·exact k.elim
        ·exact k.elim
      ·exact k.out Q c tm h ρ G g
end
end Go.Proofs.YtjpaaaecbgmcgaaGreatDoor
/-
 The layer of trees: slice literals,append.
-/
namespace Go.Proofs.YtjpaaaecbgmcgaaGreatDoor
open Go.RowKit
def zrepT (z : List Value) : Nat → List Value
 | 0 => []
 | n + 1 => z ++ zrepT z n
theorem zrepT_len {z : List Value} : ∀ n,(zrepT z n).length = n * z.length
 | 0 => by simp [zrepT]
 | n + 1 => by simp [zrepT,zrepT_len n,Nat.succ_mul,Nat.add_comm]
theorem zrepT_get {z : List Value} (hz : 0 < z.length) : ∀ n m,m < n * z.length → (zrepT z n)[m]? = z[m % z.length]?
 | 0,m,h => by simp at h
 | n + 1,m,h => by
  simp only [zrepT]
  rcases Nat.lt_or_ge m z.length with h1 | h1
  ·rw [List.getElem?_append_left h1,Nat.mod_eq_of_lt h1]
  ·rw [List.getElem?_append_right h1,zrepT_get hz n (m - z.length) (by rw [Nat.succ_mul] at h;omega),← Nat.mod_eq_sub_mod h1]
theorem zrepT_eq {z : List Value} (n : Nat) : zrepT z n = (List.range (n * z.length)).map fun m => z[m % z.length]! := by
 apply List.ext_getElem?
 intro m
 rcases Nat.lt_or_ge m (n * z.length) with h | h
 ·have hz : 0 < z.length := by rcases Nat.eq_zero_or_pos z.length with e | e;(rw [e] at h;simp at h);(exact e)
  rw [zrepT_get hz n m h]
  simp [List.getElem?_map,List.getElem?_range h]
  have : m % z.length < z.length := Nat.mod_lt _ hz
  simp [this]
 ·rw [List.getElem?_eq_none (by rw [zrepT_len];exact h),List.getElem?_eq_none (by simp;exact h)]
section
variable {ρ : Rho} {z : Fz}
theorem litRows_den {zs : List V} {zv : List Value} (hz : DenVL z zs zv) : ∀ {n : Nat} {l : List (Nat × SV)} {vs : List (Nat × Value)} {i : Nat} {rs : List (List V)} {pre : List Value},litRows zs n l i = some rs →
  vs.length = l.length → (∀ (j : Nat) i s i' v,l[j]? = some (i,s) → vs[j]? = some (i',v) → i = i' ∧ DenS ρ z s v) → pre.length = i * zv.length →
  ∃ cs,fillV (fun m => some (m * zv.length,zv.length)) (pre ++ zrepT zv n) vs = some (pre ++ cs) ∧ DenVL z rs.flatten cs ∧ rs.length = n ∧ ∀ r ∈ rs,r.length = zv.length
 | 0,[],[],i,rs,pre,h,_,_,_ => by
  simp [litRows] at h
  subst h
  exact ⟨[],by simp [fillV,zrepT],.nil,rfl,by simp⟩
 | 0,[],_ :: _,_,_,_,_,hl,_,_ => by simp at hl
 | 0,_ :: _,_,_,_,_,h,_,_,_ => by simp [litRows] at h
 | n + 1,[],_ :: _,_,_,_,_,hl,_,_ => by simp at hl
 | n + 1,[],[],i,rs,pre,h,_,hp,hpre => by
  simp only [litRows] at h
  cases h1 : litRows zs n [] (i + 1) with
  | none => simp [h1] at h
  | some r =>
   simp only [h1,Option.some.injEq] at h
   subst h
   obtain ⟨cs,q1,q2,q3,q4⟩ := litRows_den hz (pre := pre ++ zv) (vs := []) h1 rfl (by simp) (by simp [hpre,Nat.succ_mul])
   refine ⟨zv ++ cs,?_,hz.app q2,by simp [q3],?_⟩
   ·simp only [zrepT]
    rw [← List.append_assoc,← List.append_assoc]
    exact q1
   ·intro x hx
    rcases List.mem_cons.1 hx with rfl | hx
    ·exact hz.len.symm
    ·exact q4 x hx
 | n + 1,(j,s) :: l,[],_,_,_,_,hl,_,_ => by simp at hl
 | n + 1,(j,s) :: l,(j',v) :: vs,i,rs,pre,h,hl,hp,hpre => by
  obtain ⟨rfl,hs⟩ := hp 0 j s j' v rfl rfl
  have hp' : ∀ (k : Nat) i s i' v,l[k]? = some (i,s) → vs[k]? = some (i',v) → i = i' ∧ DenS ρ z s v := fun k i1 s1 i2 v2 e1 e2 => hp (k + 1) i1 s1 i2 v2 (by simpa using e1) (by simpa using e2)
  simp only [litRows] at h
  cases hb : Nat.beq j i
  ·rw [hb] at h
   simp only [cond_false] at h
   cases h1 : litRows zs n ((j,s) :: l) (i + 1) with
   | none => simp [h1] at h
   | some r =>
    simp only [h1,Option.some.injEq] at h
    subst h
    obtain ⟨cs,q1,q2,q3,q4⟩ := litRows_den hz (pre := pre ++ zv) (vs := (j,v) :: vs) h1 hl hp (by simp [hpre,Nat.succ_mul])
    refine ⟨zv ++ cs,?_,hz.app q2,by simp [q3],?_⟩
    ·simp only [zrepT]
     rw [← List.append_assoc,← List.append_assoc]
     exact q1
    ·intro x hx
     rcases List.mem_cons.1 hx with rfl | hx
     ·exact hz.len.symm
     ·exact q4 x hx
  ·rw [hb] at h
   have := Nat.eq_of_beq_eq_true hb
   subst this
   simp only [cond_true] at h
   cases hc : cellsOfT s with
   | none => simp [hc] at h
   | some xs =>
    simp only [hc] at h
    cases hy : borL [] xs with
    | none => simp [hy] at h
    | some ys =>
     simp only [hy] at h
     cases hlen : Nat.beq ys.length zs.length
     ·rw [hlen] at h;cases h
     ·rw [hlen] at h
      simp only [cond_true] at h
      have hlen' := Nat.eq_of_beq_eq_true hlen
      cases h1 : litRows zs n l (j + 1) with
      | none => simp [h1] at h
      | some r =>
       simp only [h1,Option.some.injEq] at h
       subst h
       have hv := borL_nil_den hy (cellsOfT_den hc hs)
       have hvl : (vcells v).length = zv.length := by rw [hv.len,hlen',hz.len]
       obtain ⟨cs,q1,q2,q3,q4⟩ := litRows_den hz (pre := pre ++ vcells v) h1 (by simpa using hl) hp' (by simp [hpre,Nat.succ_mul,hvl])
       refine ⟨vcells v ++ cs,?_,hv.app q2,by simp [q3],?_⟩
       ·have e1 : Nat.beq (vcells v).length zv.length = true := by rw [hvl];exact Nat.beq_refl _
        have e2 : Nat.ble (j * zv.length + (vcells v).length) (pre ++ zrepT zv (n + 1)).length = true := by
         rw [Nat.ble_eq];simp [zrepT,hpre,hvl]
        simp only [fillV,e1,e2,Bool.and_self,cond_true]
        have e3 : spl (pre ++ zrepT zv (n + 1)) (j * zv.length) (vcells v) = pre ++ vcells v ++ zrepT zv n := by
         rw [spl_mid _ _ _ (by simpa [Nat.ble_eq] using e2),← hpre]
         simp only [zrepT,List.take_left']
         rw [List.drop_append,List.drop_of_length_le (by omega)]
         simp [hvl]
        rw [e3,← List.append_assoc]
        exact q1
       ·intro x hx
        rcases List.mem_cons.1 hx with rfl | hx
        ·rw [hlen',hz.len]
        ·exact q4 x hx
end
section
variable {P : Program} {T : List (Nat × Ty)} [hT : Tys P T] {nt : Nt} {Q : Exit → Act → World → Prop} {c : Cx} {st : St} {tm : List (Nat × Value)} {h : Hs} {ρ : Rho} {G : FG} {ty : TypeId} {pos : String} {af : Array Edge} {gd : Option (Nat × Bool)} {K : Kt}
theorem buildSlice_keep {t : TypeId} {n : Nat} {ps : Array (Nat × Operand)} {d : Option Tmp} (g : Gd c st tm h ρ G) {kp : Bool} (k : vcM P T nt kp ⟨d,.buildSlice t n ps,ty,pos,af,gd⟩ st.tm st.ob K) : OpS P nt Q ⟨d,.buildSlice t n ps,ty,pos,af,gd⟩ tm h (Kk h c K) := by
 simp only [vcM] at k
 cases d with
 | none => exact k.elim
 | some d =>
  simp only at k
  cases ht : lk t T with
  | none => simp only [ht] at k
  | some i =>
   simp only [ht] at k
   split at k
   ·rename_i e hk
    cases hj : lk e T with
    | none => simp only [hj] at k
    | some j =>
     simp only [hj] at k
     cases hv : partsT st.tm ps.toList with
     | none => simp only [hv] at k
     | some l =>
      simp only [hv] at k
      cases hz : vzT j.zero with
      | none => simp only [hz] at k
      | some zs =>
       simp only [hz] at k
       cases hr : litRows zs n l 0 with
       | none => simp only [hr] at k;exact k.out Q c tm h ρ G g
       | some rs =>
        simp only [hr] at k
        cases hb : (Nat.blt d nt && (newN d st.tm st.ob && (Nat.ble (n * j.size) 16777216 && (Nat.beq zs.length j.size && Nat.blt 0 j.size))))
        ·rw [hb] at k;exact k.elim
        ·rw [hb] at k
         simp only [Bool.and_eq_true] at hb
         obtain ⟨F,w0,hp⟩ := h
         obtain ⟨vs,q1,q2,q3⟩ := partsT_ok g hv
         have hzd : DenVL ⟨G,w0⟩ zs j.zero := vzT_den hz
         have hzl : j.zero.length = j.size := by rw [hzd.len];exact Nat.eq_of_beq_eq_true hb.2.2.2.1
         obtain ⟨cs,r1,r2,r3,r4⟩ := litRows_den hzd (pre := []) hr q2 q3 (by simp)
         simp only [List.nil_append] at r1
         rw [zrepT_eq,hzl] at r1
         have hcl : cs.length = n * j.size := by rw [r2.len,flat_len r4,r3,hzl]
         have hpos : 0 < j.size := by simpa [Nat.blt_eq] using hb.2.2.2.2
         have hps : ps = ps.toList.toArray := by simp
         rw [hps]
         refine OpS.buildSlice ht hk hj hb.2.2.1 q1 (by rw [hzl];exact r1) hb.1 fun b => ?_
         have ho : ObOk (upd ρ d ⟨some ⟨b,0,none⟩,n,j.size⟩) ⟨G,w0⟩ d (.ar e j.size rs) [(b,⟨e,cs,n * j.size⟩)] :=
          ⟨some ⟨b,0,none⟩,n,cs,rfl,upd_self,⟨.inr ⟨b,rfl⟩,by rw [r3];exact hcl,by omega,by
           have := hb.2.2.1
           rw [Nat.ble_eq] at this
           have h1 : n * 1 ≤ n * j.size := Nat.mul_le_mul_left n hpos
           unfold maxLen;omega⟩,r2,by rw [← hzl];exact r4⟩
         rw [hcl]
         exact .of (fun w hw => hw.sub (List.sublist_cons_self _ _)) ((g.new hb.2.1 ho).put (.d (.ow upd_self (fun h0 => by cases h0) (Nat.le_refl _)))) k
   ·exact k.elim
end
end Go.Proofs.YtjpaaaecbgmcgaaGreatDoor
/-
 The layer of trees: append;calls.
-/
namespace Go.Proofs.YtjpaaaecbgmcgaaGreatDoor
open Go.RowKit
section
variable {P : Program} {T : List (Nat × Ty)} [hT : Tys P T] {nt : Nt} {Q : Exit → Act → World → Prop} {c : Cx} {st : St} {tm : List (Nat × Value)} {h : Hs} {ρ : Rho} {G : FG} {ty : TypeId} {pos : String} {af : Array Edge} {gd : Option (Nat × Bool)} {K : Kt}
theorem src_den (g : Gd c st tm h ρ G) {s : SV} {rs : List (List V)} {m sz : Nat} {ky : Option Nat} {v : Value} (hr : rowsT st.ob s = some (rs,m,ky)) (hsz : szT st.ob sz s = true) (hm : rs.length = m) (hs : DenS ρ ⟨G,h.w0⟩ s v) :
  ∃ B dd us,v = .slice B m dd ∧ SrcA h B us ∧ DenVL ⟨G,h.w0⟩ rs.flatten us ∧ ∀ r ∈ rs,r.length = sz := by
 unfold rowsT at hr
 split at hr
 ·injection hr with hr;injection hr with e1 e2;injection e2 with e2 e3;subst e1 e2
  cases hs with | d hs => cases hs with | u hs => cases hs with | nl => exact ⟨none,0,[],rfl,.nil,.nil,by simp⟩
 ·rename_i sz' rs'
  injection hr with hr;injection hr with e1 e2;injection e2 with e2 e3;subst e1 e2
  cases hs with | d hs => cases hs with | u hs => cases hs with | @sl _ _ A n cc b o us hn hc hm' hrr hA hl hu h1 hd =>
  have : sz' = sz := Nat.eq_of_beq_eq_true hsz
  subst this
  refine ⟨A,cc,us,by rw [hn],⟨fun w hw h0 => ?_⟩,⟨hl,h1,hd⟩,hrr⟩
  have hne : rs' ≠ [] := fun e => by subst e;simp at hl;subst hl;simp at h0
  obtain ⟨e1,e2⟩ := hA hne
  exact ⟨b,o,e1,hw.Flt (g.gF b e2),fun j u hj => (hw.same.cell (p := ⟨b,o + j,none⟩) (g.gF b e2)).trans (hu j u hj)⟩
 ·split at hr
  ·rename_i k n u sz' rs' hk
   injection hr with hr;injection hr with e1 e2;injection e2 with e2 e3;subst e1 e2
   cases hs with | d hs => cases hs with | @ow _ _ l h0 hA hnc =>
   simp only [szT,hk] at hsz
   have := Nat.eq_of_beq_eq_true hsz
   subst this
   obtain ⟨F,w0,hp⟩ := h
   obtain ⟨X,f,⟨A,cc,us,rfl,g2,g3,g4,g5⟩,g6⟩ := g.ob.at_ hk
   rw [h0] at g2
   injection g2 with g2;subst g2
   exact ⟨A,cc,us,rfl,SrcA.row g6 (by rw [hm] at g3;exact g3),g4,g5⟩
  ·cases hr
 ·cases hr
theorem hasOb_obr {d k : Nat} : ∀ {ob : List (Nat × Ob)},hasOb d ob = false → hasOb d (obr k ob) = false
 | [],h => h
 | (j,x) :: r,h => by
  simp only [obr]
  cases hb : Nat.beq k j
  ·simp only [cond_false]
   have := hasOb_obr (k := k) (hasOb_tail h)
   cases x with
   | bx ty cs =>
    simp only [hasOb] at h ⊢
    cases hj : Nat.beq j d <;> rw [hj] at h
    ·cases hc : hasL d cs <;> rw [hc] at h
     ·simpa using this
     ·cases h
    ·cases h
   | ar ty sz rs =>
    simp only [hasOb] at h ⊢
    cases hj : Nat.beq j d <;> rw [hj] at h
    ·simpa using this
    ·cases h
   | fm ty rs =>
    simp only [hasOb] at h ⊢
    cases hj : Nat.beq j d <;> rw [hj] at h
    ·simpa using this
    ·cases h
   | mp kg vg es =>
    simp only [hasOb] at h ⊢
    cases hj : Nat.beq j d <;> rw [hj] at h
    ·simpa using this
    ·cases h
   | fa ty sz rs =>
    simp only [hasOb] at h ⊢
    cases hj : Nat.beq j d <;> rw [hj] at h
    ·simpa using this
    ·cases h
   | ab cs us zb φ =>
    simp only [hasOb] at h ⊢
    cases hj : Nat.beq j d <;> rw [hj] at h
    ·cases hc : hasL d cs <;> rw [hc] at h
     ·simpa using this
     ·cases h
    ·cases h
  ·simp only [cond_true]
   exact hasOb_tail h
theorem base_den (g : Gd c st tm h ρ G) {s : SV} {rs : List (List V)} {n sz e : Nat} {kx : Option Nat} {v : Value} (hne : ∀ z r,s ≠ .d (.u (.sl z r))) (hr : rowsT st.ob s = some (rs,n,kx)) (hsz : szT st.ob sz s = true) (hty : tyT st.ob e s = true) (hn : rs.length = n) (hs : DenS ρ ⟨G,h.w0⟩ s v) :
  ∃ A cc us f,v = .slice A n cc ∧ OkA A us n cc sz ∧ RowAt (hbA A e us cc sz) h.hp f ∧ DenVL ⟨G,h.w0⟩ rs.flatten us ∧ (∀ r ∈ rs,r.length = sz) ∧ ObsOk ρ ⟨G,h.w0⟩ (obx kx st.ob) (f []) := by
 unfold rowsT at hr
 split at hr
 ·injection hr with hr;injection hr with e1 e2;injection e2 with e2 e3;subst e1 e2 e3
  cases hs with | d hs => cases hs with | u hs => cases hs with | nl => exact ⟨none,0,[],fun Y => Y ++ h.hp,rfl,OkA.nil sz,RowAt.here (X := []),.nil,by simp,g.ob⟩
 ·exact absurd rfl (hne _ _)
 ·split at hr
  ·rename_i k n' u sz' rs' hk
   injection hr with hr;injection hr with e1 e2;injection e2 with e2 e3;subst e1 e2 e3
   cases hs with | d hs => cases hs with | @ow _ _ l h0 hA hnc =>
   simp only [szT,hk] at hsz
   simp only [tyT,hk] at hty
   have := Nat.eq_of_beq_eq_true hsz
   subst this
   have := Nat.eq_of_beq_eq_true hty
   subst this
   obtain ⟨X,f,⟨A,cc,us,rfl,g2,g3,g4,g5⟩,g6,_,g8⟩ := g.ob.set hk
   rw [h0] at g2
   injection g2 with g2;subst g2
   exact ⟨A,cc,us,f,rfl,by rw [hn] at g3;exact g3,g6,g4,g5,g8⟩
  ·cases hr
 ·cases hr
theorem append_sound {xs : Array Operand} {ts : Array TypeId} {d : Option Tmp} (g : Gd c st tm h ρ G) {kp : Bool} (k : vcM P T nt kp ⟨d,.call ⟨.builtin .append,xs,ts⟩,ty,pos,af,gd⟩ st.tm st.ob K) : OpS P nt Q ⟨d,.call ⟨.builtin .append,xs,ts⟩,ty,pos,af,gd⟩ tm h (Kd c K) := by
 simp only [vcM] at k
 cases d with
 | none => exact k.elim
 | some d =>
  simp only at k
  split at k
  ·rename_i x y hxs
   split at k
   ·rename_i t t' hts
    cases ht : lk t T with
    | none => simp only [ht] at k
    | some i =>
     simp only [ht] at k
     split at k
     ·rename_i e hk
      cases hj : lk e T with
      | none => simp only [hj] at k
      | some j =>
       obtain ⟨jk,js,jb,jz⟩ := j
       simp only [hj] at k
       cases hx : evT st.tm x with
       | none => simp only [hx] at k
       | some sx =>
        cases hy : evT st.tm y with
        | none => simp only [hx,hy] at k
        | some sy =>
         simp only [hx,hy] at k
         split at k
         ·exact k.out Q c tm h ρ G g
         ·rename_i hne
          cases hrx : rowsT st.ob sx with
          | none => simp only [hrx] at k;exact k.out Q c tm h ρ G g
          | some px =>
           obtain ⟨rs,n,kx⟩ := px
           simp only [hrx] at k
           cases hry : rowsT st.ob sy with
           | none => simp only [hry] at k;exact k.out Q c tm h ρ G g
           | some py =>
            obtain ⟨rs',m,ky⟩ := py
            simp only [hry] at k
            cases hb : (Nat.beq t t' && (tyT st.ob e sx && (szT st.ob js sx && (szT st.ob js sy && (Nat.blt d nt && (newN d st.tm st.ob && (Nat.blt 0 js && Nat.beq jz.length js)))))))
            ·rw [hb] at k;exact k.elim
            ·rw [hb] at k
             simp only [cond_true] at k
             simp only [Bool.and_eq_true] at hb
             obtain ⟨h1,h2,h3,h4,h5,h6,h7,h8⟩ := hb
             have := Nat.eq_of_beq_eq_true h1
             subst this
             obtain ⟨hn,hm,hbb,hxx,k⟩ := k
             obtain ⟨vx,q1,q2⟩ := g.ev hx
             obtain ⟨vy,r1,r2⟩ := g.ev hy
             obtain ⟨A,cc,us,f,rfl,b1,b2,b3,b4,b5⟩ := base_den g (e := e) (fun z r e' => hne z r e') hrx h3 h2 hn q2
             obtain ⟨B,dd,us',rfl,s1,s2,s3⟩ := src_den g hry h4 hm r2
             obtain ⟨F,w0,hp⟩ := h
             have hxs' : xs = #[x,y] := by rw [← Array.toArray_toList (xs := xs),hxs]
             have hts' : ts = #[t,t] := by rw [← Array.toArray_toList (xs := ts),hts]
             subst hxs' hts'
             have hul : us'.length = m * js := by rw [s2.len,flat_len s3,hm]
             refine OpS.appendA q1 r1 ht hk hj (Nat.eq_of_beq_eq_true h8) (by simpa [Nat.blt_eq] using h7) b1 b2 s1 hul (fun u hu => List.all_eq_true.1 s2.one u hu) (by rw [← hn,← hm];exact hbb) (by rw [← hn,← hm];exact hxx) h5 fun A' c' hA' => ?_
             have hlen : (rs ++ rs').length = n + m := by rw [List.length_append,hn,hm]
             have ho : ObOk (upd ρ d ⟨A',c',js⟩) ⟨G,w0⟩ d (.ar e js (rs ++ rs')) (hbA A' e (us ++ us') c' js) :=
              ⟨A',c',us ++ us',rfl,upd_self,by rw [hlen];exact hA',by rw [List.flatten_append];exact b3.app s2,fun r hr => by
               rcases List.mem_append.1 hr with hr | hr
               ·exact b4 r hr
               ·exact s3 r hr⟩
             have g0 : Gd c ⟨st.tm,obx kx st.ob⟩ tm ⟨F,w0,f []⟩ ρ G := ⟨g.fF,g.fw,g.gF,g.gx,g.fm,g.tm,b5⟩
             have hnew : newN d st.tm (obx kx st.ob) = true := by
              obtain ⟨n1,n2⟩ := newN_tm h6
              have : hasOb d (obx kx st.ob) = false := by
               cases kx with
               | none => exact n2
               | some k => exact hasOb_obr n2
              simp only [newN,n1,this,cond_false]
             have g1 := (g0.new hnew ho).put (d := d) (s := .d (.ow d (rs ++ rs').length)) (v := .slice A' (n + m) c') (by
              rw [hlen]
              refine .d (.ow upd_self (fun hA0 => ?_) hA'.cap)
              rcases hA'.form with ⟨_,h0,_⟩ | ⟨b,hb⟩
              ·exact h0
              ·have : A' = none := hA0
               rw [hb] at this;cases this)
             exact ⟨_,_,_,_,fun w hw => hw.perm (b2.perm _),g1,k⟩
     ·exact k.out Q c tm h ρ G g
   ·exact k.out Q c tm h ρ G g
  ·exact k.out Q c tm h ρ G g
end
section
variable (P : Program) (T : List (Nat × Ty)) (nt : Nt)
end
section
variable {P : Program} {T : List (Nat × Ty)} [hT : Tys P T] {nt : Nt} {ty : TypeId} {pos : String} {af : Array Edge} {gd : Option (Nat × Bool)} {K : Kt}
end
end Go.Proofs.YtjpaaaecbgmcgaaGreatDoor
