/-
  The layer of trees: what code asks of a state, as a proposition that whnf reckons.
-/
import Derived.Test.YtgiebofmfkacgaaTT1
namespace Go.Proofs.Ytgiebofmfkacgaa
open Go.RowKit

/-- A test. -/
structure Brn (b : Bool) (X Y : Prop) : Prop where
  t : b = true → X
  f : b = false → Y
/-- An int must not overflow. -/
structure Rng (z : Int) (X : Prop) : Prop where
  r : -9223372036854775808 ≤ z ∧ z ≤ 9223372036854775807
  k : X
/-- An element of a frozen slice. -/
structure Ix (rs : List (List V)) (i : Int) (K : List V → Prop) : Prop where
  out : ∃ (m : Nat) (row : List V), i = (m : Int) ∧ rs[m]? = some row ∧ K row
/-- An element of an own array, by its number. -/
structure Ixo (n : Nat) (i : Int) (K : Nat → Prop) : Prop where
  out : ∃ m : Nat, i = (m : Int) ∧ m < n ∧ K m
/-- A row of an own array. -/
structure Rw (rs : List (List V)) (i : Nat) (K : List V → Prop) : Prop where
  out : ∃ row, rs[i]? = some row ∧ K row
/-- A part of a slice. -/
structure Slc (n : Nat) (lo hi : Int) (K : Nat → Nat → Prop) : Prop where
  out : ∃ l m : Nat, lo = (l : Int) ∧ hi = (m : Int) ∧ l ≤ m ∧ m ≤ n ∧ K l m
/-- A slice with a bound of its own. -/
structure Slc3 (n : Nat) (lo hi mx : Int) (X : Prop) : Prop where
  out : ∃ l m q : Nat, lo = (l : Int) ∧ hi = (m : Int) ∧ mx = (q : Int) ∧ l ≤ m ∧ m ≤ q ∧ q ≤ n
  k : X
/-- An append. -/
structure Apd (n n' m m' bytes : Nat) (K : Prop) : Prop where
  hn : n = n'
  hm : m = m'
  hb : (n + m) * bytes ≤ 140737488355328
  hx : n + m ≤ maxLen
  k : K
/-- A length is known to be no greater than any machine bears. -/
structure Bnd (n : Nat) (X : Prop) : Prop where
  k : n ≤ maxLen → X
/-- Two strings are joined. -/
structure Cat (n : Nat) (X : Prop) : Prop where
  h : n ≤ maxLen
  k : X
abbrev Kt : Type := List (Nat × SV) → List (Nat × Ob) → Prop
/-- A slot's content without names: own arrays as they are. -/
def borD (ob : List (Nat × Ob)) : D → Option V
  | .u x => some x
  | .ow k _ => match lk k ob with
    | some (.ar _ sz rs) => some (.sl sz rs)
    | _ => none
  | _ => none
def borL (ob : List (Nat × Ob)) : List D → Option (List V)
  | [] => some []
  | x :: r => match borD ob x with
    | none => none
    | some y => match borL ob r with
      | none => none
      | some l => some (y :: l)
def borS (ob : List (Nat × Ob)) : SV → Option SV
  | .d x => match borD ob x with
    | some y => some (.d (.u y))
    | none => none
  | .a xs => match borL ob xs with
    | some ys => some (.a (upT ys))
    | none => none
  | .t _ => none
/-- The own array is as long as the slice. -/
structure Len (a b : Nat) (X : Prop) : Prop where
  h : a = b
  k : X
def needD (ob : List (Nat × Ob)) (X : Prop) : D → Prop
  | .ow k n => match lk k ob with
    | some (.ar _ _ rs) => Len rs.length n X
    | _ => X
  | _ => X
def needL (ob : List (Nat × Ob)) (X : Prop) : List D → Prop
  | [] => X
  | x :: r => needD ob (needL ob X r) x
def needS (ob : List (Nat × Ob)) (X : Prop) : SV → Prop
  | .d x => needD ob X x
  | .a xs => needL ob X xs
  | .t _ => X
def ownD : D → Bool
  | .ow _ _ => true
  | _ => false
def ownL : List D → Bool
  | [] => false
  | x :: r => bif ownD x then true else ownL r
def ownS : SV → Bool
  | .d x => ownD x
  | .a xs => ownL xs
  | .t _ => true
/-- No part of it has a name. -/
def pureL : List D → Bool
  | [] => true
  | .u _ :: r => pureL r
  | _ :: _ => false
def pureC : List SC → Bool
  | [] => true
  | .d (.u _) :: r => pureC r
  | .d _ :: _ => false
  | .a xs :: r => bif pureL xs then pureC r else false
def pureS : SV → Bool
  | .d (.u _) => true
  | .d _ => false
  | .a xs => pureL xs
  | .t vs => pureC vs
/-- No part of it lies in memory. -/
def flatV : V → Bool
  | .sl _ _ => false
  | .m _ _ _ => false
  | _ => true
def flatL : List D → Bool
  | [] => true
  | .u x :: r => bif flatV x then flatL r else false
  | _ :: _ => false
def flatC : List SC → Bool
  | [] => true
  | .d (.u x) :: r => bif flatV x then flatC r else false
  | .d _ :: _ => false
  | .a xs :: r => bif flatL xs then flatC r else false
def flatS : SV → Bool
  | .d (.u x) => flatV x
  | .d _ => false
  | .a xs => flatL xs
  | .t vs => flatC vs
def slT : Nat → List SV → List (Nat × SV)
  | _, [] => []
  | n, v :: vs => (n, v) :: slT (n + 1) vs
/-- The function has a body. -/
def FnOk (P : Program) (f : FuncId) : Prop := ∃ fn c, P.funcs[f]? = some fn ∧ fn.body = some c ∧ (fn.name == "runtime.NumGoroutine") = false
/-- A contract on trees. -/
structure CallsA (P : Program) (f : FuncId) (ss : List SV) (ob : List (Nat × Ob)) (Q : SV → List (Nat × Ob) → Prop) : Prop where
  fn : FnOk P f
  out : ∀ (c : Cx) (ρ : Rho) (hp : List (Nat × Hb)) (vs : List Value) (w : World), Hp ⟨c.F, c.w, hp⟩ w → vs.length = ss.length → Gd c ⟨slT 0 ss, ob⟩ (slots 0 vs) ⟨c.F, c.w, hp⟩ ρ c.G →
    Calls P f vs.toArray w fun e w' => ∃ v h' s ob' ρ' G', e = .returned v ∧ Hp h' w' ∧ Gd c ⟨[(0, s)], ob'⟩ [(0, v)] h' ρ' G' ∧ Q s ob'
/-- A call without own objects. own: an own array is lent. -/
structure Cl (P : Program) (f : FuncId) (ss : List SV) (own : Bool) (K : SV → Prop) : Prop where
  out : CallsA P f ss [] fun s ob => ob = [] ∧ pureS s = true ∧ (own = true → flatS s = true) ∧ K s
/-- Anything that is not reckoned. -/
structure Raw (P : Program) (nt : Nat) (o : Oper) (tmT : List (Nat × SV)) (ob : List (Nat × Ob)) (K : Kt) : Prop where
  out : ∀ (Q : Exit → Act → World → Prop) (c : Cx) (tm : List (Nat × Value)) (h : Hs) (ρ : Rho) (G : FG), Gd c ⟨tmT, ob⟩ tm h ρ G → OpS P nt Q o tm h (Kd c K)

/-- All that was known of memory is known still. -/
def Kk (h0 : Hs) (c : Cx) (K : Kt) (tm : List (Nat × Value)) (h : Hs) : Prop := ∃ st ρ G h', (∀ w, Hp h w → Hp h' w) ∧ (∀ w, Hp h' w → Hp h0 w) ∧ Gd c st tm h' ρ G ∧ K st.tm st.ob
theorem Kk.of {h0 : Hs} {c : Cx} {K : Kt} {tm : List (Nat × Value)} {h : Hs} {st : St} {ρ : Rho} {G : FG} (kp : ∀ w, Hp h w → Hp h0 w) (g : Gd c st tm h ρ G) (k : K st.tm st.ob) : Kk h0 c K tm h := ⟨st, ρ, G, h, fun _ hw => hw, kp, g, k⟩
theorem Kk.kd {h0 : Hs} {c : Cx} {K : Kt} {tm : List (Nat × Value)} {h : Hs} (k : Kk h0 c K tm h) : Kd c K tm h := by
  obtain ⟨st, ρ, G, h', h1, _, h3, h4⟩ := k
  exact ⟨st, ρ, G, h', h1, h3, h4⟩
structure RawK (P : Program) (nt : Nat) (o : Oper) (tmT : List (Nat × SV)) (ob : List (Nat × Ob)) (K : Kt) : Prop where
  out : ∀ (Q : Exit → Act → World → Prop) (c : Cx) (tm : List (Nat × Value)) (h : Hs) (ρ : Rho) (G : FG), Gd c ⟨tmT, ob⟩ tm h ρ G → OpS P nt Q o tm h (Kk h c K)
section
variable (P : Program) (T : List (Nat × Ty)) (nt : Nat)
def putT (d : Option Nat) (s : SV) (tm : List (Nat × SV)) (ob : List (Nat × Ob)) (K : Kt) : Prop := match d with
  | some d => bif Nat.blt d nt then K ((d, s) :: tm) (ob) else False
  | none => False
def arithT : BinOp → Int → Int → Option Int
  | .add, m, n => some (m + n)
  | .sub, m, n => some (m - n)
  | .mul, m, n => some (m * n)
  | _, _, _ => none
def argsT (ob : List (Nat × Ob)) (tm : List (Nat × SV)) : List Operand → Option (List SV)
  | [] => some []
  | x :: r => match evT tm x with
    | none => none
    | some s => match borS ob s with
      | none => none
      | some s' => match argsT ob tm r with
        | none => none
        | some l => some (s' :: l)
def needA (ob : List (Nat × Ob)) (tm : List (Nat × SV)) (X : Prop) : List Operand → Prop
  | [] => X
  | x :: r => match evT tm x with
    | none => X
    | some s => needS ob (needA ob tm X r) s
def ownA (tm : List (Nat × SV)) : List Operand → Bool
  | [] => false
  | x :: r => match evT tm x with
    | none => true
    | some s => bif ownS s then true else ownA tm r
/-- An own array is frozen: it is a tree from here on. -/
def frD (k sz : Nat) (rs : List (List V)) : D → D
  | .ow j n => bif Nat.beq j k then .u (.sl sz rs) else .ow j n
  | d => d
def frL (k sz : Nat) (rs : List (List V)) : List D → List D
  | [] => []
  | x :: r => frD k sz rs x :: frL k sz rs r
def frC (k sz : Nat) (rs : List (List V)) : List SC → List SC
  | [] => []
  | .d x :: r => .d (frD k sz rs x) :: frC k sz rs r
  | .a xs :: r => .a (frL k sz rs xs) :: frC k sz rs r
def frS (k sz : Nat) (rs : List (List V)) : SV → SV
  | .d x => .d (frD k sz rs x)
  | .a xs => .a (frL k sz rs xs)
  | .t vs => .t (frC k sz rs vs)
def frNeedD (k : Nat) (rs : List (List V)) (X : Prop) : D → Prop
  | .ow j n => bif Nat.beq j k then Len rs.length n X else X
  | _ => X
def frNeedL (k : Nat) (rs : List (List V)) (X : Prop) : List D → Prop
  | [] => X
  | x :: r => frNeedD k rs (frNeedL k rs X r) x
def frNeedC (k : Nat) (rs : List (List V)) (X : Prop) : List SC → Prop
  | [] => X
  | .d x :: r => frNeedD k rs (frNeedC k rs X r) x
  | .a xs :: r => frNeedL k rs (frNeedC k rs X r) xs
def frNeedS (k : Nat) (rs : List (List V)) (X : Prop) : SV → Prop
  | .d x => frNeedD k rs X x
  | .a xs => frNeedL k rs X xs
  | .t vs => frNeedC k rs X vs
def frTm (k sz : Nat) (rs : List (List V)) : List (Nat × SV) → List (Nat × SV)
  | [] => []
  | (j, s) :: r => (j, frS k sz rs s) :: frTm k sz rs r
def frNeedT (k : Nat) (rs : List (List V)) (X : Prop) : List (Nat × SV) → Prop
  | [] => X
  | (_, s) :: r => frNeedS k rs (frNeedT k rs X r) s
def frOb (k sz : Nat) (rs : List (List V)) : List (Nat × Ob) → List (Nat × Ob)
  | [] => []
  | (j, .bx t cs) :: r => (j, .bx t (frL k sz rs cs)) :: frOb k sz rs r
  | (j, .ar t m ss) :: r => (j, .ar t m ss) :: frOb k sz rs r
  | (j, .fm t ss) :: r => (j, .fm t ss) :: frOb k sz rs r
def frNeedO (k : Nat) (rs : List (List V)) (X : Prop) : List (Nat × Ob) → Prop
  | [] => X
  | (_, .bx _ cs) :: r => frNeedL k rs (frNeedO k rs X r) cs
  | (_, .ar _ _ _) :: r => frNeedO k rs X r
  | (_, .fm _ _) :: r => frNeedO k rs X r
def frAll (K : Kt) : List Nat → Kt
  | [], tm, ob => K tm ob
  | k :: r, tm, ob => match lk k ob with
    | some (.ar _ sz rs) => frNeedT k rs (frNeedO k rs (frAll K r (frTm k sz rs tm) (frOb k sz rs (obr k ob))) (obr k ob)) tm
    | _ => False
def namD : D → List Nat → List Nat
  | .ow k _, l => bif l.contains k then l else k :: l
  | _, l => l
def namL : List D → List Nat → List Nat
  | [], l => l
  | x :: r, l => namL r (namD x l)
def namS : SV → List Nat → List Nat
  | .d x, l => namD x l
  | .a xs, l => namL xs l
  | .t _, l => l
def namA (tm : List (Nat × SV)) : List Operand → List Nat → List Nat
  | [], l => l
  | x :: r, l => match evT tm x with
    | some s => namA tm r (namS s l)
    | none => l
/-- A call that lends own arrays: either the answer lies in no memory, or they are frozen. -/
structure ClO (A B : Prop) : Prop where
  out : A ∨ B
/-- A call: by a contract without own objects, or by one with them. -/
structure CL (A B : Prop) : Prop where
  out : A ∨ B
/-- The rows of a slice, its length, and which own array it is. -/
def rowsT (ob : List (Nat × Ob)) : SV → Option (List (List V) × Nat × Option Nat)
  | .d (.u .nl) => some ([], 0, none)
  | .d (.u (.sl _ rs)) => some (rs, rs.length, none)
  | .d (.ow k n) => match lk k ob with
    | some (.ar _ _ rs) => some (rs, n, some k)
    | _ => none
  | _ => none
def szT (ob : List (Nat × Ob)) (n : Nat) : SV → Bool
  | .d (.u .nl) => true
  | .d (.u (.sl m _)) => Nat.beq m n
  | .d (.ow k _) => match lk k ob with
    | some (.ar _ m _) => Nat.beq m n
    | _ => false
  | _ => false
def tyT (ob : List (Nat × Ob)) (e : Nat) : SV → Bool
  | .d (.ow k _) => match lk k ob with
    | some (.ar u _ _) => Nat.beq u e
    | _ => false
  | _ => true
def obx : Option Nat → List (Nat × Ob) → List (Nat × Ob)
  | some k, ob => obr k ob
  | none, ob => ob
def opnd (tm : List (Nat × SV)) (dflt : Int) : Option Operand → Option Int
  | none => some dflt
  | some x => match evT tm x with
    | some (.d (.u (.int _ i))) => some i
    | _ => none
/-- The rows of a slice literal. -/
def litRows (zs : List V) : Nat → List (Nat × SV) → Nat → Option (List (List V))
  | 0, [], _ => some []
  | 0, _ :: _, _ => none
  | n + 1, [], i => match litRows zs n [] (i + 1) with
    | some r => some (zs :: r)
    | none => none
  | n + 1, (j, s) :: l, i => bif Nat.beq j i then match cellsOfT s with
      | some xs => match borL [] xs with
        | some ys => bif Nat.beq ys.length zs.length then match litRows zs n l (i + 1) with
            | some r => some (ys :: r)
            | none => none
          else none
        | none => none
      | none => none
    else match litRows zs n ((j, s) :: l) (i + 1) with
      | some r => some (zs :: r)
      | none => none
def vzT : List Value → Option (List V)
  | [] => some []
  | v :: r => match zeroT v with
    | none => none
    | some d => match vzT r with
      | none => none
      | some l => some (d :: l)
/-- An operation that only yields, under conditions. -/
def vcY (op : Op) (tm : List (Nat × SV)) (ob : List (Nat × Ob)) (K : SV → Prop) : Option Prop :=
  match yT T tm ob op with
  | some s => some (K s)
  | none => match op with
    | .pick c x y => match evT tm c with
      | some (.d (.u (.bool b))) => match evT tm x with
        | some s => match evT tm y with
          | some s' => some (Brn b (K s) (K s'))
          | none => some (Brn b (K s) False)
        | none => match evT tm y with
          | some s' => some (Brn b False (K s'))
          | none => none
      | _ => none
    | .binOp op t x y _ => match evT tm x with
      | some (.d (.u (.int .i64 m))) => match evT tm y with
        | some (.d (.u (.int .i64 n))) => match arithT op m n with
          | some r => some (Rng r (K (.d (.u (.int .i64 r)))))
          | none => none
        | _ => none
      | some (.d (.u (.str a))) => match evT tm y with
        | some (.d (.u (.str b))) => match op with
          | .add => some (Cat (a.size + b.size) (K (.d (.u (.str (a ++ b))))))
          | _ => none
        | _ => none
      | some (.d (.u (.bool a))) => match evT tm y with
        | some (.d (.u (.bool b))) => match lk t T with
          | none => none
          | some i => match i.k with
            | .bo => match op with
              | .eql => some (K (.d (.u (.bool (a == b)))))
              | .neq => some (K (.d (.u (.bool (!(a == b))))))
              | _ => none
            | _ => none
        | _ => none
      | some (.a xs) => match evT tm y with
        | some (.a ys) => match lk t T with
          | none => none
          | some i => match i.k with
            | .st fs => match eqT T fs 0 xs ys with
              | none => none
              | some p => match op with
                | .eql => some (Eqv P t (K (.d (.u (.bool p)))))
                | .neq => some (Eqv P t (K (.d (.u (.bool (!p))))))
                | _ => none
            | _ => none
        | _ => none
      | _ => none
    | .unOp .neg _ x => match evT tm x with
      | some (.d (.u (.int .i64 n))) => some (Rng (-n) (Rng n (K (.d (.u (.int .i64 (-n)))))))
      | _ => none
    | .load t x => match evT tm x with
      | some (.d (.e k m off)) => match lk k ob with
        | some (.ar _ _ rs) => match lk t T with
          | none => none
          | some i => some (Rw rs m fun row => match i.k.agg with
            | true => match cutT row off i.size with
              | some l => K (.a (upT l))
              | none => False
            | false => match nth row off with
              | some v => K (.d (.u v))
              | none => False)
        | _ => none
      | _ => none
    | .indexAddr t x ix => match evT tm ix with
      | some (.d (.u (.int _ i))) => match lk t T with
        | none => none
        | some ti => match ti.k with
          | .sl e => match lk e T with
            | none => none
            | some j => match evT tm x with
              | some (.d (.u (.sl sz rs))) => bif Nat.beq sz j.size then some (Ix rs i fun row => K (.d (.q row 0))) else none
              | some (.d (.ow k n)) => bif szT ob j.size (.d (.ow k n)) then some (Ixo n i fun m => K (.d (.e k m 0))) else none
              | _ => none
          | _ => none
      | _ => none
    | .slice t x lo hi none => match lk t T with
      | none => none
      | some ti => match ti.k with
        | .sl e => match lk e T with
          | none => none
          | some j => match evT tm x with
            | some (.d (.u (.sl sz rs))) => match opnd tm 0 lo with
              | none => none
              | some l => match opnd tm rs.length hi with
                | none => none
                | some m => bif Nat.beq sz j.size then some (Slc rs.length l m fun l m => K (.d (.u (.sl sz ((rs.take m).drop l))))) else none
            | some (.d (.ow k n)) => match lk k ob with
              | some (.ar _ m0 rs) => bif Nat.beq m0 j.size then match lo with
                  | none => match opnd tm n hi with
                    | none => none
                    | some m => some (Slc rs.length 0 m fun _ m => K (.d (.ow k m)))
                  | some y => match opnd tm 0 (some y) with
                    | none => none
                    | some l => match opnd tm n hi with
                      | none => none
                      | some m => some (Slc rs.length l m fun l m => K (.d (.ows k l (m - l))))
                else none
              | _ => none
            | _ => none
        | _ => none
    | .slice t x lo (some hi) (some mx) => match lk t T with
      | none => none
      | some ti => match ti.k with
        | .sl e => match lk e T with
          | none => none
          | some _ => match opnd tm 0 lo with
            | none => none
            | some l => match opnd tm 0 (some hi) with
              | none => none
              | some m => match opnd tm 0 (some mx) with
                | none => none
                | some q => match evT tm x with
                  | some (.d (.u (.sl _ rs))) => some (Slc3 rs.length l m q (K (.d .any)))
                  | some (.d (.ow k n)) => match lk k ob with
                    | some (.ar _ _ rs) => some (Slc3 rs.length l m q (K (.d .any)))
                    | _ => none
                  | _ => none
        | _ => none
    | .call ⟨.builtin .len, xs, ts⟩ => match xs.toList with
      | [x] => match ts.toList with
        | [t] => match lk t T with
          | none => none
          | some i => match i.k with
            | .sl _ => match evT tm x with
              | some (.d (.u (.sl _ rs))) => some (Bnd rs.length (K (.d (.u (.int .i64 (rs.length : Int))))))
              | some (.d (.ow k n)) => match lk k ob with
                | some (.ar _ _ _) => some (Bnd n (K (.d (.u (.int .i64 (n : Int))))))
                | _ => none
              | some (.d (.u .nl)) => some (K (.d (.u (.int .i64 0))))
              | _ => none
            | .sr => match evT tm x with
              | some (.d (.u (.str s))) => some (Bnd s.size (K (.d (.u (.int .i64 (s.size : Int))))))
              | _ => none
            | _ => none
        | _ => none
      | _ => none
    | _ => none
/-- A call by a contract without own objects. -/
def vcA (d : Option Tmp) (f : FuncId) (xs : Array Operand) (tm : List (Nat × SV)) (ob : List (Nat × Ob)) (K : Kt) : Prop := match argsT ob tm xs.toList with
      | some ss => match d with
        | some d => bif Nat.blt d nt then match ownA tm xs.toList with
            | false => needA ob tm (Cl P f ss false fun s => K ((d, s) :: tm) ob) xs.toList
            | true => ClO (needA ob tm (Cl P f ss true fun s => K ((d, s) :: tm) ob) xs.toList)
                (frAll (fun tm ob => match argsT ob tm xs.toList with
                  | some ss => match ownA tm xs.toList with
                    | false => needA ob tm (Cl P f ss false fun s => K ((d, s) :: tm) ob) xs.toList
                    | true => False
                  | none => False) (namA tm xs.toList []) tm ob)
          else False
        | none => needA ob tm (Cl P f ss (ownA tm xs.toList) fun _ => K tm ob) xs.toList
      | none => False
/-- An operation that makes or writes memory, or calls. -/
def vcM (kp : Bool) (o : Oper) (tm : List (Nat × SV)) (ob : List (Nat × Ob)) (K : Kt) : Prop := match o.op with
    | .alloc t => match o.dst with
      | some d => match lk t T with
        | some i => match zerosT i.zero with
          | some zs => bif Nat.blt d nt && newN d tm ob then K ((d, .d (.p d 0)) :: tm) ((d, .bx t zs) :: ob) else False
          | none => False
        | none => False
      | none => False
    | .box t x => match o.dst with
      | some d => match evT tm x with
        | some s => match cellsOfT s with
          | some cs => bif Nat.blt d nt && newN d tm ob then K ((d, .d (.p d 0)) :: tm) ((d, .bx t cs) :: ob) else False
          | none => False
        | none => False
      | none => False
    | .store t x y => match o.dst with
      | some _ => False
      | none => match evT tm y with
        | none => False
        | some s => match cellsOfT s with
          | none => False
          | some xs => match lk t T with
            | none => False
            | some i => bif Nat.beq xs.length i.size then match evT tm x with
                | some (.d (.p k off)) => match lk k ob with
                  | some (.bx u cs) => bif Nat.ble (off + xs.length) cs.length then K tm (obu k (.bx u (cs.take off ++ xs ++ cs.drop (off + xs.length))) ob) else False
                  | _ => False
                | some (.d (.e k m off)) => match lk k ob with
                  | some (.ar u sz rs) => match borL [] xs with
                    | none => False
                    | some ys => Rw rs m fun row => bif Nat.ble (off + ys.length) sz then K tm (obu k (.ar u sz (rs.set m (row.take off ++ ys ++ row.drop (off + ys.length)))) ob) else False
                  | _ => False
                | _ => Raw P nt o tm ob K
              else False
    | .buildSlice t n ps => match o.dst with
      | none => False
      | some d => match lk t T with
        | none => False
        | some i => match i.k with
          | .sl e => match lk e T with
            | none => False
            | some j => match partsT tm ps.toList with
              | none => False
              | some vs => match vzT j.zero with
                | none => False
                | some zs => match litRows zs n vs 0 with
                  | none => RawK P nt o tm ob K
                  | some rs => bif Nat.blt d nt && (newN d tm ob && (Nat.ble (n * j.size) 16777216 && (Nat.beq zs.length j.size && Nat.blt 0 j.size))) then K ((d, .d (.ow d n)) :: tm) ((d, .ar e j.size rs) :: ob) else False
          | _ => False
    | .call ⟨.builtin .append, xs, ts⟩ => match o.dst with
      | none => False
      | some d => match xs.toList with
        | [x, y] => match ts.toList with
          | [t, t'] => match lk t T with
            | none => False
            | some i => match i.k with
              | .sl e => match lk e T with
                | none => False
                | some j => match evT tm x with
                  | none => False
                  | some sx => match evT tm y with
                    | none => False
                    | some sy => match sx with
                      | .d (.u (.sl _ _)) => Raw P nt o tm ob K
                      | _ => match rowsT ob sx with
                        | none => Raw P nt o tm ob K
                        | some (rs, n, kx) => match rowsT ob sy with
                          | none => Raw P nt o tm ob K
                          | some (rs', m, _) =>
                            bif Nat.beq t t' && (tyT ob e sx && (szT ob j.size sx && (szT ob j.size sy && (Nat.blt d nt && (newN d tm ob && (Nat.blt 0 j.size && Nat.beq j.zero.length j.size)))))) then
                              Apd rs.length n rs'.length m j.bytes (K ((d, .d (.ow d (rs ++ rs').length)) :: tm) ((d, .ar e j.size (rs ++ rs')) :: obx kx ob))
                            else False
              | _ => Raw P nt o tm ob K
          | _ => Raw P nt o tm ob K
        | _ => Raw P nt o tm ob K
    | .call ⟨.value (.func f), xs, _⟩ => CL (vcA P nt o.dst f xs tm ob K) (match kp with | true => RawK P nt o tm ob K | false => Raw P nt o tm ob K)
    | _ => Raw P nt o tm ob K
/-- One operation. -/
def vcOpK (kp : Bool) (o : Oper) (tm : List (Nat × SV)) (ob : List (Nat × Ob)) (K : Kt) : Prop :=
  match vcY P T o.op tm ob (fun s => putT nt o.dst s tm ob K) with
  | some p => p
  | none => vcM P T nt kp o tm ob K
def vcOp (o : Oper) (tm : List (Nat × SV)) (ob : List (Nat × Ob)) (K : Kt) : Prop :=
  match vcY P T o.op tm ob (fun s => putT nt o.dst s tm ob K) with
  | some p => p
  | none => vcM P T nt false o tm ob K
def skipT (d : Option Nat) (tm : List (Nat × SV)) (ob : List (Nat × Ob)) (K : Kt) : Prop := match d with
  | some d => bif Nat.blt d nt then K ((d, .t []) :: tm) (ob) else False
  | none => K tm ob
def gdT (ops : Array Oper) (j : Nat) : Option Nat := match nth ops.toList j with
  | some o => o.dst
  | none => none
/-- The operations of a region, one after the other. -/
def vcL (ops : Array Oper) (K : Kt) : List Oper → Kt
  | [], tm, ob => K tm ob
  | o :: r, tm, ob => match o.guard with
    | none => vcOp P T nt o tm ob (vcL ops K r)
    | some (j, want) => match gdT ops j with
      | none => False
      | some t => match lk t tm with
        | some (.d (.u (.bool b))) => match want with
          | true => Brn b (vcOp P T nt o tm ob (vcL ops K r)) (skipT nt o.dst tm ob (vcL ops K r))
          | false => Brn b (skipT nt o.dst tm ob (vcL ops K r)) (vcOp P T nt o tm ob (vcL ops K r))
        | some (.t []) => skipT nt o.dst tm ob (vcL ops K r)
        | _ => False
end
end Go.Proofs.Ytgiebofmfkacgaa

/-
  The layer of trees: operations that yield under conditions are sound.
-/
namespace Go.Proofs.Ytgiebofmfkacgaa
open Go.RowKit

section
variable {P : Program} {T : List (Nat × Ty)} [hT : Tys P T] {nt : Nat} {c : Cx} {st : St} {tm : List (Nat × Value)} {h : Hs} {ρ : Rho} {G : FG} {ty : TypeId} {pos : String} {af : Array Edge} {gd : Option (Nat × Bool)} {d : Option Tmp}
/-- A cell of a row of an own array. -/
theorem Gd.row (g : Gd c st tm h ρ G) {k m off : Nat} {u sz : Nat} {rs : List (List V)} {row : List V} {v : Value} (hk : lk k st.ob = some (.ar u sz rs)) (hs : DenS ρ ⟨G, h.w0⟩ (.d (.e k m off)) v) (hr : rs[m]? = some row) :
    ∃ b o' us, v = .pointer (some ⟨b, o' + off, none⟩) ∧ DenVL ⟨G, h.w0⟩ row us ∧ ∀ w, Hp h w → ∀ (j : Nat) u, us[j]? = some u → w.cell? ⟨b, o' + j, none⟩ = some u := by
  cases hs with | d hs => cases hs with | @e _ _ _ b c' sz' h0 =>
  obtain ⟨X, f, ⟨A, cc, us, rfl, g2, g3, g4, g5⟩, g6⟩ := g.ob.at_ hk
  rw [h0] at g2
  injection g2 with g2; injection g2 with e1 e2 e3; subst e1 e2 e3
  obtain ⟨vs, q1, q2⟩ := g4.part (l := row) (o := m * sz') (fun j d hd => flat_get g5 hr j d hd)
  refine ⟨b, m * sz', vs, rfl, q1, fun w hw j x hx => ?_⟩
  exact (hw.blk b _ (g6.mem (by rw [hbA_some]; exact List.mem_singleton.2 rfl))).cell (x := ⟨u, us, _⟩) (q2 j x hx)
theorem opnd_ev (g : Gd c st tm h ρ G) {x : Option Operand} {dflt i : Int} (ho : opnd st.tm dflt x = some i) : (x = none ∧ i = dflt) ∨ ∃ y k, x = some y ∧ ev tm y = some (.int k i) := by
  cases x with
  | none => simp only [opnd, Option.some.injEq] at ho; exact .inl ⟨rfl, ho.symm⟩
  | some y =>
    simp only [opnd] at ho
    split at ho
    · rename_i k n hx
      injection ho with ho; subst ho
      exact .inr ⟨y, k, rfl, evT_int g hx⟩
    · cases ho
/-- Any slice expression with two bounds. -/
theorem Yd.sliceG {t e : TypeId} {x : Operand} {lo hi : Option Operand} {A : Option Addr} {n cc l m : Nat} {i : Ty} {jk : Tk} {js jb : Nat} {jz : List Value} (hx : ev tm x = some (.slice A n cc)) (ht : lk t T = some i) (hk : i.k = .sl e) (hj : lk e T = some ⟨jk, js, jb, jz⟩)
    (hlo : (lo = none ∧ l = 0) ∨ ∃ y k, lo = some y ∧ ev tm y = some (.int k (l : Int))) (hhi : (hi = none ∧ m = n) ∨ ∃ y k, hi = some y ∧ ev tm y = some (.int k (m : Int))) (h1 : l ≤ m) (h2 : m ≤ cc) :
    Yd P nt ⟨d, .slice t x lo hi none, ty, pos, af, gd⟩ tm h (.slice (if cc = l then A else A.map (·.add (l * js))) (m - l) (cc - l)) := ⟨fun a w ha _ => by
  have := run_slice_aux (P := P) (w := w) (A := A) ht hk hj (lo := lo.map a.eval) (hi := hi.map a.eval) (l := l) (m := m) (c := cc) (n := n) (by
    rcases hlo with ⟨rfl, h⟩ | ⟨y, k, rfl, h⟩
    · exact .inl ⟨rfl, h⟩
    · exact .inr ⟨k, by simp [ha.ev h]⟩) (by
    rcases hhi with ⟨rfl, h⟩ | ⟨y, k, rfl, h⟩
    · exact .inl ⟨rfl, h⟩
    · exact .inr ⟨k, by simp [ha.ev h]⟩) h1 h2
  simp only [execOp, ha.ev hx, Option.map_none]
  simp [this]⟩
/-- A slice expression with a bound of its own. -/
theorem Yd.slice3 {t e : TypeId} {x hi mx : Operand} {lo : Option Operand} {A : Option Addr} {n cc l m q : Nat} {i : Ty} {jk : Tk} {js jb : Nat} {jz : List Value} (hx : ev tm x = some (.slice A n cc)) (ht : lk t T = some i) (hk : i.k = .sl e) (hj : lk e T = some ⟨jk, js, jb, jz⟩)
    (hlo : (lo = none ∧ l = 0) ∨ ∃ y k, lo = some y ∧ ev tm y = some (.int k (l : Int))) (hhi : ∃ k, ev tm hi = some (.int k (m : Int))) (hmx : ∃ k, ev tm mx = some (.int k (q : Int))) (h1 : l ≤ m) (h2 : m ≤ q) (h3 : q ≤ cc) :
    Yd P nt ⟨d, .slice t x lo (some hi) (some mx), ty, pos, af, gd⟩ tm h (.slice (if q = l then A else A.map (·.add (l * js))) (m - l) (q - l)) := ⟨fun a w ha _ => by
  have hu := (hT.ok t i ht).kind
  rw [hk] at hu
  have hu : P.underlying t = some (.slice e) := hu
  obtain ⟨kh, hhi⟩ := hhi
  obtain ⟨kq, hmx⟩ := hmx
  rcases hlo with ⟨rfl, rfl⟩ | ⟨y, kl, rfl, hlo⟩
  · simp [execOp, ha.ev hx, ha.ev hhi, ha.ev hmx, Instr.sliceAt, Instr.slice, Instr.sliceBounds, Instr.sliceBound, asIntOf, run_underlying hu, (hT.ok e _ hj).run_size, h2, h3]
  · simp [execOp, ha.ev hx, ha.ev hhi, ha.ev hmx, ha.ev hlo, Instr.sliceAt, Instr.slice, Instr.sliceBounds, Instr.sliceBound, asIntOf, run_underlying hu, (hT.ok e _ hj).run_size, h1, h2, h3]⟩
theorem szT_ar {ob : List (Nat × Ob)} {k n m : Nat} (h : szT ob n (.d (.ow k m)) = true) : ∃ u rs, lk k ob = some (.ar u n rs) := by
  simp only [szT] at h
  split at h
  · rename_i u m' rs hk
    have := Nat.eq_of_beq_eq_true h
    subst this
    exact ⟨u, rs, hk⟩
  · cases h
theorem rows_cut {z : Fz} {sz : Nat} {rs : List (List V)} {A : Option Addr} {n cc l m : Nat} (h : DenV z (.sl sz rs) (.slice A n cc)) (h1 : l ≤ m) (h2 : m ≤ rs.length) : DenV z (.sl sz ((rs.take m).drop l)) (.slice (if cc = l then A else A.map (·.add (l * sz))) (m - l) (cc - l)) := by
  cases h with
  | @sl _ _ _ _ _ b o us hn hc hm hr hA hl hu hone hd =>
    have hr' : ∀ r ∈ (rs.take m).drop l, r.length = sz := fun r hr0 => hr r (List.mem_of_mem_take (List.mem_of_mem_drop hr0))
    have hlen : ((rs.take m).drop l).length = m - l := by simp; omega
    rcases Nat.eq_or_lt_of_le h1 with he | hlt
    · have hnil : (rs.take m).drop l = [] := List.eq_nil_of_length_eq_zero (by omega)
      rw [hnil]
      exact .sl (b := b) (o := o) [] (by simp; omega) (by omega) (by omega) (by simp) (fun h => absurd rfl h) (by simp) (fun j u h => by simp at h) rfl (fun j d u h => by simp at h)
    · have hne : rs ≠ [] := fun e => by subst e; simp at h2; omega
      obtain ⟨rfl, hG⟩ := hA hne
      have hcl : ¬ cc = l := by omega
      have hadd : (⟨b, o, none⟩ : Addr).add (l * sz) = ⟨b, o + l * sz, none⟩ := by unfold Addr.add; split <;> simp_all
      rw [if_neg hcl]
      simp only [Option.map_some, hadd]
      have hfl : ∀ (j : Nat) d, ((rs.take m).drop l).flatten[j]? = some d → rs.flatten[l * sz + j]? = some d := by
        intro j d hj
        have e1 : rs.flatten = (rs.take l).flatten ++ (((rs.take m).drop l).flatten ++ (rs.drop m).flatten) := by
          rw [← List.flatten_append, ← List.flatten_append]
          congr 1
          rw [List.drop_take]
          have : rs.drop l = List.take (m - l) (rs.drop l) ++ rs.drop m := by
            conv => lhs; rw [← List.take_append_drop (m - l) (rs.drop l)]
            rw [List.drop_drop]; congr 2; omega
          rw [← this, List.take_append_drop]
        have e2 : (rs.take l).flatten.length = l * sz := by
          rw [flat_len (sz := sz) (fun r h0 => hr r (List.mem_of_mem_take h0))]
          rw [List.length_take, Nat.min_eq_left (by omega)]
        rw [e1, List.getElem?_append_right (by omega), e2, Nat.add_sub_cancel_left, List.getElem?_append_left (List.getElem?_eq_some_iff.1 hj).1]
        exact hj
      obtain ⟨vs, q1, q2⟩ := DenVL.part (z := z) ⟨hl, hone, hd⟩ hfl
      exact .sl (b := b) (o := o + l * sz) vs (by omega) (by omega) (by omega) hr' (fun _ => ⟨rfl, hG⟩) q1.len (fun j u hj => by rw [Nat.add_assoc]; exact hu _ u (q2 j u hj)) q1.one q1.den
theorem Yd.cat {x y : Operand} {t u : TypeId} {a b : ByteArray} (hx : ev tm x = some (.string a)) (hy : ev tm y = some (.string b)) (hs : a.size + b.size ≤ maxLen) : Yd P nt ⟨d, .binOp .add t x y u, ty, pos, af, gd⟩ tm h (.string (a ++ b)) := ⟨fun s w ha _ => by
  have hn : ¬ (((a.size + b.size : Nat) : Int) > IntKind.i64.max) := by
    have : IntKind.i64.max = 9223372036854775807 := by decide
    rw [this]; unfold maxLen at hs; omega
  simp only [execOp, eqGuard, binOp, Op.stringOp, ha.ev hx, ha.ev hy, if_neg hn]
  simp⟩
theorem Yd.eqlBool {x y : Operand} {t u : TypeId} {a b : Bool} {i : Ty} (hx : ev tm x = some (.bool a)) (hy : ev tm y = some (.bool b)) (ht : lk t T = some i) (hk : i.k = .bo) : Yd P nt ⟨d, .binOp .eql t x y u, ty, pos, af, gd⟩ tm h (.bool (a == b)) := ⟨fun s w ha _ => by
  have hu := (hT.ok t i ht).kind
  rw [hk] at hu
  have hu : P.underlying t = some .bool := hu
  simp [execOp, eqGuard, binOp, Op.equal, Op.maxDepth, ha.ev hx, ha.ev hy, run_equalIn_bool w 9999 t a b hu]⟩
theorem Yd.neqBool {x y : Operand} {t u : TypeId} {a b : Bool} {i : Ty} (hx : ev tm x = some (.bool a)) (hy : ev tm y = some (.bool b)) (ht : lk t T = some i) (hk : i.k = .bo) : Yd P nt ⟨d, .binOp .neq t x y u, ty, pos, af, gd⟩ tm h (.bool (!(a == b))) := ⟨fun s w ha _ => by
  have hu := (hT.ok t i ht).kind
  rw [hk] at hu
  have hu : P.underlying t = some .bool := hu
  simp [execOp, eqGuard, binOp, Op.equal, Op.maxDepth, ha.ev hx, ha.ev hy, run_equalIn_bool w 9999 t a b hu]⟩
theorem vcY_sound (g : Gd c st tm h ρ G) {op : Op} {K : SV → Prop} {p : Prop} (hy : vcY P T op st.tm st.ob K = some p) (hp : p) : ∃ s v, Yd P nt ⟨d, op, ty, pos, af, gd⟩ tm h v ∧ DenS ρ ⟨G, h.w0⟩ s v ∧ K s := by
  simp only [vcY] at hy
  cases h0 : yT T st.tm st.ob op with
  | some s =>
    simp only [h0, Option.some.injEq] at hy
    subst hy
    obtain ⟨v, q1, q2⟩ := yT_sound g h0 (P := P) (nt := nt) (ty := ty) (pos := pos) (af := af) (gd := gd) (d := d)
    exact ⟨s, v, q1, q2, hp⟩
  | none =>
    simp only [h0] at hy
    clear h0
    split at hy
    · -- pick
      split at hy
      · rename_i b hc
        have e0 := evT_bool g hc
        split at hy
        · rename_i s hx
          obtain ⟨v, q1, q2⟩ := g.ev hx
          split at hy
          · rename_i s' hy'
            obtain ⟨v', r1, r2⟩ := g.ev hy'
            injection hy with hy; subst hy
            cases b
            · exact ⟨s', v', .pickF e0 rfl r1, r2, hp.f rfl⟩
            · exact ⟨s, v, .pickT e0 rfl q1, q2, hp.t rfl⟩
          · injection hy with hy; subst hy
            cases b
            · exact (hp.f rfl).elim
            · exact ⟨s, v, .pickT e0 rfl q1, q2, hp.t rfl⟩
        · split at hy
          · rename_i s' hy'
            obtain ⟨v', r1, r2⟩ := g.ev hy'
            injection hy with hy; subst hy
            cases b
            · exact ⟨s', v', .pickF e0 rfl r1, r2, hp.f rfl⟩
            · exact (hp.t rfl).elim
          · cases hy
      · cases hy
    · -- binOp
      rename_i op t x y u
      split at hy
      · rename_i m hx
        split at hy
        · rename_i n hy'
          cases ha : arithT op m n with
          | none => simp [ha] at hy
          | some r =>
            simp only [ha, Option.some.injEq] at hy
            subst hy
            have e1 := evT_int g hx
            have e2 := evT_int g hy'
            have hr := hp.r
            refine ⟨_, .int .i64 r, ?_, .d (.u (.int _ _)), hp.k⟩
            cases op <;> simp only [arithT] at ha <;> first | (cases ha; done) | (injection ha with ha; subst ha)
            · exact Yd.add e1 e2 hr
            · exact Yd.sub e1 e2 hr
            · exact Yd.mul e1 e2 hr
        · cases hy
      · rename_i a hx
        split at hy
        · rename_i b hy'
          split at hy
          · injection hy with hy; subst hy
            exact ⟨_, _, Yd.cat (evT_str g hx) (evT_str g hy') hp.h, .d (.u (.str _ (by rw [ByteArray.size_append]; exact hp.h))), hp.k⟩
          · cases hy
        · cases hy
      · rename_i a hx
        split at hy
        · rename_i b hy'
          cases ht : lk t T with
          | none => simp [ht] at hy
          | some i =>
            simp only [ht] at hy
            split at hy
            · rename_i hk
              split at hy
              · injection hy with hy; subst hy
                exact ⟨_, _, Yd.eqlBool (evT_bool g hx) (evT_bool g hy') ht hk, .d (.u (.bool _)), hp⟩
              · injection hy with hy; subst hy
                exact ⟨_, _, Yd.neqBool (evT_bool g hx) (evT_bool g hy') ht hk, .d (.u (.bool _)), hp⟩
              · cases hy
            · cases hy
        · cases hy
      · rename_i xs hx
        split at hy
        · rename_i ys hy'
          cases ht : lk t T with
          | none => simp [ht] at hy
          | some i =>
            simp only [ht] at hy
            split at hy
            · rename_i fs hk
              cases he : eqT T fs 0 xs ys with
              | none => simp [he] at hy
              | some p0 =>
                simp only [he] at hy
                obtain ⟨vx, x1, x2⟩ := g.ev hx
                obtain ⟨vy, y1, y2⟩ := g.ev hy'
                cases x2 with | @a _ us x2 => cases y2 with | @a _ vs y2 =>
                split at hy
                · injection hy with hy; subst hy
                  refine ⟨_, .bool p0, ⟨fun s w ha _ => ?_⟩, .d (.u (.bool _)), hp.k⟩
                  obtain ⟨e1, _, e3⟩ := eqT_binOp (P := P) ht hk he hp.h x2 y2 x y w
                  simp [execOp, ha.ev x1, ha.ev y1, e1, binOp, e3]
                · injection hy with hy; subst hy
                  refine ⟨_, .bool (!p0), ⟨fun s w ha _ => ?_⟩, .d (.u (.bool _)), hp.k⟩
                  obtain ⟨_, e2, e3⟩ := eqT_binOp (P := P) ht hk he hp.h x2 y2 x y w
                  simp [execOp, ha.ev x1, ha.ev y1, e2, binOp, e3]
                · cases hy
            · cases hy
        · cases hy
      · cases hy
    · -- neg
      split at hy
      · rename_i n hx
        injection hy with hy; subst hy
        have h1 := hp.r
        have h2 := hp.k.r
        exact ⟨_, _, Yd.neg (evT_int g hx) (by omega), .d (.u (.int _ _)), hp.k.k⟩
      · cases hy
    · -- load
      split at hy
      · rename_i k m off hx
        split at hy
        · rename_i u sz rs hk
          split at hy
          · cases hy
          · rename_i i ht
            injection hy with hy; subst hy
            obtain ⟨row, hr, hp⟩ := hp.out
            obtain ⟨v, q1, q2⟩ := g.ev hx
            obtain ⟨b, o', us, rfl, hd, hcell⟩ := g.row hk q2 hr
            cases hg : i.k.agg <;> simp only [hg] at hp
            · cases hn : nth row off with
              | none => simp only [hn] at hp
              | some e =>
                simp only [hn] at hp
                rw [nth_eq] at hn
                obtain ⟨w, hw, hdw⟩ := hd.get hn
                exact ⟨_, w, Yd.load1 q1 ht hg ⟨fun w' hw' => hcell w' hw' off w hw⟩, .d (.u hdw), hp⟩
            · cases hl : cutT row off i.size with
              | none => simp only [hl] at hp
              | some l =>
                simp only [hl] at hp
                obtain ⟨h1, h2⟩ := cutT_get hl
                obtain ⟨vs, r1, r2⟩ := hd.part (o := off) h2
                refine ⟨_, _, Yd.loadn (vs := vs) q1 ht hg ⟨fun w hw j u hu => ?_⟩ (by rw [r1.len, h1]), .a (by rw [upT_map]; exact r1.up), hp⟩
                rw [Nat.add_assoc]
                exact hcell w hw (off + j) u (r2 j u hu)
        · cases hy
      · cases hy
    · -- indexAddr
      split at hy
      · rename_i ik i hix
        split at hy
        · cases hy
        · rename_i ti ht
          split at hy
          · rename_i e hk
            split at hy
            · cases hy
            · rename_i j hj
              obtain ⟨jk, js, jb, jz⟩ := j
              have e2 := evT_int g hix
              split at hy
              · rename_i sz rs hx
                cases hb : Nat.beq sz js <;> simp only [hb, cond_false, cond_true] at hy
                · cases hy
                · injection hy with hy; subst hy
                  have := Nat.eq_of_beq_eq_true hb
                  subst this
                  obtain ⟨m, row, rfl, hr, hp⟩ := hp.out
                  obtain ⟨v, q1, q2⟩ := g.ev hx
                  cases q2 with | d q2 => cases q2 with | u q2 => cases q2 with | @sl _ _ A n cc b o us hn hc hm hrr hA hl hu h1 hd =>
                  have hm' : m < n := by rw [← hn]; exact (List.getElem?_eq_some_iff.1 hr).1
                  obtain ⟨rfl, hG⟩ := hA (fun e => by rw [e] at hr; simp at hr)
                  obtain ⟨vs, r1, r2⟩ := DenVL.part (z := ⟨G, h.w0⟩) ⟨hl, h1, hd⟩ (l := row) (o := m * sz) (fun j d hd => flat_get hrr hr j d hd)
                  refine ⟨_, _, Yd.indexNat q1 e2 ht hk hj hm', .d (.q (o' := o + m * sz) hG (fun j u hj => by rw [Nat.add_assoc]; exact hu _ u (r2 j u hj)) r1), hp⟩
              · rename_i k n hx
                cases hb : szT st.ob js (.d (.ow k n)) <;> simp only [hb, cond_false, cond_true] at hy
                · cases hy
                · injection hy with hy; subst hy
                  obtain ⟨m, rfl, hm, hp⟩ := hp.out
                  obtain ⟨u, rs, hk'⟩ := szT_ar hb
                  obtain ⟨v, q1, q2⟩ := g.ev hx
                  cases q2 with | d q2 => cases q2 with | @ow _ _ l h0 hA hnc =>
                  obtain ⟨X, f, ⟨A, cc, us, rfl, g2, g3, g4, g5⟩, g6⟩ := g.ob.at_ hk'
                  rw [h0] at g2
                  injection g2 with g2; subst g2
                  rcases g3.form with ⟨rfl, h1, rfl⟩ | ⟨b, rfl⟩
                  · have := hA rfl; omega
                  · have := Yd.indexNat (P := P) (nt := nt) (h := h) (d := d) (ty := ty) (pos := pos) (af := af) (gd := gd) q1 e2 ht hk hj hm
                    rw [Nat.zero_add] at this
                    exact ⟨_, _, this, .d (.e (o := 0) h0), hp⟩
              · cases hy
          · cases hy
      · cases hy
    · -- slice
      split at hy
      · cases hy
      · rename_i ti ht
        split at hy
        · rename_i e hk
          split at hy
          · cases hy
          · rename_i j hj
            obtain ⟨jk, js, jb, jz⟩ := j
            split at hy
            · rename_i sz rs hx
              split at hy
              · cases hy
              · rename_i l hlo
                split at hy
                · cases hy
                · rename_i m hhi
                  cases hb : Nat.beq sz js <;> simp only [hb, cond_false, cond_true] at hy
                  · cases hy
                  · injection hy with hy; subst hy
                    have := Nat.eq_of_beq_eq_true hb
                    subst this
                    obtain ⟨l', m', rfl, rfl, h1, h2, hp⟩ := hp.out
                    obtain ⟨v, q1, q2⟩ := g.ev hx
                    cases q2 with | d q2 => cases q2 with | u q2 =>
                    have q2' := q2
                    cases q2' with | @sl _ _ A n cc b o us hn hc hm hrr hA hl hu h1' hd =>
                    refine ⟨_, _, Yd.sliceG (l := l') (m := m') q1 ht hk hj ?_ ?_ h1 (by omega), .d (.u (rows_cut q2 h1 h2)), hp⟩
                    · rcases opnd_ev g hlo with ⟨e1, e2⟩ | e
                      · exact .inl ⟨e1, by omega⟩
                      · exact .inr e
                    · rcases opnd_ev g hhi with ⟨e1, e2⟩ | e
                      · exact .inl ⟨e1, by omega⟩
                      · exact .inr e
            · rename_i k n hx
              split at hy
              · rename_i u0 m0 rs hk'
                cases hb : Nat.beq m0 js <;> simp only [hb, cond_false, cond_true] at hy
                · cases hy
                · have := Nat.eq_of_beq_eq_true hb
                  subst this
                  obtain ⟨v, q1, q2⟩ := g.ev hx
                  cases q2 with | d q2 => cases q2 with | @ow _ _ l h0 hA hnc =>
                  obtain ⟨X, f, ⟨A, cc, us, rfl, g2, g3, g4, g5⟩, g6⟩ := g.ob.at_ hk'
                  rw [h0] at g2
                  injection g2 with g2; subst g2
                  have hcap : rs.length ≤ cc := g3.cap
                  split at hy
                  · split at hy
                    · cases hy
                    · rename_i m hhi
                      injection hy with hy; subst hy
                      obtain ⟨l', m', h00, rfl, h1, h2, hp⟩ := hp.out
                      have hy2 := Yd.sliceG (P := P) (nt := nt) (h := h) (d := d) (ty := ty) (pos := pos) (af := af) (gd := gd) (l := 0) (m := m') q1 ht hk hj (lo := none) (.inl ⟨rfl, rfl⟩) (by
                        rcases opnd_ev g hhi with ⟨e1, e2⟩ | e
                        · exact .inl ⟨e1, by omega⟩
                        · exact .inr e) (Nat.zero_le _) (by dsimp only; omega)
                      have hz : (if cc = 0 then A else A.map (·.add (0 * m0))) = A := by
                        split
                        · rfl
                        · cases A <;> simp [Addr.add]
                      rw [hz, Nat.sub_zero, Nat.sub_zero] at hy2
                      refine ⟨_, _, hy2, .d (.ow h0 (fun e => ?_) (by dsimp only; omega)), hp⟩
                      rcases g3.form with ⟨_, h3, _⟩ | ⟨b, h3⟩
                      · omega
                      · rw [h3] at e; cases e
                  · split at hy
                    · cases hy
                    · rename_i y l hlo
                      split at hy
                      · cases hy
                      · rename_i m hhi
                        injection hy with hy; subst hy
                        obtain ⟨l', m', rfl, rfl, h1, h2, hp⟩ := hp.out
                        have hy2 := Yd.sliceG (P := P) (nt := nt) (h := h) (d := d) (ty := ty) (pos := pos) (af := af) (gd := gd) (l := l') (m := m') q1 ht hk hj (by
                          rcases opnd_ev g hlo with ⟨e1, e2⟩ | e
                          · cases e1
                          · exact .inr e) (by
                          rcases opnd_ev g hhi with ⟨e1, e2⟩ | e
                          · exact .inl ⟨e1, by omega⟩
                          · exact .inr e) h1 (by dsimp only; omega)
                        exact ⟨_, _, hy2, .d (.ows h0 (by dsimp only; omega)), hp⟩
              · cases hy
            · cases hy
        · cases hy
    · -- slice with a bound of its own
      rename_i t x lo hi mx
      split at hy
      · cases hy
      · rename_i ti ht
        split at hy
        · rename_i e hk
          split at hy
          · cases hy
          · rename_i j hj
            obtain ⟨jk, js, jb, jz⟩ := j
            split at hy
            · cases hy
            · rename_i l hlo
              split at hy
              · cases hy
              · rename_i m hhi
                split at hy
                · cases hy
                · rename_i q hmx
                  have key : ∀ (A : Option Addr) (n cc len : Nat), ev tm x = some (.slice A n cc) → len ≤ cc → Slc3 len l m q (K (.d .any)) → ∃ s v, Yd P nt ⟨d, .slice t x lo (some hi) (some mx), ty, pos, af, gd⟩ tm h v ∧ DenS ρ ⟨G, h.w0⟩ s v ∧ K s := by
                    intro A n cc len hx hlen ⟨⟨l', m', q', e1, e2, e3, h1, h2, h3⟩, hk0⟩
                    subst e1 e2 e3
                    refine ⟨_, _, Yd.slice3 (l := l') (m := m') (q := q') hx ht hk hj ?_ ?_ ?_ h1 h2 (by omega), .d (.any rfl), hk0⟩
                    · rcases opnd_ev g hlo with ⟨e1, e2⟩ | e
                      · exact .inl ⟨e1, by omega⟩
                      · exact .inr e
                    · rcases opnd_ev g hhi with ⟨e1, e2⟩ | ⟨y, k, e1, e2⟩
                      · cases e1
                      · injection e1 with e1; subst e1; exact ⟨k, e2⟩
                    · rcases opnd_ev g hmx with ⟨e1, e2⟩ | ⟨y, k, e1, e2⟩
                      · cases e1
                      · injection e1 with e1; subst e1; exact ⟨k, e2⟩
                  split at hy
                  · rename_i sz rs hx
                    injection hy with hy; subst hy
                    obtain ⟨v, q1, q2⟩ := g.ev hx
                    cases q2 with | d q2 => cases q2 with | u q2 => cases q2 with | @sl _ _ A n cc b o us hn hc hm hrr hA hl hu h1' hd =>
                    exact key _ _ _ _ q1 (by omega) hp
                  · rename_i k n hx
                    split at hy
                    · rename_i u0 m0 rs hk'
                      injection hy with hy; subst hy
                      obtain ⟨v, q1, q2⟩ := g.ev hx
                      cases q2 with | d q2 => cases q2 with | @ow _ _ l h0 hA hnc =>
                      obtain ⟨X, f, ⟨A, cc, us, rfl, g2, g3, g4, g5⟩, g6⟩ := g.ob.at_ hk'
                      rw [h0] at g2
                      injection g2 with g2; subst g2
                      exact key _ _ _ _ q1 g3.cap hp
                    · cases hy
                  · cases hy
        · cases hy
    · -- len
      rename_i xs ts
      split at hy
      · rename_i x hxs
        split at hy
        · rename_i t hts
          have h1 : xs = #[x] := by rw [← Array.toArray_toList (xs := xs), hxs]
          have h2 : ts = #[t] := by rw [← Array.toArray_toList (xs := ts), hts]
          subst h1 h2
          cases ht : lk t T with
          | none => simp [ht] at hy
          | some i =>
            simp only [ht] at hy
            split at hy
            · rename_i e hk
              split at hy
              · rename_i sz rs hx
                injection hy with hy; subst hy
                obtain ⟨v, hv, hs⟩ := g.ev hx
                cases hs with | d hs => cases hs with | u hs => cases hs with | sl us hn hc hm => subst hn; exact ⟨_, _, Yd.len hv ht hk, .d (.u (.int _ _)), hp.k (by omega)⟩
              · rename_i k n hx
                split at hy
                · rename_i u sz rs hk'
                  injection hy with hy; subst hy
                  obtain ⟨v, hv, hs⟩ := g.ev hx
                  cases hs with | d hs => cases hs with | @ow _ _ l h0 hA hnc =>
                  obtain ⟨X, f, ⟨A, cc, us, rfl, g2, g3, g4, g5⟩, g6⟩ := g.ob.at_ hk'
                  rw [h0] at g2
                  injection g2 with g2; subst g2
                  have hnc' : n ≤ cc := hnc
                  have := g3.max
                  exact ⟨_, _, Yd.len hv ht hk, .d (.u (.int _ _)), hp.k (by omega)⟩
                · cases hy
              · rename_i hx
                injection hy with hy; subst hy
                obtain ⟨v, hv, hs⟩ := g.ev hx
                cases hs with | d hs => cases hs with | u hs => cases hs with | nl => exact ⟨_, _, Yd.len hv ht hk, .d (.u (.int _ _)), hp⟩
              · cases hy
            · rename_i hk
              split at hy
              · rename_i b hx
                injection hy with hy; subst hy
                obtain ⟨v, hv, hs⟩ := g.ev hx
                cases hs with | d hs => cases hs with | u hs => cases hs with | str _ hs => exact ⟨_, _, Yd.lenStr hv ht hk, .d (.u (.int _ _)), hp.k hs⟩
              · cases hy
            · cases hy
        · cases hy
      · cases hy
    · cases hy
end
end Go.Proofs.Ytgiebofmfkacgaa

/-
  The layer of trees: operations that make or write memory are sound.
-/
namespace Go.Proofs.Ytgiebofmfkacgaa
open Go.RowKit

theorem RowAt.updB {b : Nat} {x y : Hb} {X hp : List (Nat × Hb)} {f : List (Nat × Hb) → List (Nat × Hb)} (r : RowAt X hp f) (hX : X = [(b, x)]) : UpdB b x y hp (f [(b, y)]) := by
  induction r with
  | here => subst hX; exact .here
  | there _ ih => exact .there ih
  | skip _ ih => exact .skip ih
section
variable {P : Program} {T : List (Nat × Ty)} [hT : Tys P T] {nt : Nat} {Q : Exit → Act → World → Prop} {c : Cx} {st : St} {tm : List (Nat × Value)} {h : Hs} {ρ : Rho} {G : FG} {ty : TypeId} {pos : String} {af : Array Edge} {gd : Option (Nat × Bool)} {K : Kt}
omit hT in
theorem OpS.mono {o : Oper} {K K' : List (Nat × Value) → Hs → Prop} (k : OpS P nt Q o tm h K) (hk : ∀ tm h, K tm h → K' tm h) : OpS P nt Q o tm h K' :=
  ⟨fun a w ha hw => Oper.wp_mono (fun _ _ ⟨tm', h', h1, h2, h3⟩ => ⟨tm', h', h1, h2, hk _ _ h3⟩) (k.out a w ha hw)⟩
omit hT in
theorem Kd.of (g : Gd c st tm h ρ G) (k : K st.tm st.ob) : Kd c K tm h := ⟨st, ρ, G, h, fun _ hw => hw, g, k⟩
theorem putT_sound {op : Op} {d : Option Tmp} {s : SV} {v : Value} (g : Gd c st tm h ρ G) (y : Yd P nt ⟨d, op, ty, pos, af, gd⟩ tm h v) (hs : DenS ρ ⟨G, h.w0⟩ s v) (k : putT nt d s st.tm st.ob K) : OpS P nt Q ⟨d, op, ty, pos, af, gd⟩ tm h (Kd c K) := by
  cases d with
  | none => exact k.elim
  | some d =>
    simp only [putT] at k
    cases hd : Nat.blt d nt
    · rw [hd] at k; exact k.elim
    · rw [hd] at k
      exact OpS.yd y hd (.of (g.put hs) k)
theorem alloc_keep {t : TypeId} {d : Option Tmp} (g : Gd c st tm h ρ G) {kp : Bool} (k : vcM P T nt kp ⟨d, .alloc t, ty, pos, af, gd⟩ st.tm st.ob K) : OpS P nt Q ⟨d, .alloc t, ty, pos, af, gd⟩ tm h (Kk h c K) := by
  obtain ⟨F, w0, hp⟩ := h
  simp only [vcM] at k
  cases d with
  | none => exact k.elim
  | some d =>
    simp only at k
    cases ht : lk t T with
    | none => simp only [ht] at k
    | some i =>
      obtain ⟨ik, is, ib, iz⟩ := i
      simp only [ht] at k
      cases hz : zerosT iz with
      | none => simp only [hz] at k
      | some zs =>
        simp only [hz] at k
        cases hb : (Nat.blt d nt && newN d st.tm st.ob)
        · rw [hb] at k; exact k.elim
        · rw [hb] at k
          simp only [Bool.and_eq_true] at hb
          refine OpS.alloc ht hb.1 fun b => ?_
          have hd : DenL (upd ρ d ⟨some ⟨b, 0, none⟩, 1, zs.length⟩) ⟨G, w0⟩ zs iz := zerosT_den hz
          have ho : ObOk (upd ρ d ⟨some ⟨b, 0, none⟩, 1, zs.length⟩) ⟨G, w0⟩ d (.bx t zs) [(b, ⟨t, iz, zs.length⟩)] := ⟨b, iz, rfl, upd_self, hd⟩
          rw [hd.len]
          exact .of (fun w hw => hw.sub (List.sublist_cons_self _ _)) ((g.new hb.2 ho).put (.d (.p upd_self))) k
omit hT in
theorem box_keep {t : TypeId} {x : Operand} {d : Option Tmp} (g : Gd c st tm h ρ G) {kp : Bool} (k : vcM P T nt kp ⟨d, .box t x, ty, pos, af, gd⟩ st.tm st.ob K) : OpS P nt Q ⟨d, .box t x, ty, pos, af, gd⟩ tm h (Kk h c K) := by
  obtain ⟨F, w0, hp⟩ := h
  simp only [vcM] at k
  cases d with
  | none => exact k.elim
  | some d =>
    simp only at k
    cases hx : evT st.tm x with
    | none => simp only [hx] at k
    | some s =>
      simp only [hx] at k
      cases hc : cellsOfT s with
      | none => simp only [hc] at k
      | some cs =>
        simp only [hc] at k
        cases hb : (Nat.blt d nt && newN d st.tm st.ob)
        · rw [hb] at k; exact k.elim
        · rw [hb] at k
          simp only [Bool.and_eq_true] at hb
          obtain ⟨v, q1, q2⟩ := g.ev hx
          refine OpS.box q1 hb.1 fun b => ?_
          have hs : s.has d = false := by
            cases x with
            | tmp t => exact hasTm_get (newN_tm hb.2).1 t s hx
            | const v =>
              simp only [evT] at hx
              split at hx
              · injection hx with hx; subst hx; rfl
              · cases hx
            | global g => cases hx
            | func f => simp only [evT, Option.some.injEq] at hx; subst hx; rfl
          have hd : DenL (upd ρ d ⟨some ⟨b, 0, none⟩, 1, cs.length⟩) ⟨G, w0⟩ cs (vcells v) := cellsOfT_den hc (q2.upd hs)
          have ho : ObOk (upd ρ d ⟨some ⟨b, 0, none⟩, 1, cs.length⟩) ⟨G, w0⟩ d (.bx t cs) [(b, ⟨t, vcells v, cs.length⟩)] := ⟨b, _, rfl, upd_self, hd⟩
          rw [hd.len]
          exact .of (fun w hw => hw.sub (List.sublist_cons_self _ _)) ((g.new hb.2 ho).put (.d (.p upd_self))) k
/-- Slots without names are cells. -/
theorem borL_nil_den {z : Fz} : ∀ {xs : List D} {ys : List V} {us : List Value}, borL [] xs = some ys → DenL ρ z xs us → DenVL z ys us
  | [], ys, us, hb, hd => by
    simp [borL] at hb
    subst hb
    have := hd.len
    simp at this
    subst this
    exact .nil
  | x :: r, ys, us, hb, hd => by
    simp only [borL] at hb
    cases h1 : borD [] x with
    | none => simp [h1] at hb
    | some y =>
      cases h2 : borL [] r with
      | none => simp [h1, h2] at hb
      | some l =>
        simp only [h1, h2, Option.some.injEq] at hb
        subst hb
        have hl := hd.len
        cases us with
        | nil => simp at hl
        | cons u us =>
          have hx : DenV z y u := by
            have := hd.den 0 x u rfl rfl
            cases x <;> simp only [borD, lk] at h1 <;> first | (cases h1; done) | (injection h1 with h1; subst h1; cases this; assumption)
          have hr := borL_nil_den h2 (us := us) ⟨by simpa using hl, by have := hd.one; simp at this; simpa using this.2, fun j d v e1 e2 => hd.den (j + 1) d v (by simpa using e1) (by simpa using e2)⟩
          exact ⟨by simp [hr.len], by simp [hx.one, hr.one], fun j d v e1 e2 => by
            cases j with
            | zero => simp at e1 e2; subst e1 e2; exact hx
            | succ j => exact hr.den j d v (by simpa using e1) (by simpa using e2)⟩
theorem flat_mid {α : Type} {sz m off : Nat} {rs : List (List α)} {row ys : List α} (hr : ∀ r ∈ rs, r.length = sz) (hm : rs[m]? = some row) (ho : off + ys.length ≤ sz) :
    (rs.set m (row.take off ++ ys ++ row.drop (off + ys.length))).flatten = rs.flatten.take (m * sz + off) ++ ys ++ rs.flatten.drop (m * sz + off + ys.length) := by
  induction rs generalizing m with
  | nil => simp at hm
  | cons r rs ih =>
    have h1 := hr r List.mem_cons_self
    cases m with
    | zero =>
      simp at hm
      subst hm
      simp only [List.set_cons_zero, List.flatten_cons, Nat.zero_mul, Nat.zero_add]
      rw [List.take_append_of_le_length (by omega), List.drop_append_of_le_length (by omega)]
      simp
    | succ m =>
      have := ih (m := m) (fun x hx => hr x (List.mem_cons_of_mem _ hx)) (by simpa using hm)
      simp only [List.set_cons_succ, List.flatten_cons, this]
      rw [show (m + 1) * sz + off = r.length + (m * sz + off) by rw [Nat.succ_mul, h1]; omega]
      rw [List.take_length_add_append, show r.length + (m * sz + off) + ys.length = r.length + (m * sz + off + ys.length) by omega, List.drop_length_add_append]
      simp
theorem store_sound {t : TypeId} {x y : Operand} {d : Option Tmp} (g : Gd c st tm h ρ G) {kp : Bool} (k : vcM P T nt kp ⟨d, .store t x y, ty, pos, af, gd⟩ st.tm st.ob K) : OpS P nt Q ⟨d, .store t x y, ty, pos, af, gd⟩ tm h (Kd c K) := by
  simp only [vcM] at k
  cases d with
  | some d => exact k.elim
  | none =>
    simp only at k
    cases hy : evT st.tm y with
    | none => simp only [hy] at k
    | some s =>
      simp only [hy] at k
      cases hc : cellsOfT s with
      | none => simp only [hc] at k
      | some xs =>
        simp only [hc] at k
        cases ht : lk t T with
        | none => simp only [ht] at k
        | some i =>
          simp only [ht] at k
          obtain ⟨v, q1, q2⟩ := g.ev hy
          have hv := cellsOfT_den hc q2
          cases hb : Nat.beq xs.length i.size
          · rw [hb] at k; exact k.elim
          · rw [hb] at k
            have hsz := Nat.eq_of_beq_eq_true hb
            simp only [cond_true] at k
            split at k
            · rename_i k0 off hx
              split at k
              · rename_i u cs hk
                cases hle : Nat.ble (off + xs.length) cs.length
                · rw [hle] at k; exact k.elim
                · rw [hle] at k
                  simp only [cond_true] at k
                  have hle' : off + xs.length ≤ cs.length := by simpa [Nat.ble_eq] using hle
                  obtain ⟨p, r1, r2⟩ := g.ev hx
                  cases r2 with | d r2 => cases r2 with | @p _ _ b c' sz' h0 =>
                  obtain ⟨F, w0, hp⟩ := h
                  obtain ⟨X, f, ⟨b', us, rfl, g2, g3⟩, g5, g6, _⟩ := g.ob.set hk
                  have g2' := g2
                  rw [h0] at g2
                  injection g2 with g2; injection g2 with e1; injection e1 with e1; injection e1 with e1; subst e1
                  have hmid := g3.mid hv hle'
                  refine OpS.store (z := ⟨u, us, cs.length⟩) r1 q1 ht (g5.updB rfl) (by rw [hv.len]; exact hsz) hv.one (by rw [← hsz]; simp only [g3.len]; exact hle) rfl ?_
                  have hlen : (cs.take off ++ xs ++ cs.drop (off + xs.length)).length = cs.length := by simp; omega
                  refine .of (st := ⟨st.tm, obu k0 (.bx u (cs.take off ++ xs ++ cs.drop (off + xs.length))) st.ob⟩) (ρ := ρ) (G := G) ⟨g.fF, g.fw, g.gF, g.gx, g.fm, g.tm, ?_⟩ k
                  exact g6 (.bx u _) _ ⟨b, _, by rw [hlen], by rw [hlen]; exact g2', hmid⟩
              · exact k.elim
            · rename_i k0 m off hx
              split at k
              · rename_i u sz rs hk
                split at k
                · exact k.elim
                · rename_i ys hys
                  obtain ⟨row, hrow, k⟩ := k.out
                  cases hle : Nat.ble (off + ys.length) sz
                  · rw [hle] at k; exact k.elim
                  · rw [hle] at k
                    simp only [cond_true] at k
                    have hle' : off + ys.length ≤ sz := by simpa [Nat.ble_eq] using hle
                    have hv' := borL_nil_den hys hv
                    obtain ⟨p, r1, r2⟩ := g.ev hx
                    cases r2 with | d r2 => cases r2 with | @e _ _ _ b c' sz' h0 =>
                    obtain ⟨F, w0, hp⟩ := h
                    obtain ⟨X, f, ⟨A, cc, us, rfl, g2, g3, g4, g5⟩, g6, g7, _⟩ := g.ob.set hk
                    have g2' := g2
                    rw [h0] at g2
                    injection g2 with g2; injection g2 with e1 e2 e3; subst e1 e2 e3
                    have hrl : row.length = sz' := g5 row (List.mem_of_getElem? hrow)
                    have hfl := flat_len g5
                    have hm : m < rs.length := (List.getElem?_eq_some_iff.1 hrow).1
                    have hin : m * sz' + off + ys.length ≤ rs.flatten.length := by
                      rw [hfl]
                      have : (m + 1) * sz' ≤ rs.length * sz' := Nat.mul_le_mul_right _ hm
                      rw [Nat.succ_mul] at this; omega
                    have hmid : DenVL ⟨G, w0⟩ (rs.set m (row.take off ++ ys ++ row.drop (off + ys.length))).flatten (spl us (m * sz' + off) (vcells v)) := by
                      rw [flat_mid g5 hrow hle']
                      have hq : DenL ρ ⟨G, w0⟩ ((rs.flatten.map D.u).take (m * sz' + off) ++ (ys.map D.u) ++ (rs.flatten.map D.u).drop (m * sz' + off + (ys.map D.u).length)) (spl us (m * sz' + off) (vcells v)) := g4.up.mid hv'.up (by simp only [List.length_map]; exact hin)
                      rw [List.length_map, ← List.map_take, ← List.map_drop, ← List.map_append, ← List.map_append] at hq
                      refine ⟨by rw [hq.len, List.length_map], hq.one, fun j d0 u0 e1 e2 => ?_⟩
                      have := hq.den j (.u d0) u0 (by rw [List.getElem?_map, e1]; rfl) e2
                      cases this; assumption
                    have hol : us.length = rs.flatten.length := g4.len
                    refine OpS.store (z := ⟨u, us, c' * sz'⟩) r1 q1 ht (g6.updB (by rw [hbA_some])) (by rw [hv.len]; exact hsz) hv.one (by rw [← hsz, ← hv.len, hv'.len]; simp only [hol]; rw [Nat.ble_eq]; exact hin) rfl ?_
                    have hlen : (rs.set m (row.take off ++ ys ++ row.drop (off + ys.length))).length = rs.length := by simp
                    refine .of (st := ⟨st.tm, obu k0 (.ar u sz' (rs.set m (row.take off ++ ys ++ row.drop (off + ys.length)))) st.ob⟩) (ρ := ρ) (G := G) ⟨g.fF, g.fw, g.gF, g.gx, g.fm, g.tm, ?_⟩ k
                    refine g7 (.ar u sz' _) _ ⟨some ⟨b, 0, none⟩, c', _, rfl, g2', ?_, hmid, ?_⟩
                    · rw [hlen]
                      exact ⟨.inr ⟨b, rfl⟩, by rw [spl_length]; exact g3.len, g3.cap, g3.max⟩
                    · intro r hr0
                      rcases List.mem_or_eq_of_mem_set hr0 with h1 | h1
                      · exact g5 r h1
                      · subst h1; simp; omega
              · exact k.elim
            · exact k.out Q c tm h ρ G g
end
end Go.Proofs.Ytgiebofmfkacgaa

/-
  The layer of trees: slice literals, append.
-/
namespace Go.Proofs.Ytgiebofmfkacgaa
open Go.RowKit

def zrepT (z : List Value) : Nat → List Value
  | 0 => []
  | n + 1 => z ++ zrepT z n
theorem zrepT_len {z : List Value} : ∀ n, (zrepT z n).length = n * z.length
  | 0 => by simp [zrepT]
  | n + 1 => by simp [zrepT, zrepT_len n, Nat.succ_mul, Nat.add_comm]
theorem zrepT_get {z : List Value} (hz : 0 < z.length) : ∀ n m, m < n * z.length → (zrepT z n)[m]? = z[m % z.length]?
  | 0, m, h => by simp at h
  | n + 1, m, h => by
    simp only [zrepT]
    rcases Nat.lt_or_ge m z.length with h1 | h1
    · rw [List.getElem?_append_left h1, Nat.mod_eq_of_lt h1]
    · rw [List.getElem?_append_right h1, zrepT_get hz n (m - z.length) (by rw [Nat.succ_mul] at h; omega), ← Nat.mod_eq_sub_mod h1]
theorem zrepT_eq {z : List Value} (n : Nat) : zrepT z n = (List.range (n * z.length)).map fun m => z[m % z.length]! := by
  apply List.ext_getElem?
  intro m
  rcases Nat.lt_or_ge m (n * z.length) with h | h
  · have hz : 0 < z.length := by rcases Nat.eq_zero_or_pos z.length with e | e; · rw [e] at h; simp at h
                                 · exact e
    rw [zrepT_get hz n m h]
    simp [List.getElem?_map, List.getElem?_range h]
    have : m % z.length < z.length := Nat.mod_lt _ hz
    simp [this]
  · rw [List.getElem?_eq_none (by rw [zrepT_len]; exact h), List.getElem?_eq_none (by simp; exact h)]
theorem vzT_den {z : Fz} : ∀ {vs : List Value} {l : List V}, vzT vs = some l → DenVL z l vs
  | [], l, h => by simp [vzT] at h; subst h; exact .nil
  | v :: r, l, h => by
    simp only [vzT] at h
    cases h1 : zeroT v with
    | none => simp [h1] at h
    | some x =>
      cases h2 : vzT r with
      | none => simp [h1, h2] at h
      | some l' =>
        simp only [h1, h2, Option.some.injEq] at h
        subst h
        have hr := vzT_den (z := z) h2
        have hx : DenV z x v := zeroT_den h1
        exact ⟨by simp [hr.len], by simp [hx.one, hr.one], fun j d u e1 e2 => by
          cases j with
          | zero => simp at e1 e2; subst e1 e2; exact hx
          | succ j => exact hr.den j d u (by simpa using e1) (by simpa using e2)⟩
section
variable {ρ : Rho} {z : Fz}
theorem litRows_den {zs : List V} {zv : List Value} (hz : DenVL z zs zv) : ∀ {n : Nat} {l : List (Nat × SV)} {vs : List (Nat × Value)} {i : Nat} {rs : List (List V)} {pre : List Value}, litRows zs n l i = some rs →
    vs.length = l.length → (∀ (j : Nat) i s i' v, l[j]? = some (i, s) → vs[j]? = some (i', v) → i = i' ∧ DenS ρ z s v) → pre.length = i * zv.length →
    ∃ cs, fillV (fun m => some (m * zv.length, zv.length)) (pre ++ zrepT zv n) vs = some (pre ++ cs) ∧ DenVL z rs.flatten cs ∧ rs.length = n ∧ ∀ r ∈ rs, r.length = zv.length
  | 0, [], [], i, rs, pre, h, _, _, _ => by
    simp [litRows] at h
    subst h
    exact ⟨[], by simp [fillV, zrepT], .nil, rfl, by simp⟩
  | 0, [], _ :: _, _, _, _, _, hl, _, _ => by simp at hl
  | 0, _ :: _, _, _, _, _, h, _, _, _ => by simp [litRows] at h
  | n + 1, [], _ :: _, _, _, _, _, hl, _, _ => by simp at hl
  | n + 1, [], [], i, rs, pre, h, _, hp, hpre => by
    simp only [litRows] at h
    cases h1 : litRows zs n [] (i + 1) with
    | none => simp [h1] at h
    | some r =>
      simp only [h1, Option.some.injEq] at h
      subst h
      obtain ⟨cs, q1, q2, q3, q4⟩ := litRows_den hz (pre := pre ++ zv) (vs := []) h1 rfl (by simp) (by simp [hpre, Nat.succ_mul])
      refine ⟨zv ++ cs, ?_, hz.app q2, by simp [q3], ?_⟩
      · simp only [zrepT]
        rw [← List.append_assoc, ← List.append_assoc]
        exact q1
      · intro x hx
        rcases List.mem_cons.1 hx with rfl | hx
        · exact hz.len.symm
        · exact q4 x hx
  | n + 1, (j, s) :: l, [], _, _, _, _, hl, _, _ => by simp at hl
  | n + 1, (j, s) :: l, (j', v) :: vs, i, rs, pre, h, hl, hp, hpre => by
    obtain ⟨rfl, hs⟩ := hp 0 j s j' v rfl rfl
    have hp' : ∀ (k : Nat) i s i' v, l[k]? = some (i, s) → vs[k]? = some (i', v) → i = i' ∧ DenS ρ z s v := fun k i1 s1 i2 v2 e1 e2 => hp (k + 1) i1 s1 i2 v2 (by simpa using e1) (by simpa using e2)
    simp only [litRows] at h
    cases hb : Nat.beq j i
    · rw [hb] at h
      simp only [cond_false] at h
      cases h1 : litRows zs n ((j, s) :: l) (i + 1) with
      | none => simp [h1] at h
      | some r =>
        simp only [h1, Option.some.injEq] at h
        subst h
        obtain ⟨cs, q1, q2, q3, q4⟩ := litRows_den hz (pre := pre ++ zv) (vs := (j, v) :: vs) h1 hl hp (by simp [hpre, Nat.succ_mul])
        refine ⟨zv ++ cs, ?_, hz.app q2, by simp [q3], ?_⟩
        · simp only [zrepT]
          rw [← List.append_assoc, ← List.append_assoc]
          exact q1
        · intro x hx
          rcases List.mem_cons.1 hx with rfl | hx
          · exact hz.len.symm
          · exact q4 x hx
    · rw [hb] at h
      have := Nat.eq_of_beq_eq_true hb
      subst this
      simp only [cond_true] at h
      cases hc : cellsOfT s with
      | none => simp [hc] at h
      | some xs =>
        simp only [hc] at h
        cases hy : borL [] xs with
        | none => simp [hy] at h
        | some ys =>
          simp only [hy] at h
          cases hlen : Nat.beq ys.length zs.length
          · rw [hlen] at h; cases h
          · rw [hlen] at h
            simp only [cond_true] at h
            have hlen' := Nat.eq_of_beq_eq_true hlen
            cases h1 : litRows zs n l (j + 1) with
            | none => simp [h1] at h
            | some r =>
              simp only [h1, Option.some.injEq] at h
              subst h
              have hv := borL_nil_den hy (cellsOfT_den hc hs)
              have hvl : (vcells v).length = zv.length := by rw [hv.len, hlen', hz.len]
              obtain ⟨cs, q1, q2, q3, q4⟩ := litRows_den hz (pre := pre ++ vcells v) h1 (by simpa using hl) hp' (by simp [hpre, Nat.succ_mul, hvl])
              refine ⟨vcells v ++ cs, ?_, hv.app q2, by simp [q3], ?_⟩
              · have e1 : Nat.beq (vcells v).length zv.length = true := by rw [hvl]; exact Nat.beq_refl _
                have e2 : Nat.ble (j * zv.length + (vcells v).length) (pre ++ zrepT zv (n + 1)).length = true := by
                  rw [Nat.ble_eq]; simp [zrepT, hpre, hvl]
                simp only [fillV, e1, e2, Bool.and_self, cond_true]
                have e3 : spl (pre ++ zrepT zv (n + 1)) (j * zv.length) (vcells v) = pre ++ vcells v ++ zrepT zv n := by
                  rw [spl_mid _ _ _ (by simpa [Nat.ble_eq] using e2), ← hpre]
                  simp only [zrepT, List.take_left']
                  rw [List.drop_append, List.drop_of_length_le (by omega)]
                  simp [hvl]
                rw [e3, ← List.append_assoc]
                exact q1
              · intro x hx
                rcases List.mem_cons.1 hx with rfl | hx
                · rw [hlen', hz.len]
                · exact q4 x hx
end
section
variable {P : Program} {T : List (Nat × Ty)} [hT : Tys P T] {nt : Nat} {Q : Exit → Act → World → Prop} {c : Cx} {st : St} {tm : List (Nat × Value)} {h : Hs} {ρ : Rho} {G : FG} {ty : TypeId} {pos : String} {af : Array Edge} {gd : Option (Nat × Bool)} {K : Kt}
theorem buildSlice_keep {t : TypeId} {n : Nat} {ps : Array (Nat × Operand)} {d : Option Tmp} (g : Gd c st tm h ρ G) {kp : Bool} (k : vcM P T nt kp ⟨d, .buildSlice t n ps, ty, pos, af, gd⟩ st.tm st.ob K) : OpS P nt Q ⟨d, .buildSlice t n ps, ty, pos, af, gd⟩ tm h (Kk h c K) := by
  simp only [vcM] at k
  cases d with
  | none => exact k.elim
  | some d =>
    simp only at k
    cases ht : lk t T with
    | none => simp only [ht] at k
    | some i =>
      simp only [ht] at k
      split at k
      · rename_i e hk
        cases hj : lk e T with
        | none => simp only [hj] at k
        | some j =>
          simp only [hj] at k
          cases hv : partsT st.tm ps.toList with
          | none => simp only [hv] at k
          | some l =>
            simp only [hv] at k
            cases hz : vzT j.zero with
            | none => simp only [hz] at k
            | some zs =>
              simp only [hz] at k
              cases hr : litRows zs n l 0 with
              | none => simp only [hr] at k; exact k.out Q c tm h ρ G g
              | some rs =>
                simp only [hr] at k
                cases hb : (Nat.blt d nt && (newN d st.tm st.ob && (Nat.ble (n * j.size) 16777216 && (Nat.beq zs.length j.size && Nat.blt 0 j.size))))
                · rw [hb] at k; exact k.elim
                · rw [hb] at k
                  simp only [Bool.and_eq_true] at hb
                  obtain ⟨F, w0, hp⟩ := h
                  obtain ⟨vs, q1, q2, q3⟩ := partsT_ok g hv
                  have hzd : DenVL ⟨G, w0⟩ zs j.zero := vzT_den hz
                  have hzl : j.zero.length = j.size := by rw [hzd.len]; exact Nat.eq_of_beq_eq_true hb.2.2.2.1
                  obtain ⟨cs, r1, r2, r3, r4⟩ := litRows_den hzd (pre := []) hr q2 q3 (by simp)
                  simp only [List.nil_append] at r1
                  rw [zrepT_eq, hzl] at r1
                  have hcl : cs.length = n * j.size := by rw [r2.len, flat_len r4, r3, hzl]
                  have hpos : 0 < j.size := by simpa [Nat.blt_eq] using hb.2.2.2.2
                  have hps : ps = ps.toList.toArray := by simp
                  rw [hps]
                  refine OpS.buildSlice ht hk hj hb.2.2.1 q1 (by rw [hzl]; exact r1) hb.1 fun b => ?_
                  have ho : ObOk (upd ρ d ⟨some ⟨b, 0, none⟩, n, j.size⟩) ⟨G, w0⟩ d (.ar e j.size rs) [(b, ⟨e, cs, n * j.size⟩)] :=
                    ⟨some ⟨b, 0, none⟩, n, cs, rfl, upd_self, ⟨.inr ⟨b, rfl⟩, by rw [r3]; exact hcl, by omega, by
                      have := hb.2.2.1
                      rw [Nat.ble_eq] at this
                      have h1 : n * 1 ≤ n * j.size := Nat.mul_le_mul_left n hpos
                      unfold maxLen; omega⟩, r2, by rw [← hzl]; exact r4⟩
                  rw [hcl]
                  exact .of (fun w hw => hw.sub (List.sublist_cons_self _ _)) ((g.new hb.2.1 ho).put (.d (.ow upd_self (fun h0 => by cases h0) (Nat.le_refl _)))) k
      · exact k.elim
end
end Go.Proofs.Ytgiebofmfkacgaa

/-
  The layer of trees: append; calls.
-/
namespace Go.Proofs.Ytgiebofmfkacgaa
open Go.RowKit

section
variable {P : Program} {T : List (Nat × Ty)} [hT : Tys P T] {nt : Nat} {Q : Exit → Act → World → Prop} {c : Cx} {st : St} {tm : List (Nat × Value)} {h : Hs} {ρ : Rho} {G : FG} {ty : TypeId} {pos : String} {af : Array Edge} {gd : Option (Nat × Bool)} {K : Kt}
theorem src_den (g : Gd c st tm h ρ G) {s : SV} {rs : List (List V)} {m sz : Nat} {ky : Option Nat} {v : Value} (hr : rowsT st.ob s = some (rs, m, ky)) (hsz : szT st.ob sz s = true) (hm : rs.length = m) (hs : DenS ρ ⟨G, h.w0⟩ s v) :
    ∃ B dd us, v = .slice B m dd ∧ SrcA h B us ∧ DenVL ⟨G, h.w0⟩ rs.flatten us ∧ ∀ r ∈ rs, r.length = sz := by
  unfold rowsT at hr
  split at hr
  · injection hr with hr; injection hr with e1 e2; injection e2 with e2 e3; subst e1 e2
    cases hs with | d hs => cases hs with | u hs => cases hs with | nl => exact ⟨none, 0, [], rfl, .nil, .nil, by simp⟩
  · rename_i sz' rs'
    injection hr with hr; injection hr with e1 e2; injection e2 with e2 e3; subst e1 e2
    cases hs with | d hs => cases hs with | u hs => cases hs with | @sl _ _ A n cc b o us hn hc hm' hrr hA hl hu h1 hd =>
    have : sz' = sz := Nat.eq_of_beq_eq_true hsz
    subst this
    refine ⟨A, cc, us, by rw [hn], ⟨fun w hw h0 => ?_⟩, ⟨hl, h1, hd⟩, hrr⟩
    have hne : rs' ≠ [] := fun e => by subst e; simp at hl; subst hl; simp at h0
    obtain ⟨e1, e2⟩ := hA hne
    exact ⟨b, o, e1, hw.Flt (g.gF b e2), fun j u hj => (hw.same.cell (p := ⟨b, o + j, none⟩) (g.gF b e2)).trans (hu j u hj)⟩
  · split at hr
    · rename_i k n u sz' rs' hk
      injection hr with hr; injection hr with e1 e2; injection e2 with e2 e3; subst e1 e2
      cases hs with | d hs => cases hs with | @ow _ _ l h0 hA hnc =>
      simp only [szT, hk] at hsz
      have := Nat.eq_of_beq_eq_true hsz
      subst this
      obtain ⟨F, w0, hp⟩ := h
      obtain ⟨X, f, ⟨A, cc, us, rfl, g2, g3, g4, g5⟩, g6⟩ := g.ob.at_ hk
      rw [h0] at g2
      injection g2 with g2; subst g2
      exact ⟨A, cc, us, rfl, SrcA.row g6 (by rw [hm] at g3; exact g3), g4, g5⟩
    · cases hr
  · cases hr
theorem hasOb_obr {d k : Nat} : ∀ {ob : List (Nat × Ob)}, hasOb d ob = false → hasOb d (obr k ob) = false
  | [], h => h
  | (j, x) :: r, h => by
    simp only [obr]
    cases hb : Nat.beq k j
    · simp only [cond_false]
      have := hasOb_obr (k := k) (hasOb_tail h)
      cases x with
      | bx ty cs =>
        simp only [hasOb] at h ⊢
        cases hj : Nat.beq j d <;> rw [hj] at h
        · cases hc : hasL d cs <;> rw [hc] at h
          · simpa using this
          · cases h
        · cases h
      | ar ty sz rs =>
        simp only [hasOb] at h ⊢
        cases hj : Nat.beq j d <;> rw [hj] at h
        · simpa using this
        · cases h
      | fm ty rs =>
        simp only [hasOb] at h ⊢
        cases hj : Nat.beq j d <;> rw [hj] at h
        · simpa using this
        · cases h
    · simp only [cond_true]
      exact hasOb_tail h
theorem base_den (g : Gd c st tm h ρ G) {s : SV} {rs : List (List V)} {n sz e : Nat} {kx : Option Nat} {v : Value} (hne : ∀ z r, s ≠ .d (.u (.sl z r))) (hr : rowsT st.ob s = some (rs, n, kx)) (hsz : szT st.ob sz s = true) (hty : tyT st.ob e s = true) (hn : rs.length = n) (hs : DenS ρ ⟨G, h.w0⟩ s v) :
    ∃ A cc us f, v = .slice A n cc ∧ OkA A us n cc sz ∧ RowAt (hbA A e us cc sz) h.hp f ∧ DenVL ⟨G, h.w0⟩ rs.flatten us ∧ (∀ r ∈ rs, r.length = sz) ∧ ObsOk ρ ⟨G, h.w0⟩ (obx kx st.ob) (f []) := by
  unfold rowsT at hr
  split at hr
  · injection hr with hr; injection hr with e1 e2; injection e2 with e2 e3; subst e1 e2 e3
    cases hs with | d hs => cases hs with | u hs => cases hs with | nl => exact ⟨none, 0, [], fun Y => Y ++ h.hp, rfl, OkA.nil sz, RowAt.here (X := []), .nil, by simp, g.ob⟩
  · exact absurd rfl (hne _ _)
  · split at hr
    · rename_i k n' u sz' rs' hk
      injection hr with hr; injection hr with e1 e2; injection e2 with e2 e3; subst e1 e2 e3
      cases hs with | d hs => cases hs with | @ow _ _ l h0 hA hnc =>
      simp only [szT, hk] at hsz
      simp only [tyT, hk] at hty
      have := Nat.eq_of_beq_eq_true hsz
      subst this
      have := Nat.eq_of_beq_eq_true hty
      subst this
      obtain ⟨X, f, ⟨A, cc, us, rfl, g2, g3, g4, g5⟩, g6, _, g8⟩ := g.ob.set hk
      rw [h0] at g2
      injection g2 with g2; subst g2
      exact ⟨A, cc, us, f, rfl, by rw [hn] at g3; exact g3, g6, g4, g5, g8⟩
    · cases hr
  · cases hr
theorem append_sound {xs : Array Operand} {ts : Array TypeId} {d : Option Tmp} (g : Gd c st tm h ρ G) {kp : Bool} (k : vcM P T nt kp ⟨d, .call ⟨.builtin .append, xs, ts⟩, ty, pos, af, gd⟩ st.tm st.ob K) : OpS P nt Q ⟨d, .call ⟨.builtin .append, xs, ts⟩, ty, pos, af, gd⟩ tm h (Kd c K) := by
  simp only [vcM] at k
  cases d with
  | none => exact k.elim
  | some d =>
    simp only at k
    split at k
    · rename_i x y hxs
      split at k
      · rename_i t t' hts
        cases ht : lk t T with
        | none => simp only [ht] at k
        | some i =>
          simp only [ht] at k
          split at k
          · rename_i e hk
            cases hj : lk e T with
            | none => simp only [hj] at k
            | some j =>
              obtain ⟨jk, js, jb, jz⟩ := j
              simp only [hj] at k
              cases hx : evT st.tm x with
              | none => simp only [hx] at k
              | some sx =>
                cases hy : evT st.tm y with
                | none => simp only [hx, hy] at k
                | some sy =>
                  simp only [hx, hy] at k
                  split at k
                  · exact k.out Q c tm h ρ G g
                  · rename_i hne
                    cases hrx : rowsT st.ob sx with
                    | none => simp only [hrx] at k; exact k.out Q c tm h ρ G g
                    | some px =>
                      obtain ⟨rs, n, kx⟩ := px
                      simp only [hrx] at k
                      cases hry : rowsT st.ob sy with
                      | none => simp only [hry] at k; exact k.out Q c tm h ρ G g
                      | some py =>
                        obtain ⟨rs', m, ky⟩ := py
                        simp only [hry] at k
                        cases hb : (Nat.beq t t' && (tyT st.ob e sx && (szT st.ob js sx && (szT st.ob js sy && (Nat.blt d nt && (newN d st.tm st.ob && (Nat.blt 0 js && Nat.beq jz.length js)))))))
                        · rw [hb] at k; exact k.elim
                        · rw [hb] at k
                          simp only [cond_true] at k
                          simp only [Bool.and_eq_true] at hb
                          obtain ⟨h1, h2, h3, h4, h5, h6, h7, h8⟩ := hb
                          have := Nat.eq_of_beq_eq_true h1
                          subst this
                          obtain ⟨hn, hm, hbb, hxx, k⟩ := k
                          obtain ⟨vx, q1, q2⟩ := g.ev hx
                          obtain ⟨vy, r1, r2⟩ := g.ev hy
                          obtain ⟨A, cc, us, f, rfl, b1, b2, b3, b4, b5⟩ := base_den g (e := e) (fun z r e' => hne z r e') hrx h3 h2 hn q2
                          obtain ⟨B, dd, us', rfl, s1, s2, s3⟩ := src_den g hry h4 hm r2
                          obtain ⟨F, w0, hp⟩ := h
                          have hxs' : xs = #[x, y] := by rw [← Array.toArray_toList (xs := xs), hxs]
                          have hts' : ts = #[t, t] := by rw [← Array.toArray_toList (xs := ts), hts]
                          subst hxs' hts'
                          have hul : us'.length = m * js := by rw [s2.len, flat_len s3, hm]
                          refine OpS.appendA q1 r1 ht hk hj (Nat.eq_of_beq_eq_true h8) (by simpa [Nat.blt_eq] using h7) b1 b2 s1 hul (fun u hu => List.all_eq_true.1 s2.one u hu) (by rw [← hn, ← hm]; exact hbb) (by rw [← hn, ← hm]; exact hxx) h5 fun A' c' hA' => ?_
                          have hlen : (rs ++ rs').length = n + m := by rw [List.length_append, hn, hm]
                          have ho : ObOk (upd ρ d ⟨A', c', js⟩) ⟨G, w0⟩ d (.ar e js (rs ++ rs')) (hbA A' e (us ++ us') c' js) :=
                            ⟨A', c', us ++ us', rfl, upd_self, by rw [hlen]; exact hA', by rw [List.flatten_append]; exact b3.app s2, fun r hr => by
                              rcases List.mem_append.1 hr with hr | hr
                              · exact b4 r hr
                              · exact s3 r hr⟩
                          have g0 : Gd c ⟨st.tm, obx kx st.ob⟩ tm ⟨F, w0, f []⟩ ρ G := ⟨g.fF, g.fw, g.gF, g.gx, g.fm, g.tm, b5⟩
                          have hnew : newN d st.tm (obx kx st.ob) = true := by
                            obtain ⟨n1, n2⟩ := newN_tm h6
                            have : hasOb d (obx kx st.ob) = false := by
                              cases kx with
                              | none => exact n2
                              | some k => exact hasOb_obr n2
                            simp only [newN, n1, this, cond_false]
                          have g1 := (g0.new hnew ho).put (d := d) (s := .d (.ow d (rs ++ rs').length)) (v := .slice A' (n + m) c') (by
                            rw [hlen]
                            refine .d (.ow upd_self (fun hA0 => ?_) hA'.cap)
                            rcases hA'.form with ⟨_, h0, _⟩ | ⟨b, hb⟩
                            · exact h0
                            · have : A' = none := hA0
                              rw [hb] at this; cases this)
                          exact ⟨_, _, _, _, fun w hw => hw.perm (b2.perm _), g1, k⟩
          · exact k.out Q c tm h ρ G g
      · exact k.out Q c tm h ρ G g
    · exact k.out Q c tm h ρ G g
end
end Go.Proofs.Ytgiebofmfkacgaa
