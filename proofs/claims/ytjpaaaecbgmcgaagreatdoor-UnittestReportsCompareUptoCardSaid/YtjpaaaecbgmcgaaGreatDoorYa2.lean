/-
  Part 2 of the proofs of ureport_holds, ucompare_holds, ureports_holds: laws and contracts that they need.
-/
import Derived.Test.YtjpaaaecbgmcgaaGreatDoorYa1
import Derived.Laws.StructEq
set_option linter.unusedVariables false
set_option linter.unusedSimpArgs false
namespace Go.Proofs.YtjpaaaecbgmcgaaGreatDoor
open Go.RowKit
inductive V where
 | int (k : IntKind) (n : Int)
 | bool (b : Bool)
 | str (s : ByteArray)
 | nl
 | sl (sz : Nat) (rs : List (List V))
 | pn
 | fn (f : FuncId)
 | v (x : Value)
 | m (k i o : Nat)
 | cl (f : FuncId) (cs : List (List V))
 | fz (vg : Bool) (es : List (List V × List V))
inductive D where
 | u (x : V)
 | ow (k n : Nat)
 | p (k o : Nat)
 | e (k i o : Nat)
 | q (cs : List V) (o : Nat)
 | fn (f : FuncId) (ks : List Nat)
 | mp (k : Nat)
 | r (k i o sz n : Nat)
 | re (k i o j f : Nat)
 | ows (k off n : Nat)
 | any
inductive SC where
 | d (x : D)
 | a (cs : List D)
inductive SV where
 | d (x : D)
 | a (cs : List D)
 | t (vs : List SC)
def SC.up : SC → SV
 | .d x => .d x
 | .a cs => .a cs
structure FG where
 on : Nat → Prop
 fam : Nat → List Nat
 own : Nat → Prop
instance : CoeFun FG (fun _ => Nat → Prop) := ⟨FG.on⟩
def FG.or (G : FG) (B : Nat → Prop) : FG := ⟨fun b => G b ∨ B b,G.fam,G.own⟩
structure Fam (G0 G : FG) : Prop where
 own : G.own = G0.own
 eq : ∀ k,¬ G0.own k → G.fam k = G0.fam k
 gr : ∀ (k i b : Nat),(G0.fam k)[i]? = some b → (G.fam k)[i]? = some b
theorem Fam.refl (G : FG) : Fam G G := ⟨rfl,fun _ _ => rfl,fun _ _ _ h => h⟩
theorem Fam.or {G0 G : FG} {B : Nat → Prop} (h : Fam G0 G) : Fam G0 (G.or B) := ⟨h.own,h.eq,h.gr⟩
theorem Fam.trans {G0 G G1 : FG} (h : Fam G0 G) (h' : Fam G G1) : Fam G0 G1 := ⟨h'.own.trans h.own,fun k hk => (h'.eq k (by rw [h.own];exact hk)).trans (h.eq k hk),fun k i b hb => h'.gr k i b (h.gr k i b hb)⟩
structure Fz where
 G : FG
 w0 : World
structure Loc where
 A : Option Addr
 c : Nat
 sz : Nat
structure Rho where
 loc : Nat → Option Loc
 os : Nat → Nat → Nat → Option Loc
instance : CoeFun Rho (fun _ => Nat → Option Loc) := ⟨Rho.loc⟩
def mcl : Bool → Value → List Value
 | true,.agg us => us.toList
 | _,v => [v]
def rowK (g : Bool) (cs : List V) (v : Value) : Prop := (g = true → ∃ us,v = .agg us) ∧ (mcl g v).length = cs.length ∧ (mcl g v).all Value.oneCell' = true
inductive DenV (z : Fz) : V → Value → Prop
 | int (k : IntKind) (n : Int) : DenV z (.int k n) (.int k n)
 | bool (b : Bool) : DenV z (.bool b) (.bool b)
 | str (s : ByteArray) (hs : s.size ≤ maxLen) : DenV z (.str s) (.string s)
 | nl : DenV z .nl (.slice none 0 0)
 | sl {sz : Nat} {rs : List (List V)} {A : Option Addr} {n c b o : Nat} (us : List Value) (hn : rs.length = n) (hc : n ≤ c) (hm : n ≤ maxLen) (hr : ∀ r ∈ rs,r.length = sz) (hA : rs ≠ [] → A = some ⟨b,o,none⟩ ∧ z.G b)
   (hl : us.length = rs.flatten.length) (hu : ∀ (j : Nat) u,us[j]? = some u → z.w0.cell? ⟨b,o + j,none⟩ = some u) (h1 : us.all Value.oneCell' = true) (hd : ∀ (j : Nat) d u,rs.flatten[j]? = some d → us[j]? = some u → DenV z d u) : DenV z (.sl sz rs) (.slice A n c)
 | pn : DenV z .pn (.pointer none)
 | fn {f : FuncId} : DenV z (.fn f) (.func (.func f) #[] #[])
 | v {x : Value} (h1 : x.oneCell' = true) : DenV z (.v x) x
 | m {k i o b : Nat} (h : (z.G.fam k)[i]? = some b) : DenV z (.m k i o) (.pointer (some ⟨b,o,none⟩))
 | cl {f : FuncId} {cs : List (List V)} (us : List Value) (B O : Nat → Nat) (X : Nat → List Value) (hl : us.length = cs.length) (hu : ∀ (j : Nat) u,us[j]? = some u → u = .pointer (some ⟨B j,O j,none⟩)) (hG : ∀ j,j < cs.length → z.G (B j)) (hX : ∀ (j : Nat) c,cs[j]? = some c → (X j).length = c.length) (h1 : ∀ j,j < cs.length → (X j).all Value.oneCell' = true)
   (hc : ∀ j,j < cs.length → ∀ (i : Nat) x,(X j)[i]? = some x → z.w0.cell? ⟨B j,O j + i,none⟩ = some x) (hd : ∀ (j : Nat) c (i : Nat) d x,cs[j]? = some c → c[i]? = some d → (X j)[i]? = some x → DenV z d x) : DenV z (.cl f cs) (.func (.func f) #[] us.toArray)
 | fz {vg : Bool} {es : List (List V × List V)} {b clock : Nat} {arr : Array MapEntry} (hG : z.G b) (hb : z.w0.heap[b]? = some (.map arr clock)) (hl : arr.toList.length = es.length)
   (hs : ∀ (j : Nat) e m,es[j]? = some e → arr.toList[j]? = some m → rowK false e.1 m.key ∧ rowK vg e.2 m.val)
   (hk : ∀ (j : Nat) e m (i : Nat) d u,es[j]? = some e → arr.toList[j]? = some m → (e.1 ++ e.2)[i]? = some d → (mcl false m.key ++ mcl vg m.val)[i]? = some u → DenV z d u) : DenV z (.fz vg es) (.map (some b))
structure DenVL (z : Fz) (cs : List V) (us : List Value) : Prop where
 len : us.length = cs.length
 one : us.all Value.oneCell' = true
 den : ∀ (j : Nat) d u,cs[j]? = some d → us[j]? = some u → DenV z d u
inductive Den (ρ : Rho) (z : Fz) : D → Value → Prop
 | u {x : V} {v : Value} (h : DenV z x v) : Den ρ z (.u x) v
 | ow {k n : Nat} {l : Loc} (h : ρ k = some l) (hA : l.A = none → n = 0) (hc : n ≤ l.c) : Den ρ z (.ow k n) (.slice l.A n l.c)
 | p {k o b c sz : Nat} (h : ρ k = some ⟨some ⟨b,0,none⟩,c,sz⟩) : Den ρ z (.p k o) (.pointer (some ⟨b,o,none⟩))
 | e {k i o b c sz : Nat} (h : ρ k = some ⟨some ⟨b,0,none⟩,c,sz⟩) : Den ρ z (.e k i o) (.pointer (some ⟨b,i * sz + o,none⟩))
 | q {cs : List V} {o b o' : Nat} {us : List Value} (hb : z.G b) (hu : ∀ (j : Nat) u,us[j]? = some u → z.w0.cell? ⟨b,o' + j,none⟩ = some u) (hd : DenVL z cs us) : Den ρ z (.q cs o) (.pointer (some ⟨b,o' + o,none⟩))
 | fn {f : FuncId} {ks : List Nat} (us : List Value) (hl : us.length = ks.length) (hd : ∀ (j : Nat) k u,ks[j]? = some k → us[j]? = some u → ∃ b c sz,ρ k = some ⟨some ⟨b,0,none⟩,c,sz⟩ ∧ u = .pointer (some ⟨b,0,none⟩)) : Den ρ z (.fn f ks) (.func (.func f) #[] us.toArray)
 | mp {k b : Nat} {l : Loc} (h : ρ k = some l) (hA : l.A = some ⟨b,0,none⟩) : Den ρ z (.mp k) (.map (some b))
 | r {k i o sz n c : Nat} {A : Option Addr} (h : ρ.os k i o = some ⟨A,c,sz⟩) (hA : (A = none ∧ n = 0) ∨ ∃ b,A = some ⟨b,0,none⟩) (hc : n ≤ c) (hm : c ≤ maxLen) : Den ρ z (.r k i o sz n) (.slice A n c)
 | ows {k off n c sz : Nat} {A : Option Addr} (h : ρ k = some ⟨A,c,sz⟩) (hc : off + n ≤ c) : Den ρ z (.ows k off n) (.slice (if c = off then A else A.map (·.add (off * sz))) n (c - off))
 | any {v : Value} (h1 : v.oneCell' = true) : Den ρ z .any v
 | re {k i o j f b c sz : Nat} (h : ρ.os k i o = some ⟨some ⟨b,0,none⟩,c,sz⟩) : Den ρ z (.re k i o j f) (.pointer (some ⟨b,j * sz + f,none⟩))
structure DenL (ρ : Rho) (z : Fz) (cs : List D) (us : List Value) : Prop where
 len : us.length = cs.length
 one : us.all Value.oneCell' = true
 den : ∀ (j : Nat) d u,cs[j]? = some d → us[j]? = some u → Den ρ z d u
inductive DenC (ρ : Rho) (z : Fz) : SC → Value → Prop
 | d {x : D} {v : Value} (h : Den ρ z x v) : DenC ρ z (.d x) v
 | a {cs : List D} {us : List Value} (h : DenL ρ z cs us) : DenC ρ z (.a cs) (.agg us.toArray)
inductive DenS (ρ : Rho) (z : Fz) : SV → Value → Prop
 | d {x : D} {v : Value} (h : Den ρ z x v) : DenS ρ z (.d x) v
 | a {cs : List D} {us : List Value} (h : DenL ρ z cs us) : DenS ρ z (.a cs) (.agg us.toArray)
 | t {ss : List SC} {vs : List Value} (hl : vs.length = ss.length) (hd : ∀ (j : Nat) s v,ss[j]? = some s → vs[j]? = some v → DenC ρ z s v) : DenS ρ z (.t ss) (.tuple vs.toArray)
theorem DenV.one {z : Fz} {d : V} {v : Value} (h : DenV z d v) : v.oneCell' = true := by
 cases h <;> first | rfl | assumption
theorem Den.one {ρ : Rho} {z : Fz} {d : D} {v : Value} (h : Den ρ z d v) : v.oneCell' = true := by
 cases h <;> first | rfl | assumption | (rename_i h;exact h.one)
section
variable {ρ ρ' : Rho} {z z' : Fz}
structure Mz (z z' : Fz) : Prop where
 g : ∀ b,z.G b → z'.G b
 w : ∀ b,z.G b → z'.w0.heap[b]? = z.w0.heap[b]?
 f : ∀ (k i b : Nat),(z.G.fam k)[i]? = some b → (z'.G.fam k)[i]? = some b
theorem Mz.refl : Mz z z := ⟨fun _ h => h,fun _ _ => rfl,fun _ _ _ h => h⟩
theorem Mz.trans {z'' : Fz} (m : Mz z z') (m' : Mz z' z'') : Mz z z'' := ⟨fun b h => m'.g b (m.g b h),fun b h => (m'.w b (m.g b h)).trans (m.w b h),fun k i b h => m'.f k i b (m.f k i b h)⟩
theorem Mz.cell (m : Mz z z') {b o : Nat} (hb : z.G b) : z'.w0.cell? ⟨b,o,none⟩ = z.w0.cell? ⟨b,o,none⟩ := World.cell?_of_block (w := z.w0) (a := ⟨b,o,none⟩) (m.w b hb)
theorem DenV.mono (m : Mz z z') {d : V} {v : Value} (h : DenV z d v) : DenV z' d v := by
 induction h with
 | int k n => exact .int k n
 | bool b => exact .bool b
 | str s hs => exact .str s hs
 | nl => exact .nl
 | @sl sz rs A n c b o us hn hc hm hr hA hl hu h1 hd ih =>
  by_cases hrs : rs = []
  ·subst hrs
   exact .sl (b := b) (o := o) [] hn hc hm hr (fun h => absurd rfl h) (by simp) (fun j u h => by simp at h) rfl (fun j d u h => by simp at h)
  ·exact .sl (b := b) (o := o) us hn hc hm hr (fun h => ⟨(hA h).1,m.g b (hA h).2⟩) hl (fun j u h => (m.cell (hA hrs).2).trans (hu j u h)) h1 ih
 | pn => exact .pn
 | fn => exact .fn
 | v h1 => exact .v h1
 | m h => exact .m (m.f _ _ _ h)
 | cl us B O X hl hu hG hX h1 hc hd ih => exact .cl us B O X hl hu (fun j hj => m.g _ (hG j hj)) hX h1 (fun j hj i x hx => (m.cell (hG j hj)).trans (hc j hj i x hx)) ih
 | fz hG hb hl hs hk ih => exact .fz (m.g _ hG) ((m.w _ hG).trans hb) hl hs ih
theorem DenVL.mono (m : Mz z z') {cs : List V} {us : List Value} (h : DenVL z cs us) : DenVL z' cs us := ⟨h.len,h.one,fun j d u h1 h2 => (h.den j d u h1 h2).mono m⟩
structure Mr (ρ ρ' : Rho) : Prop where
 l : ∀ k l,ρ k = some l → ρ' k = some l
 o : ∀ k i o l,ρ.os k i o = some l → ρ'.os k i o = some l
theorem Mr.refl : Mr ρ ρ := ⟨fun _ _ h => h,fun _ _ _ _ h => h⟩
theorem Den.mono (m : Mz z z') (r : Mr ρ ρ') {d : D} {v : Value} (h : Den ρ z d v) : Den ρ' z' d v := by
 cases h with
 | u h => exact .u (h.mono m)
 | ow h hA hc => exact .ow (r.l _ _ h) hA hc
 | p h => exact .p (r.l _ _ h)
 | e h => exact .e (r.l _ _ h)
 | q hb hu hd => exact .q (m.g _ hb) (fun j u h => (m.cell hb).trans (hu j u h)) (hd.mono m)
 | fn us hl hd =>
  refine .fn us hl fun j k u h1 h2 => ?_
  obtain ⟨b,c,sz,h3,h4⟩ := hd j k u h1 h2
  exact ⟨b,c,sz,r.l _ _ h3,h4⟩
 | mp h hA => exact .mp (r.l _ _ h) hA
 | r h hA hc hm => exact .r (r.o _ _ _ _ h) hA hc hm
 | re h => exact .re (r.o _ _ _ _ h)
 | ows h hc => exact .ows (r.l _ _ h) hc
 | any h1 => exact .any h1
theorem DenL.mono (m : Mz z z') (r : Mr ρ ρ') {cs : List D} {us : List Value} (h : DenL ρ z cs us) : DenL ρ' z' cs us := ⟨h.len,h.one,fun j d u h1 h2 => (h.den j d u h1 h2).mono m r⟩
theorem DenC.mono (m : Mz z z') (r : Mr ρ ρ') {s : SC} {v : Value} (h : DenC ρ z s v) : DenC ρ' z' s v := by
 cases h with
 | d h => exact .d (h.mono m r)
 | a h => exact .a (h.mono m r)
theorem DenC.up {s : SC} {v : Value} (h : DenC ρ z s v) : DenS ρ z s.up v := by
 cases h with
 | d h => exact .d h
 | a h => exact .a h
theorem DenS.mono (m : Mz z z') (r : Mr ρ ρ') {s : SV} {v : Value} (h : DenS ρ z s v) : DenS ρ' z' s v := by
 cases h with
 | d h => exact .d (h.mono m r)
 | a h => exact .a (h.mono m r)
 | t hl hd => exact .t hl fun j s v h1 h2 => (hd j s v h1 h2).mono m r
end
inductive E where
 | v (x : V)
 | os (ty sz : Nat) (rs : List (List V))
 | hl
inductive Ob where
 | bx (ty : TypeId) (cs : List D)
 | ar (ty : TypeId) (sz : Nat) (rs : List (List V))
 | fm (ty : TypeId) (rs : List (List E))
 | mp (kg vg : Bool) (es : List (List V × List V))
 | fa (ty : TypeId) (sz : Nat) (rs : List (List E))
 | ab (cs : List D) (us : List Value) (zb : Fz) (φ : List (Nat × Hb) → Prop)
def DenW (z : Fz) (g : Bool) (cs : List V) (v : Value) : Prop := match g with
 | true => ∃ us : List Value,v = .agg us.toArray ∧ DenVL z cs us
 | false => ∃ c,cs = [c] ∧ DenV z c v
structure EntsOk (z : Fz) (kg vg : Bool) (es : List (List V × List V)) (vs : List (Value × Value)) : Prop where
 len : vs.length = es.length
 den : ∀ (j : Nat) e p,es[j]? = some e → vs[j]? = some p → DenW z kg e.1 p.1 ∧ DenW z vg e.2 p.2
structure St where
 tm : List (Nat × SV)
 ob : List (Nat × Ob)
def CellOk (ρ : Rho) (z : Fz) (k i o : Nat) : E → Value → List (Nat × Hb) → Prop
 | .v x,u,X => X = [] ∧ DenV z x u
 | .os ty sz rs,u,X => ∃ A c us,X = hbA A ty us c sz ∧ u = .slice A rs.length c ∧ ρ.os k i o = some ⟨A,c,sz⟩ ∧ OkA A us rs.length c sz ∧ DenVL z rs.flatten us ∧ (∀ r ∈ rs,r.length = sz)
 | .hl,u,X => X = [] ∧ u.oneCell' = true
inductive CellsOk (ρ : Rho) (z : Fz) (k i : Nat) : Nat → List E → List Value → List (Nat × Hb) → Prop
 | nil {o : Nat} : CellsOk ρ z k i o [] [] []
 | cons {o : Nat} {e : E} {u : Value} {X : List (Nat × Hb)} {es : List E} {us : List Value} {Y : List (Nat × Hb)} : CellOk ρ z k i o e u X → CellsOk ρ z k i (o + 1) es us Y → CellsOk ρ z k i o (e :: es) (u :: us) (X ++ Y)
inductive FamOk (ρ : Rho) (z : Fz) (k : Nat) (ty : TypeId) : Nat → List Nat → List (List E) → List (Nat × Hb) → Prop
 | nil {i : Nat} : FamOk ρ z k ty i [] [] []
 | cons {i b : Nat} {bs : List Nat} {row : List E} {rows : List (List E)} {us : List Value} {X Y : List (Nat × Hb)} : CellsOk ρ z k i 0 row us X → FamOk ρ z k ty (i + 1) bs rows Y → FamOk ρ z k ty i (b :: bs) (row :: rows) ((b,⟨ty,us,us.length⟩) :: X ++ Y)
inductive FaOk (ρ : Rho) (z : Fz) (k : Nat) : Nat → List (List E) → List Value → List (Nat × Hb) → Prop
 | nil {i : Nat} : FaOk ρ z k i [] [] []
 | cons {i : Nat} {row : List E} {rows : List (List E)} {us vs : List Value} {X Y : List (Nat × Hb)} : CellsOk ρ z k i 0 row us X → FaOk ρ z k (i + 1) rows vs Y → FaOk ρ z k i (row :: rows) (us ++ vs) (X ++ Y)
def ObOk (ρ : Rho) (z : Fz) (k : Nat) : Ob → List (Nat × Hb) → Prop
 | .bx ty cs,X => ∃ b us,X = [(b,⟨ty,us,cs.length⟩)] ∧ ρ k = some ⟨some ⟨b,0,none⟩,1,cs.length⟩ ∧ DenL ρ z cs us
 | .ar ty sz rs,X => ∃ A c us,X = hbA A ty us c sz ∧ ρ k = some ⟨A,c,sz⟩ ∧ OkA A us rs.length c sz ∧ DenVL z rs.flatten us ∧ (∀ r ∈ rs,r.length = sz)
 | .fm ty rs,X => FamOk ρ z k ty 0 (z.G.fam k) rs X ∧ z.G.own k
 | .mp kg vg es,X => ∃ b vs,X = [(b,⟨0,[],.m vs⟩)] ∧ ρ k = some ⟨some ⟨b,0,none⟩,1,0⟩ ∧ EntsOk z kg vg es vs
 | .fa ty sz rs,X => ∃ A c us Y,X = hbA A ty us c sz ++ Y ∧ ρ k = some ⟨A,c,sz⟩ ∧ OkA A us rs.length c sz ∧ FaOk ρ z k 0 rs us Y ∧ (∀ r ∈ rs,r.length = sz)
 | .ab cs us zb φ,X => φ X ∧ Mz zb z ∧ DenL ρ z cs us
def ObsOk (ρ : Rho) (z : Fz) : List (Nat × Ob) → List (Nat × Hb) → Prop
 | [],hp => hp = []
 | (k,o) :: r,hp => ∃ X hp',hp = X ++ hp' ∧ ObOk ρ z k o X ∧ ObsOk ρ z r hp'
structure Cx where
 F : Nat → Prop
 w : World
 G : FG
structure Gd (c : Cx) (st : St) (tm : List (Nat × Value)) (h : Hs) (ρ : Rho) (G : FG) : Prop where
 fF : ∀ b,c.F b → h.F b
 fw : Same c.F c.w h.w0
 gF : ∀ b,G b → h.F b
 gx : ∀ b,G b → c.G b ∨ ¬ c.F b
 fm : Fam c.G G
 tm : ∀ k s,lk k st.tm = some s → ∃ v,lk k tm = some v ∧ DenS ρ ⟨G,h.w0⟩ s v
 ob : ObsOk ρ ⟨G,h.w0⟩ st.ob h.hp
def Kd (c : Cx) (K : List (Nat × SV) → List (Nat × Ob) → Prop) (tm : List (Nat × Value)) (h : Hs) : Prop := ∃ st ρ G h',(∀ w,Hp h w → Hp h' w) ∧ Gd c st tm h' ρ G ∧ K st.tm st.ob
def zeroT : Value → Option V
 | .int k n => some (.int k n)
 | .bool b => some (.bool b)
 | .string s => bif Nat.ble s.size 1000000 then some (.str s) else none
 | .slice none 0 0 => some .nl
 | .pointer none => some .pn
 | .map none => some (.v (.map none))
 | .nilFunc => some (.v .nilFunc)
 | .nilIface => some (.v .nilIface)
 | _ => none
theorem zeroT_den {z : Fz} {v : Value} {x : V} (h : zeroT v = some x) : DenV z x v := by
 unfold zeroT at h
 split at h
 all_goals first | (cases h;done) | (injection h with h;subst h;first | exact .int _ _ | exact .bool _ | exact .nl | exact .pn | exact .v rfl) | skip
 rename_i s
 cases hb : Nat.ble s.size 1000000 <;> rw [hb] at h
 ·cases h
 ·injection h with h
  subst h
  rw [Nat.ble_eq] at hb
  exact .str _ (by unfold maxLen;omega)
def evT (tm : List (Nat × SV)) : Operand → Option SV
 | .tmp t => lk t tm
 | .const v => match zeroT v with
  | some x => some (.d (.u x))
  | none => none
 | .global _ => none
 | .func f => some (.d (.u (.fn f)))
theorem Gd.ev {c : Cx} {st : St} {tm : List (Nat × Value)} {h : Hs} {ρ : Rho} {G : FG} (g : Gd c st tm h ρ G) {x : Operand} {s : SV} (hx : evT st.tm x = some s) : ∃ v,ev tm x = some v ∧ DenS ρ ⟨G,h.w0⟩ s v := by
 cases x with
 | tmp t => exact g.tm t s hx
 | const v =>
  simp only [evT] at hx
  cases hz : zeroT v with
  | none => simp [hz] at hx
  | some y =>
   simp only [hz,Option.some.injEq] at hx
   subst hx
   exact ⟨_,rfl,.d (.u (zeroT_den hz))⟩
 | global g => cases hx
 | func f =>
  simp only [evT,Option.some.injEq] at hx
  subst hx
  exact ⟨_,rfl,.d (.u .fn)⟩
theorem Gd.put {c : Cx} {st : St} {tm : List (Nat × Value)} {h : Hs} {ρ : Rho} {G : FG} (g : Gd c st tm h ρ G) {d : Nat} {s : SV} {v : Value} (hs : DenS ρ ⟨G,h.w0⟩ s v) : Gd c ⟨(d,s) :: st.tm,st.ob⟩ ((d,v) :: tm) h ρ G :=
 ⟨g.fF,g.fw,g.gF,g.gx,g.fm,fun k u hk => by
  simp only [lk] at hk ⊢
  cases hb : Nat.beq k d
  ·rw [hb] at hk;exact g.tm k u hk
  ·rw [hb] at hk
   simp only [cond_true,Option.some.injEq] at hk
   subst hk
   exact ⟨v,rfl,hs⟩,g.ob⟩
end Go.Proofs.YtjpaaaecbgmcgaaGreatDoor
/-
 The layer of trees: operations that only yield a value.
-/
namespace Go.Proofs.YtjpaaaecbgmcgaaGreatDoor
open Go.RowKit
section
variable {ρ : Rho} {z : Fz}
theorem CellOk.mono {ρ' : Rho} {z' : Fz} (m : Mz z z') (r : Mr ρ ρ') {k i o : Nat} {e : E} {u : Value} {X : List (Nat × Hb)} (h : CellOk ρ z k i o e u X) : CellOk ρ' z' k i o e u X := by
 cases e with
 | v x => exact ⟨h.1,h.2.mono m⟩
 | os ty sz rs => obtain ⟨A,c,us,h1,h2,h3,h4,h5,h6⟩ := h;exact ⟨A,c,us,h1,h2,r.o _ _ _ _ h3,h4,h5.mono m,h6⟩
 | hl => exact h
theorem CellsOk.mono {ρ' : Rho} {z' : Fz} (m : Mz z z') (r : Mr ρ ρ') {k i o : Nat} {es : List E} {us : List Value} {X : List (Nat × Hb)} (h : CellsOk ρ z k i o es us X) : CellsOk ρ' z' k i o es us X := by
 induction h with
 | nil => exact .nil
 | cons h _ ih => exact .cons (h.mono m r) ih
theorem FamOk.mono {ρ' : Rho} {z' : Fz} (m : Mz z z') (r : Mr ρ ρ') {k : Nat} {ty : TypeId} {i : Nat} {bs : List Nat} {rs : List (List E)} {X : List (Nat × Hb)} (h : FamOk ρ z k ty i bs rs X) : FamOk ρ' z' k ty i bs rs X := by
 induction h with
 | nil => exact .nil
 | cons h _ ih => exact .cons (h.mono m r) ih
theorem FaOk.mono {ρ' : Rho} {z' : Fz} (m : Mz z z') (r : Mr ρ ρ') {k i : Nat} {rs : List (List E)} {us : List Value} {X : List (Nat × Hb)} (h : FaOk ρ z k i rs us X) : FaOk ρ' z' k i rs us X := by
 induction h with
 | nil => exact .nil
 | cons h _ ih => exact .cons (h.mono m r) ih
def Fms (z z' : Fz) (k : Nat) (o : Ob) : Prop := match o with
 | .fm _ _ => z'.G.fam k = z.G.fam k ∧ (z.G.own k → z'.G.own k)
 | _ => True
theorem Fms.of {z z' : Fz} {k : Nat} {o : Ob} (h : ∀ t rs,o = .fm t rs → z'.G.fam k = z.G.fam k ∧ (z.G.own k → z'.G.own k)) : Fms z z' k o := by
 cases o <;> simp only [Fms]
 exact h _ _ rfl
theorem Fms.same {z z' : Fz} (h1 : z'.G.fam = z.G.fam) (h2 : z'.G.own = z.G.own) (k : Nat) (o : Ob) : Fms z z' k o := by
 cases o <;> simp only [Fms]
 exact ⟨by rw [h1],by rw [h2];exact id⟩
theorem DenW.mono {z' : Fz} (m : Mz z z') {g : Bool} {cs : List V} {v : Value} (h : DenW z g cs v) : DenW z' g cs v := by
 cases g
 ·obtain ⟨c,h1,h2⟩ := h;exact ⟨c,h1,h2.mono m⟩
 ·obtain ⟨us,h1,h2⟩ := h;exact ⟨us,h1,h2.mono m⟩
theorem EntsOk.mono {z' : Fz} (m : Mz z z') {kg vg : Bool} {es : List (List V × List V)} {vs : List (Value × Value)} (h : EntsOk z kg vg es vs) : EntsOk z' kg vg es vs :=
 ⟨h.len,fun j e p h1 h2 => ⟨(h.den j e p h1 h2).1.mono m,(h.den j e p h1 h2).2.mono m⟩⟩
theorem DenW.of_rk {g : Bool} {cs : List V} {v : Value} (h : rowK g cs v) (k : ∀ (i : Nat) d u,cs[i]? = some d → (mcl g v)[i]? = some u → DenV z d u) : DenW z g cs v := by
 obtain ⟨h0,h1,h2⟩ := h
 cases g
 ·have h1 : 1 = cs.length := h1
  match cs,h1 with
  | [c],_ => exact ⟨c,rfl,k 0 c v rfl rfl⟩
 ·obtain ⟨us,rfl⟩ := h0 rfl
  exact ⟨us.toList,by simp,h1,h2,k⟩
theorem DenV.fz_inv {vg : Bool} {es : List (List V × List V)} {v : Value} (h : DenV z (.fz vg es) v) : ∃ b clock arr,v = .map (some b) ∧ z.G b ∧ z.w0.heap[b]? = some (.map arr clock) ∧ EntsOk z false vg es (arr.toList.map fun e => (e.key,e.val)) := by
 cases h with | @fz _ _ b clock arr hG hb hl hs hk =>
 refine ⟨b,clock,arr,rfl,hG,hb,by simpa using hl,fun j e p e1 e2 => ?_⟩
 rw [List.getElem?_map] at e2
 cases hm : arr.toList[j]? with
 | none => rw [hm] at e2;cases e2
 | some m =>
  rw [hm] at e2
  injection e2 with e2
  subst e2
  obtain ⟨h1,h2⟩ := hs j e m e1 hm
  refine ⟨.of_rk h1 fun i d u f1 f2 => hk j e m i d u e1 hm ?_ ?_,.of_rk h2 fun i d u f1 f2 => hk j e m (e.1.length + i) d u e1 hm ?_ ?_⟩
  ·rw [List.getElem?_append_left (List.getElem?_eq_some_iff.1 f1).1];exact f1
  ·rw [List.getElem?_append_left (List.getElem?_eq_some_iff.1 f2).1];exact f2
  ·rw [List.getElem?_append_right (by omega),Nat.add_sub_cancel_left];exact f1
  ·rw [List.getElem?_append_right (by rw [h1.2.1];omega),h1.2.1,Nat.add_sub_cancel_left];exact f2
theorem ObOk.mono {ρ' : Rho} {z' : Fz} (m : Mz z z') (r : Mr ρ ρ') {k : Nat} {o : Ob} {X : List (Nat × Hb)} (hf : Fms z z' k o) (h : ObOk ρ z k o X) : ObOk ρ' z' k o X := by
 cases o with
 | bx ty cs => obtain ⟨b,us,h1,h2,h3⟩ := h;exact ⟨b,us,h1,r.l _ _ h2,h3.mono m r⟩
 | ar ty sz rs => obtain ⟨A,c,us,h1,h2,h3,h4,h5⟩ := h;exact ⟨A,c,us,h1,r.l _ _ h2,h3,h4.mono m,h5⟩
 | fm ty rs => exact ⟨by rw [hf.1];exact h.1.mono m r,hf.2 h.2⟩
 | mp kg vg es => obtain ⟨b,vs,h1,h2,h3⟩ := h;exact ⟨b,vs,h1,r.l _ _ h2,h3.mono m⟩
 | fa ty sz rs => obtain ⟨A,c,us,Y,h1,h2,h3,h4,h5⟩ := h;exact ⟨A,c,us,Y,h1,r.l _ _ h2,h3,h4.mono m r,h5⟩
 | ab cs us zb φ => exact ⟨h.1,h.2.1.trans m,h.2.2.mono m r⟩
theorem ObsOk.monoF {ρ' : Rho} {z' : Fz} (m : Mz z z') (r : Mr ρ ρ') : ∀ {ob : List (Nat × Ob)} {hp : List (Nat × Hb)},(∀ k o,(k,o) ∈ ob → Fms z z' k o) → ObsOk ρ z ob hp → ObsOk ρ' z' ob hp
 | [],_,_,h => h
 | (_,_) :: _,_,hf,⟨X,hp',h1,h2,h3⟩ => ⟨X,hp',h1,h2.mono m r (hf _ _ List.mem_cons_self),h3.monoF m r fun k o hm => hf k o (List.mem_cons_of_mem _ hm)⟩
theorem ObsOk.mono {ρ' : Rho} {z' : Fz} (m : Mz z z') (r : Mr ρ ρ') {ob : List (Nat × Ob)} {hp : List (Nat × Hb)} (h : ObsOk ρ z ob hp) (h1 : z'.G.fam = z.G.fam := by rfl) (h2 : z'.G.own = z.G.own := by rfl) : ObsOk ρ' z' ob hp :=
 h.monoF m r fun k o _ => .same h1 h2 k o
theorem ObsOk.at_ : ∀ {ob : List (Nat × Ob)} {hp : List (Nat × Hb)} {k : Nat} {o : Ob},ObsOk ρ z ob hp → lk k ob = some o → ∃ X f,ObOk ρ z k o X ∧ RowAt X hp f
 | [],_,_,_,_,h => by simp [lk] at h
 | (j,x) :: r,hp,k,o,⟨X,hp',h1,h2,h3⟩,h => by
  simp only [lk] at h
  cases hb : Nat.beq k j
  ·rw [hb] at h
   obtain ⟨Y,f,g1,g2⟩ := h3.at_ h
   subst h1
   exact ⟨Y,_,g1,.skip g2⟩
  ·rw [hb] at h
   simp only [cond_true,Option.some.injEq] at h
   subst h h1
   rw [Nat.eq_of_beq_eq_true hb]
   exact ⟨X,_,h2,.here⟩
theorem DenVL.nil : DenVL z [] [] := ⟨rfl,rfl,fun _ _ _ h => by simp at h⟩
theorem DenVL.up {cs : List V} {us : List Value} (h : DenVL z cs us) : DenL ρ z (cs.map .u) us := ⟨by simp [h.len],h.one,fun j d u h1 h2 => by
 rw [List.getElem?_map] at h1
 cases hj : cs[j]? with
 | none => rw [hj] at h1;cases h1
 | some x => rw [hj] at h1;simp at h1;subst h1;exact .u (h.den j x u hj h2)⟩
theorem DenVL.get {cs : List V} {us : List Value} (h : DenVL z cs us) {j : Nat} {d : V} (hd : cs[j]? = some d) : ∃ u,us[j]? = some u ∧ DenV z d u := by
 have hj : j < us.length := by rw [h.len];exact (List.getElem?_eq_some_iff.1 hd).1
 exact ⟨us[j],List.getElem?_eq_getElem hj,h.den j d _ hd (List.getElem?_eq_getElem hj)⟩
theorem DenVL.part {cs : List V} {us : List Value} (h : DenVL z cs us) {l : List V} {o : Nat} (hl : ∀ j d,l[j]? = some d → cs[o + j]? = some d) : ∃ vs,DenVL z l vs ∧ ∀ (j : Nat) v,vs[j]? = some v → us[o + j]? = some v := by
 refine ⟨(us.drop o).take l.length,⟨?_,?_,?_⟩,?_⟩
 ·rw [List.length_take,List.length_drop,Nat.min_eq_left]
  rcases Nat.eq_zero_or_pos l.length with h0 | h0
  ·omega
  ·have := hl (l.length - 1) _ (List.getElem?_eq_getElem (by omega))
   have := (List.getElem?_eq_some_iff.1 this).1
   rw [h.len];omega
 ·rw [List.all_eq_true]
  intro x hx
  exact List.all_eq_true.1 h.one x (List.mem_of_mem_drop (List.mem_of_mem_take hx))
 ·intro j d u h1 h2
  have hj : j < l.length := (List.getElem?_eq_some_iff.1 h1).1
  rw [List.getElem?_take_of_lt hj,List.getElem?_drop] at h2
  exact h.den _ d u (hl j d h1) h2
 ·intro j v hv
  have hj : j < l.length := by
   have := (List.getElem?_eq_some_iff.1 hv).1
   simp at this;omega
  rwa [List.getElem?_take_of_lt hj,List.getElem?_drop] at hv
theorem DenVL.app {cs ds : List V} {us vs : List Value} (h : DenVL z cs us) (h' : DenVL z ds vs) : DenVL z (cs ++ ds) (us ++ vs) := ⟨by simp [h.len,h'.len],by simp [h.one,h'.one],fun j d u h1 h2 => by
 rcases Nat.lt_or_ge j cs.length with hj | hj
 ·rw [List.getElem?_append_left hj] at h1
  rw [List.getElem?_append_left (by rw [h.len];exact hj)] at h2
  exact h.den j d u h1 h2
 ·rw [List.getElem?_append_right hj] at h1
  rw [List.getElem?_append_right (by rw [h.len];exact hj),h.len] at h2
  exact h'.den _ d u h1 h2⟩
theorem DenL.nil : DenL ρ z [] [] := ⟨rfl,rfl,fun _ _ _ h => by simp at h⟩
theorem DenL.get {cs : List D} {us : List Value} (h : DenL ρ z cs us) {j : Nat} {d : D} (hd : cs[j]? = some d) : ∃ u,us[j]? = some u ∧ Den ρ z d u := by
 have hj : j < us.length := by rw [h.len];exact (List.getElem?_eq_some_iff.1 hd).1
 exact ⟨us[j],List.getElem?_eq_getElem hj,h.den j d _ hd (List.getElem?_eq_getElem hj)⟩
theorem DenL.part {cs : List D} {us : List Value} (h : DenL ρ z cs us) {l : List D} {o : Nat} (hl : ∀ j d,l[j]? = some d → cs[o + j]? = some d) : ∃ vs,DenL ρ z l vs ∧ ∀ (j : Nat) v,vs[j]? = some v → us[o + j]? = some v := by
 refine ⟨(us.drop o).take l.length,⟨?_,?_,?_⟩,?_⟩
 ·rw [List.length_take,List.length_drop,Nat.min_eq_left]
  rcases Nat.eq_zero_or_pos l.length with h0 | h0
  ·omega
  ·have := hl (l.length - 1) _ (List.getElem?_eq_getElem (by omega))
   have := (List.getElem?_eq_some_iff.1 this).1
   rw [h.len];omega
 ·rw [List.all_eq_true]
  intro x hx
  exact List.all_eq_true.1 h.one x (List.mem_of_mem_drop (List.mem_of_mem_take hx))
 ·intro j d u h1 h2
  have hj : j < l.length := (List.getElem?_eq_some_iff.1 h1).1
  rw [List.getElem?_take_of_lt hj,List.getElem?_drop] at h2
  exact h.den _ d u (hl j d h1) h2
 ·intro j v hv
  have hj : j < l.length := by
   have := (List.getElem?_eq_some_iff.1 hv).1
   simp at this;omega
  rwa [List.getElem?_take_of_lt hj,List.getElem?_drop] at hv
theorem DenL.one_ {d : D} {u : Value} (h : Den ρ z d u) : DenL ρ z [d] [u] := ⟨rfl,by simp [h.one],fun j d' u' h1 h2 => by
 cases j with
 | zero => simp at h1 h2;subst h1 h2;exact h
 | succ j => simp at h1⟩
theorem DenL.cons {d : D} {u : Value} {cs : List D} {us : List Value} (h : Den ρ z d u) (hs : DenL ρ z cs us) : DenL ρ z (d :: cs) (u :: us) := ⟨by simp [hs.len],by simp [h.one,hs.one],fun j d' u' h1 h2 => by
 cases j with
 | zero => simp at h1 h2;subst h1 h2;exact h
 | succ j => exact hs.den j d' u' (by simpa using h1) (by simpa using h2)⟩
theorem DenL.app {cs ds : List D} {us vs : List Value} (h : DenL ρ z cs us) (h' : DenL ρ z ds vs) : DenL ρ z (cs ++ ds) (us ++ vs) := ⟨by simp [h.len,h'.len],by simp [h.one,h'.one],fun j d u h1 h2 => by
 rcases Nat.lt_or_ge j cs.length with hj | hj
 ·rw [List.getElem?_append_left hj] at h1
  rw [List.getElem?_append_left (by rw [h.len];exact hj)] at h2
  exact h.den j d u h1 h2
 ·rw [List.getElem?_append_right hj] at h1
  rw [List.getElem?_append_right (by rw [h.len];exact hj),h.len] at h2
  exact h'.den _ d u h1 h2⟩
end
theorem flat_get {α : Type} {sz : Nat} : ∀ {rs : List (List α)} {i : Nat} {row : List α},(∀ r ∈ rs,r.length = sz) → rs[i]? = some row → ∀ (j : Nat) d,row[j]? = some d → rs.flatten[i * sz + j]? = some d
 | [],_,_,_,h,_,_,_ => by simp at h
 | r :: rs,0,row,hr,h,j,d,hd => by
  simp at h
  subst h
  rw [Nat.zero_mul,Nat.zero_add,List.flatten_cons,List.getElem?_append_left (List.getElem?_eq_some_iff.1 hd).1]
  exact hd
 | r :: rs,i + 1,row,hr,h,j,d,hd => by
  have h1 := hr r List.mem_cons_self
  have := flat_get (fun x hx => hr x (List.mem_cons_of_mem _ hx)) (by simpa using h) j d hd
  rw [List.flatten_cons,List.getElem?_append_right (by rw [h1,Nat.succ_mul];omega),h1]
  rw [show (i + 1) * sz + j - sz = i * sz + j by rw [Nat.succ_mul];omega]
  exact this
theorem flat_len {α : Type} {sz : Nat} : ∀ {rs : List (List α)},(∀ r ∈ rs,r.length = sz) → rs.flatten.length = rs.length * sz
 | [],_ => by simp
 | r :: rs,h => by
  have h1 := h r List.mem_cons_self
  have := flat_len (rs := rs) (fun x hx => h x (List.mem_cons_of_mem _ hx))
  simp only [List.flatten_cons,List.length_append,h1,this,List.length_cons,Nat.succ_mul];omega
def cutT {α : Type} (cs : List α) : Nat → Nat → Option (List α)
 | _,0 => some []
 | o,n + 1 => match nth cs o with
  | none => none
  | some v => match cutT cs (o + 1) n with
   | none => none
   | some l => some (v :: l)
theorem cutT_get {α : Type} {cs : List α} : ∀ {n o : Nat} {l : List α},cutT cs o n = some l → l.length = n ∧ ∀ j u,l[j]? = some u → cs[o + j]? = some u
 | 0,o,l,h => by simp [cutT] at h;subst h;simp
 | n + 1,o,l,h => by
  simp only [cutT] at h
  cases h1 : nth cs o with
  | none => simp [h1] at h
  | some v =>
   cases h2 : cutT cs (o + 1) n with
   | none => simp [h1,h2] at h
   | some l' =>
    simp only [h1,h2,Option.some.injEq] at h
    subst h
    have ih := cutT_get h2
    refine ⟨by simp [ih.1],fun j u hu => ?_⟩
    cases j with
    | zero => rw [nth_eq] at h1;simpa using h1.trans (by simpa using hu)
    | succ j => have := ih.2 j u (by simpa using hu);rwa [show o + 1 + j = o + (j + 1) by omega] at this
def upT : List V → List D
 | [] => []
 | x :: r => .u x :: upT r
theorem upT_map : ∀ cs : List V,upT cs = cs.map .u
 | [] => rfl
 | x :: r => by simp [upT,upT_map r]
def cellsT (ob : List (Nat × Ob)) : SV → Option (List D × Nat)
 | .d (.p k o) => match lk k ob with
  | some (.bx _ cs) => some (cs,o)
  | _ => none
 | .d (.q cs o) => some (upT cs,o)
 | _ => none
def plusT : SV → Nat → Option SV
 | .d (.p k o),n => some (.d (.p k (o + n)))
 | .d (.e k i o),n => some (.d (.e k i (o + n)))
 | .d (.q cs o),n => some (.d (.q cs (o + n)))
 | .d (.u (.m k i o)),n => some (.d (.u (.m k i (o + n))))
 | .d (.re k i o j f),n => some (.d (.re k i o j (f + n)))
 | _,_ => none
theorem plusT_den {ρ : Rho} {z : Fz} {s s' : SV} {n : Nat} {v : Value} (hp : plusT s n = some s') (h : DenS ρ z s v) : ∃ b o,v = .pointer (some ⟨b,o,none⟩) ∧ DenS ρ z s' (.pointer (some ⟨b,o + n,none⟩)) := by
 unfold plusT at hp
 split at hp
 ·injection hp with hp;subst hp
  cases h with | d h => cases h with | p h => exact ⟨_,_,rfl,.d (.p h)⟩
 ·injection hp with hp;subst hp
  cases h with | d h => cases h with | e h => exact ⟨_,_,rfl,.d (by rw [Nat.add_assoc];exact .e h)⟩
 ·injection hp with hp;subst hp
  cases h with | d h => cases h with | q hb hu hd => exact ⟨_,_,rfl,.d (by rw [Nat.add_assoc];exact .q hb hu hd)⟩
 ·injection hp with hp;subst hp
  cases h with | d h => cases h with | u h => cases h with | m h => exact ⟨_,_,rfl,.d (.u (.m h))⟩
 ·injection hp with hp;subst hp
  cases h with | d h => cases h with | re h => exact ⟨_,_,rfl,.d (by rw [Nat.add_assoc];exact .re h)⟩
 ·cases hp
theorem hbA_some {g : Nat} {e : TypeId} {xs : List Value} {c size : Nat} : hbA (some ⟨g,0,none⟩) e xs c size = [(g,⟨e,xs,c * size⟩)] := rfl
theorem RowAt.mem {X hp : List (Nat × Hb)} {f : List (Nat × Hb) → List (Nat × Hb)} (r : RowAt X hp f) {p : Nat × Hb} (hp' : p ∈ X) : p ∈ hp := by
 induction r with
 | here => exact List.mem_append_left _ hp'
 | there _ ih => exact List.mem_cons_of_mem _ ih
 | skip _ ih => exact List.mem_append_right _ ih
theorem Gd.cells {c : Cx} {st : St} {tm : List (Nat × Value)} {h : Hs} {ρ : Rho} {G : FG} (g : Gd c st tm h ρ G) {s : SV} {cs : List D} {o : Nat} {v : Value} (hs : DenS ρ ⟨G,h.w0⟩ s v) (hc : cellsT st.ob s = some (cs,o)) :
  ∃ b o' us,v = .pointer (some ⟨b,o' + o,none⟩) ∧ DenL ρ ⟨G,h.w0⟩ cs us ∧ ∀ w,Hp h w → ∀ (j : Nat) u,us[j]? = some u → w.cell? ⟨b,o' + j,none⟩ = some u := by
 unfold cellsT at hc
 split at hc
 ·split at hc
  ·rename_i k o1 x ty cs' hk
   injection hc with hc;injection hc with e1 e2;subst e1 e2
   cases hs with | d hs => cases hs with | @p _ _ b c' sz h0 =>
   obtain ⟨X,f,⟨b',us,rfl,g2,g3⟩,g5⟩ := g.ob.at_ hk
   rw [h0] at g2
   injection g2 with g2;injection g2 with e1;injection e1 with e1;injection e1 with e1;subst e1
   refine ⟨b,0,us,by rw [Nat.zero_add],g3,fun w hw j u hu => ?_⟩
   rw [Nat.zero_add]
   exact (hw.blk b _ (g5.mem (List.mem_singleton.2 rfl))).cell (x := ⟨ty,us,_⟩) hu
  ·cases hc
 ·injection hc with hc;injection hc with e1 e2;subst e1 e2
  cases hs with | d hs => cases hs with | q hb hu hd =>
  exact ⟨_,_,_,rfl,by rw [upT_map];exact hd.up,fun w hw j u hj => (hw.same.cell (p := ⟨_,_,none⟩) (g.gF _ hb)).trans (hu j u hj)⟩
 ·cases hc
end Go.Proofs.YtjpaaaecbgmcgaaGreatDoor
/-
 The layer of trees: the value of an operation that only yields is what the machine yields.
-/
namespace Go.Proofs.YtjpaaaecbgmcgaaGreatDoor
open Go.RowKit
def ikEqT : IntKind → IntKind → Bool
 | .i8,.i8 | .i16,.i16 | .i32,.i32 | .i64,.i64 | .u8,.u8 | .u16,.u16 | .u32,.u32 | .u64,.u64 => true
 | _,_ => false
theorem ikEqT_eq {a b : IntKind} (h : ikEqT a b = true) : a = b := by cases a <;> cases b <;> first | rfl | cases h
def cmpIT : BinOp → Int → Int → Option Bool
 | .eql,m,n => some (m == n)
 | .neq,m,n => some (m != n)
 | .lss,m,n => some (decide (m < n))
 | .leq,m,n => some (decide (m ≤ n))
 | .gtr,m,n => some (decide (n < m))
 | .geq,m,n => some (decide (n ≤ m))
 | _,_,_ => none
def cmpS : BinOp → ByteArray → ByteArray → Option Bool
 | .eql,m,n => some (m.toList == n.toList)
 | .neq,m,n => some (!(m.toList == n.toList))
 | .lss,m,n => some (Op.bytesLess m.toList n.toList)
 | .leq,m,n => some (Op.bytesLess m.toList n.toList || m.toList == n.toList)
 | .gtr,m,n => some (!(Op.bytesLess m.toList n.toList || m.toList == n.toList))
 | .geq,m,n => some (!(Op.bytesLess m.toList n.toList))
 | _,_,_ => none
def cmpD : BinOp → D → D → Option Bool
 | op,.u (.int k m),.u (.int k' n) => bif ikEqT k k' then cmpIT op m n else none
 | op,.u (.str a),.u (.str b) => cmpS op a b
 | _,_,_ => none
def cmpSV (op : BinOp) : SV → SV → Option Bool
 | .d x,.d y => cmpD op x y
 | _,_ => none
def fillT (place : Nat → Option (Nat × Nat)) : List D → List (Nat × SV) → Option (List D)
 | cs,[] => some cs
 | cs,(i,s) :: r => match place i with
  | none => none
  | some (off,n) => match s with
   | .d x => bif Nat.beq n 1 && Nat.blt off cs.length then fillT place (cs.set off x) r else none
   | .a xs => bif Nat.beq n xs.length && Nat.ble (off + n) cs.length then fillT place (cs.take off ++ xs ++ cs.drop (off + n)) r else none
   | .t _ => none
def arPl (n m : Nat) : Option (Nat × Nat) := some (m * n,n)
def partsT (tm : List (Nat × SV)) : List (Nat × Operand) → Option (List (Nat × SV))
 | [] => some []
 | (i,x) :: r => match evT tm x with
  | none => none
  | some s => match partsT tm r with
   | none => none
   | some l => some ((i,s) :: l)
def zerosT : List Value → Option (List D)
 | [] => some []
 | v :: r => match zeroT v with
  | none => none
  | some d => match zerosT r with
   | none => none
   | some l => some (.u d :: l)
def capT (tm : List (Nat × SV)) : List Operand → Option (List Nat)
 | [] => some []
 | x :: r => match evT tm x with
  | some (.d (.p k 0)) => match capT tm r with
   | some l => some (k :: l)
   | none => none
  | _ => none
def capQ (tm : List (Nat × SV)) : List Operand → Option (List (List V))
 | [] => some []
 | x :: r => match evT tm x with
  | some (.d (.q c 0)) => match capQ tm r with
   | some l => some (c :: l)
   | none => none
  | _ => none
def yT (T : List (Nat × Ty)) (tm : List (Nat × SV)) (ob : List (Nat × Ob)) : Op → Option SV
 | .move x => evT tm x
 | .assign x => evT tm x
 | .load t x => match evT tm x with
  | none => none
  | some s => match cellsT ob s with
   | none => none
   | some (cs,o) => match lk t T with
    | none => none
    | some i => match i.k.agg with
     | true => match cutT cs o i.size with
      | some l => some (.a l)
      | none => none
     | false => match nth cs o with
      | some v => some (.d v)
      | none => none
 | .fieldAddr s x f => match evT tm x with
  | none => none
  | some q => match lk s T with
   | none => none
   | some i => match i.k with
    | .st fs => match nth fs f with
     | none => none
     | some (off,ft) => match lk ft T with
      | none => none
      | some j => bif Nat.beq j.size 0 then none else plusT q off
    | _ => none
 | .nilCheck x => match evT tm x with
  | none => none
  | some s => match plusT s 0 with
   | some _ => some s
   | none => none
 | .extract x m => match evT tm x with
  | some (.t vs) => match nth vs m with
   | some x => some x.up
   | none => none
  | _ => none
 | .field s x f => match evT tm x with
  | some (.a cs) => match lk s T with
   | none => none
   | some i => match i.k with
    | .st fs => match nth fs f with
     | none => none
     | some (off,ft) => match lk ft T with
      | none => none
      | some j => match j.k.agg with
       | true => match cutT cs off j.size with
        | some l => some (.a l)
        | none => none
       | false => match nth cs off with
        | some v => some (.d v)
        | none => none
    | _ => none
  | _ => none
 | .unOp .not _ x => match evT tm x with
  | some (.d (.u (.bool b))) => some (.d (.u (.bool (!b))))
  | _ => none
 | .binOp op _ x y _ => match evT tm x with
  | none => none
  | some s => match evT tm y with
   | none => none
   | some s' => match cmpSV op s s' with
    | some b => some (.d (.u (.bool b)))
    | none => none
 | .build t ps => match lk t T with
  | none => none
  | some i => match i.k with
   | .st fs => match szs T fs with
    | none => none
    | some sz => match partsT tm ps.toList with
     | none => none
     | some vs => match zerosT i.zero with
      | none => none
      | some zs => match fillT (nth sz) zs vs with
       | some cs => some (.a cs)
       | none => none
   | .ar _ e => match lk e T with
    | none => none
    | some j => match partsT tm ps.toList with
     | none => none
     | some vs => match zerosT i.zero with
      | none => none
      | some zs => match fillT (arPl j.size) zs vs with
       | some cs => some (.a cs)
       | none => none
   | _ => none
 | .makeFunc (.func f) first caps => match first.toList with
  | [] => match capT tm caps.toList with
   | some [] => some (.d (.u (.fn f)))
   | some (k :: ks) => some (.d (.fn f (k :: ks)))
   | none => match capQ tm caps.toList with
    | some cs => some (.d (.u (.cl f cs)))
    | none => none
  | _ => none
 | _ => none
section
variable {P : Program} {T : List (Nat × Ty)} [hT : Tys P T] {nt : Nt} {c : Cx} {st : St} {tm : List (Nat × Value)} {h : Hs} {ρ : Rho} {G : FG} {ty : TypeId} {pos : String} {af : Array Edge} {gd : Option (Nat × Bool)} {d : Option Tmp}
theorem capT_ok (g : Gd c st tm h ρ G) : ∀ {xs : List Operand} {ks : List Nat},capT st.tm xs = some ks → ∃ us,ArgsL tm xs us ∧ us.length = ks.length ∧ ∀ (j : Nat) k u,ks[j]? = some k → us[j]? = some u → ∃ b c sz,ρ k = some ⟨some ⟨b,0,none⟩,c,sz⟩ ∧ u = .pointer (some ⟨b,0,none⟩)
 | [],ks,hc => by simp [capT] at hc;subst hc;exact ⟨[],.nil,rfl,by simp⟩
 | x :: r,ks,hc => by
  simp only [capT] at hc
  split at hc
  ·rename_i k hx
   cases hr : capT st.tm r with
   | none => simp [hr] at hc
   | some l =>
    simp only [hr,Option.some.injEq] at hc
    subst hc
    obtain ⟨us,q1,q2,q3⟩ := capT_ok g hr
    obtain ⟨v,hv,hs⟩ := g.ev hx
    cases hs with | d hs => cases hs with | @p _ _ b cc sz hp =>
    refine ⟨_ :: us,.cons hv q1,by simp [q2],fun j k0 u e1 e2 => ?_⟩
    cases j with
    | zero => simp at e1 e2;subst e1 e2;exact ⟨b,cc,sz,hp,rfl⟩
    | succ j => exact q3 j k0 u (by simpa using e1) (by simpa using e2)
  ·cases hc
theorem DenV.cl_of {z : Fz} {f : FuncId} {cs : List (List V)} {us : List Value} (hl : us.length = cs.length) (h : ∀ (j : Nat) c u,cs[j]? = some c → us[j]? = some u → Den ρ z (.q c 0) u) : DenV z (.cl f cs) (.func (.func f) #[] us.toArray) := by
 have key : ∀ j : Nat,∃ (b o : Nat) (xs : List Value),∀ c u,cs[j]? = some c → us[j]? = some u → u = .pointer (some ⟨b,o,none⟩) ∧ z.G b ∧ (∀ (i : Nat) x,xs[i]? = some x → z.w0.cell? ⟨b,o + i,none⟩ = some x) ∧ DenVL z c xs := by
  intro j
  by_cases hj : j < cs.length
  ·have h0 := h j _ _ (List.getElem?_eq_getElem hj) (List.getElem?_eq_getElem (by rw [hl];exact hj))
   generalize hu : us[j]'(by rw [hl];exact hj) = u at h0
   cases h0 with | @q _ _ b o' xs hb hx hd =>
   refine ⟨b,o',xs,fun c u e1 e2 => ?_⟩
   rw [List.getElem?_eq_getElem hj] at e1
   rw [List.getElem?_eq_getElem (by rw [hl];exact hj),hu] at e2
   injection e1 with e1
   injection e2 with e2
   subst e1 e2
   exact ⟨rfl,hb,hx,hd⟩
  ·exact ⟨0,0,[],fun c u e1 e2 => absurd (List.getElem?_eq_some_iff.1 e1).1 hj⟩
 let B := fun j => Classical.choose (key j)
 have kB : ∀ j,∃ (o : Nat) (xs : List Value),∀ c u,cs[j]? = some c → us[j]? = some u → u = .pointer (some ⟨B j,o,none⟩) ∧ z.G (B j) ∧ (∀ (i : Nat) x,xs[i]? = some x → z.w0.cell? ⟨B j,o + i,none⟩ = some x) ∧ DenVL z c xs := fun j => Classical.choose_spec (key j)
 let O := fun j => Classical.choose (kB j)
 have kO : ∀ j,∃ (xs : List Value),∀ c u,cs[j]? = some c → us[j]? = some u → u = .pointer (some ⟨B j,O j,none⟩) ∧ z.G (B j) ∧ (∀ (i : Nat) x,xs[i]? = some x → z.w0.cell? ⟨B j,O j + i,none⟩ = some x) ∧ DenVL z c xs := fun j => Classical.choose_spec (kB j)
 let X := fun j => Classical.choose (kO j)
 have kX : ∀ j,∀ c u,cs[j]? = some c → us[j]? = some u → u = .pointer (some ⟨B j,O j,none⟩) ∧ z.G (B j) ∧ (∀ (i : Nat) x,(X j)[i]? = some x → z.w0.cell? ⟨B j,O j + i,none⟩ = some x) ∧ DenVL z c (X j) := fun j => Classical.choose_spec (kO j)
 have kc : ∀ j,j < cs.length → ∃ c u,cs[j]? = some c ∧ us[j]? = some u := fun j hj => ⟨_,_,List.getElem?_eq_getElem hj,List.getElem?_eq_getElem (by rw [hl];exact hj)⟩
 refine .cl us B O X hl (fun j u hu => ?_) (fun j hj => ?_) (fun j c hc => ?_) (fun j hj => ?_) (fun j hj => ?_) (fun j c i d x e1 e2 e3 => ?_)
 ·have hj : j < cs.length := by rw [← hl];exact (List.getElem?_eq_some_iff.1 hu).1
  exact (kX j _ u (List.getElem?_eq_getElem hj) hu).1
 ·obtain ⟨c,u,e1,e2⟩ := kc j hj
  exact (kX j c u e1 e2).2.1
 ·obtain ⟨c',u,e1,e2⟩ := kc j (List.getElem?_eq_some_iff.1 hc).1
  rw [hc] at e1
  injection e1 with e1
  subst e1
  exact (kX j _ u hc e2).2.2.2.len
 ·obtain ⟨c,u,e1,e2⟩ := kc j hj
  exact (kX j c u e1 e2).2.2.2.one
 ·obtain ⟨c,u,e1,e2⟩ := kc j hj
  exact (kX j c u e1 e2).2.2.1
 ·obtain ⟨c',u,f1,f2⟩ := kc j (List.getElem?_eq_some_iff.1 e1).1
  rw [e1] at f1
  injection f1 with f1
  subst f1
  exact (kX j _ u e1 f2).2.2.2.den i d x e2 e3
theorem DenV.cl_inv {z : Fz} {f : FuncId} {cs : List (List V)} {v : Value} (h : DenV z (.cl f cs) v) : ∃ us : List Value,v = .func (.func f) #[] us.toArray ∧ us.length = cs.length ∧ ∀ (j : Nat) c u,cs[j]? = some c → us[j]? = some u → Den ρ z (.q c 0) u := by
 cases h with | cl us B O X hl hu hG hX h1 hc hd =>
 refine ⟨us,rfl,hl,fun j c u e1 e2 => ?_⟩
 have hj := (List.getElem?_eq_some_iff.1 e1).1
 rw [hu j u e2]
 exact .q (o := 0) (us := X j) (hG j hj) (hc j hj) ⟨hX j c e1,h1 j hj,fun i d x f1 f2 => hd j c i d x e1 f1 f2⟩
theorem capQ_ok (g : Gd c st tm h ρ G) : ∀ {xs : List Operand} {cs : List (List V)},capQ st.tm xs = some cs → ∃ us,ArgsL tm xs us ∧ us.length = cs.length ∧ ∀ (j : Nat) c u,cs[j]? = some c → us[j]? = some u → Den ρ ⟨G,h.w0⟩ (.q c 0) u
 | [],cs,hc => by simp [capQ] at hc;subst hc;exact ⟨[],.nil,rfl,by simp⟩
 | x :: r,cs,hc => by
  simp only [capQ] at hc
  split at hc
  ·rename_i c0 hx
   cases hr : capQ st.tm r with
   | none => simp [hr] at hc
   | some l =>
    simp only [hr,Option.some.injEq] at hc
    subst hc
    obtain ⟨us,q1,q2,q3⟩ := capQ_ok g hr
    obtain ⟨v,hv,hs⟩ := g.ev hx
    cases hs with | d hs =>
    refine ⟨_ :: us,.cons hv q1,by simp [q2],fun j c u e1 e2 => ?_⟩
    cases j with
    | zero => simp at e1 e2;subst e1 e2;exact hs
    | succ j => exact q3 j c u (by simpa using e1) (by simpa using e2)
  ·cases hc
theorem Yd.makeFunc {f : FuncId} {caps : List Operand} {us : List Value} (hx : ArgsL tm caps us) : Yd P nt ⟨d,.makeFunc (.func f) #[] caps.toArray,ty,pos,af,gd⟩ tm h (.func (.func f) #[] us.toArray) :=
 ⟨fun a w ha _ => by simp [execOp,Instr.makeFunc,List.map_toArray,hx.eq ha]⟩
theorem zerosT_den {z : Fz} : ∀ {vs : List Value} {l : List D},zerosT vs = some l → DenL ρ z l vs
 | [],l,h => by simp [zerosT] at h;subst h;exact .nil
 | v :: r,l,h => by
  simp only [zerosT] at h
  cases h1 : zeroT v with
  | none => simp [h1] at h
  | some x =>
   cases h2 : zerosT r with
   | none => simp [h1,h2] at h
   | some l' =>
    simp only [h1,h2,Option.some.injEq] at h
    subst h
    exact (zerosT_den h2).cons (.u (zeroT_den h1))
theorem partsT_ok (g : Gd c st tm h ρ G) : ∀ {ps : List (Nat × Operand)} {l : List (Nat × SV)},partsT st.tm ps = some l → ∃ vs,PartsL tm ps vs ∧ vs.length = l.length ∧ ∀ (j : Nat) i s i' v,l[j]? = some (i,s) → vs[j]? = some (i',v) → i = i' ∧ DenS ρ ⟨G,h.w0⟩ s v
 | [],l,hp => by simp [partsT] at hp;subst hp;exact ⟨[],.nil,rfl,by simp⟩
 | (i,x) :: r,l,hp => by
  simp only [partsT] at hp
  cases h1 : evT st.tm x with
  | none => simp [h1] at hp
  | some s =>
   cases h2 : partsT st.tm r with
   | none => simp [h1,h2] at hp
   | some l' =>
    simp only [h1,h2,Option.some.injEq] at hp
    subst hp
    obtain ⟨v,hv,hs⟩ := g.ev h1
    obtain ⟨vs,q1,q2,q3⟩ := partsT_ok g h2
    refine ⟨(i,v) :: vs,.cons hv q1,by simp [q2],fun j i1 s1 i2 v2 e1 e2 => ?_⟩
    cases j with
    | zero => simp at e1 e2;obtain ⟨rfl,rfl⟩ := e1;obtain ⟨rfl,rfl⟩ := e2;exact ⟨rfl,hs⟩
    | succ j => exact q3 j i1 s1 i2 v2 (by simpa using e1) (by simpa using e2)
theorem spl_mid : ∀ (cs vs : List Value) (o : Nat),o + vs.length ≤ cs.length → spl cs o vs = cs.take o ++ vs ++ cs.drop (o + vs.length)
 | cs,[],o,_ => by simp [spl_nil]
 | [],v :: vs,o,hl => by simp at hl
 | c :: cs,v :: vs,0,hl => by
  have := spl_mid cs vs 0 (by simp at hl ⊢;omega)
  simp only [spl,this]
  simp
 | c :: cs,v :: vs,o + 1,hl => by
  have := spl_mid cs (v :: vs) o (by simp at hl ⊢;omega)
  simp only [spl,this]
  rw [show o + 1 + (v :: vs).length = (o + (v :: vs).length) + 1 by omega]
  simp
theorem DenL.take {z : Fz} {cs : List D} {us : List Value} (h : DenL ρ z cs us) (n : Nat) : DenL ρ z (cs.take n) (us.take n) := ⟨by simp [h.len],by
 rw [List.all_eq_true];intro x hx;exact List.all_eq_true.1 h.one x (List.mem_of_mem_take hx),fun j d u h1 h2 => by
 have hj : j < n := by have := (List.getElem?_eq_some_iff.1 h1).1;simp at this;omega
 rw [List.getElem?_take_of_lt hj] at h1 h2
 exact h.den j d u h1 h2⟩
theorem DenL.drop {z : Fz} {cs : List D} {us : List Value} (h : DenL ρ z cs us) (n : Nat) : DenL ρ z (cs.drop n) (us.drop n) := ⟨by simp [h.len],by
 rw [List.all_eq_true];intro x hx;exact List.all_eq_true.1 h.one x (List.mem_of_mem_drop hx),fun j d u h1 h2 => by
 rw [List.getElem?_drop] at h1 h2
 exact h.den _ d u h1 h2⟩
theorem DenL.mid {z : Fz} {cs xs : List D} {us vs : List Value} (h : DenL ρ z cs us) (hx : DenL ρ z xs vs) {o : Nat} (ho : o + xs.length ≤ cs.length) : DenL ρ z (cs.take o ++ xs ++ cs.drop (o + xs.length)) (spl us o vs) := by
 rw [spl_mid us vs o (by rw [hx.len,h.len];exact ho),hx.len]
 exact ((h.take o).app hx).app (h.drop _)
def cellsOfT : SV → Option (List D)
 | .d x => some [x]
 | .a xs => some xs
 | .t _ => none
theorem cellsOfT_den {z : Fz} {s : SV} {xs : List D} {v : Value} (hx : cellsOfT s = some xs) (h : DenS ρ z s v) : DenL ρ z xs (vcells v) := by
 cases h with
 | d h =>
  simp only [cellsOfT,Option.some.injEq] at hx;subst hx
  have h1 := h.one
  have : vcells v = [v] := by cases v <;> first | rfl | cases h1
  rw [this]
  exact .one_ h
 | a h =>
  simp only [cellsOfT,Option.some.injEq] at hx;subst hx
  simpa [vcells] using h
 | t => cases hx
theorem set_mid {α : Type} : ∀ {cs : List α} {off : Nat} (x : α),off < cs.length → cs.set off x = cs.take off ++ [x] ++ cs.drop (off + 1)
 | c :: cs,0,x,_ => by simp
 | c :: cs,off + 1,x,h => by simp [set_mid x (show off < cs.length by simpa using h)]
 | [],_,_,h => by simp at h
theorem fillT_den {z : Fz} {place : Nat → Option (Nat × Nat)} : ∀ {l : List (Nat × SV)} {vs : List (Nat × Value)} {cs cs' : List D} {us : List Value},vs.length = l.length → (∀ (j : Nat) i s i' v,l[j]? = some (i,s) → vs[j]? = some (i',v) → i = i' ∧ DenS ρ z s v) → DenL ρ z cs us → fillT place cs l = some cs' →
  ∃ us',fillV place us vs = some us' ∧ DenL ρ z cs' us'
 | [],[],cs,cs',us,_,_,hd,hf => by simp [fillT] at hf;subst hf;exact ⟨us,rfl,hd⟩
 | (i,s) :: l,(i',v) :: vs,cs,cs',us,hl,hp,hd,hf => by
  obtain ⟨rfl,hs⟩ := hp 0 i s i' v rfl rfl
  have hp' : ∀ (j : Nat) i s i' v,l[j]? = some (i,s) → vs[j]? = some (i',v) → i = i' ∧ DenS ρ z s v := fun j i1 s1 i2 v2 e1 e2 => hp (j + 1) i1 s1 i2 v2 (by simpa using e1) (by simpa using e2)
  simp only [fillT] at hf
  cases hpl : place i with
  | none => simp [hpl] at hf
  | some q =>
   obtain ⟨off,n⟩ := q
   simp only [hpl] at hf
   have key : ∀ xs,cellsOfT s = some xs → n = xs.length → off + n ≤ cs.length → fillT place (cs.take off ++ xs ++ cs.drop (off + n)) l = some cs' → ∃ us',fillV place us ((i,v) :: vs) = some us' ∧ DenL ρ z cs' us' := by
    intro xs hx hn ho hf
    subst hn
    have hv := cellsOfT_den hx hs
    obtain ⟨us',q1,q2⟩ := fillT_den (by simpa using hl) hp' (hd.mid hv ho) hf
    refine ⟨us',?_,q2⟩
    have e1 : Nat.beq (vcells v).length xs.length = true := by rw [hv.len];exact Nat.beq_refl _
    have e2 : Nat.ble (off + (vcells v).length) us.length = true := by rw [hv.len,hd.len];exact Nat.ble_eq ▸ ho
    simp only [fillV,hpl,e1,e2,Bool.and_self,cond_true]
    exact q1
   cases s with
   | d x =>
    simp only at hf
    cases hb : (Nat.beq n 1 && Nat.blt off cs.length)
    ·rw [hb] at hf;cases hf
    ·rw [hb] at hf
     simp only [Bool.and_eq_true] at hb
     have h1 := Nat.eq_of_beq_eq_true hb.1
     have h2 : off < cs.length := by simpa [Nat.blt_eq] using hb.2
     subst h1
     simp only [cond_true,set_mid x h2] at hf
     exact key [x] rfl rfl (by omega) hf
   | a xs =>
    simp only at hf
    cases hb : (Nat.beq n xs.length && Nat.ble (off + n) cs.length)
    ·rw [hb] at hf;cases hf
    ·rw [hb] at hf
     simp only [Bool.and_eq_true] at hb
     exact key xs rfl (Nat.eq_of_beq_eq_true hb.1) (by simpa [Nat.ble_eq] using hb.2) hf
   | t => cases hf
 | [],_ :: _,_,_,_,hl,_,_,_ => by simp at hl
 | _ :: _,[],_,_,_,hl,_,_,_ => by simp at hl
end
end Go.Proofs.YtjpaaaecbgmcgaaGreatDoor
/-
 Equality of structs whose fields are plain;of no program.
-/
namespace Go.Proofs.YtjpaaaecbgmcgaaGreatDoor
open Go.RowKit
def eqD : Tk → D → D → Option Bool
 | .in_ _,.u (.int k a),.u (.int k' b) => bif ikEqT k k' then some (a == b) else none
 | .bo,.u (.bool a),.u (.bool b) => some (a == b)
 | .sr,.u (.str a),.u (.str b) => some (a.toList == b.toList)
 | _,_,_ => none
def eqT (T : List (Nat × Ty)) : List (Nat × TypeId) → Nat → List D → List D → Option Bool
 | [],_,[],[] => some true
 | (off,ft) :: fs,i,x :: xs,y :: ys => bif Nat.beq off i then match lk ft T with
   | none => none
   | some j => match eqD j.k x y with
    | none => none
    | some p => match eqT T fs (i + 1) xs ys with
     | none => none
     | some q => some (p && q)
  else none
 | _,_,_,_ => none
def eqChk (P : Program) (t : TypeId) : Bool := !P.stoodInHeld t && (!P.eqGuardType P.depth t && (P.fieldsOf t).toList.all fun f => f.name != "_")
structure Eqv (P : Program) (t : TypeId) (X : Prop) : Prop where
 h : eqChk P t = true
 k : X
section
variable {P : Program} {T : List (Nat × Ty)} [hT : Tys P T] {ρ : Rho} {z : Fz}
theorem eqD_run {t : TypeId} {j : Ty} {x y : D} {u v : Value} {p : Bool} (hj : lk t T = some j) (he : eqD j.k x y = some p) (hx : Den ρ z x u) (hy : Den ρ z y v) (n : Nat) (w : World) :
  (∀ (cs : Array Value) (i : Nat) (a : Value),cs[i]? = some a → (part t cs i).run P w = .ok a w) ∧ (Op.equalIn (n + 1) t u v).run P w = .ok p w := by
 have hk := (hT.ok t j hj).kind
 obtain ⟨k,s,b,zz⟩ := j
 simp only at he hk
 unfold eqD at he
 split at he
 ·rename_i k1 k2 a k3 c
  cases hik : ikEqT k2 k3 <;> rw [hik] at he
  ·cases he
  ·have := ikEqT_eq hik
   subst this
   simp only [cond_true,Option.some.injEq] at he
   subst he
   cases hx with | u hx => cases hx with | int => cases hy with | u hy => cases hy with | int =>
   have hu : P.underlying t = some (.int k1) := hk
   exact ⟨fun cs i a ha => by simp [part,isAgg,run_underlying hu,ha],run_equalIn_int w n t _ _ _ _ hu⟩
 ·injection he with he;subst he
  cases hx with | u hx => cases hx with | bool => cases hy with | u hy => cases hy with | bool =>
  have hu : P.underlying t = some .bool := hk
  exact ⟨fun cs i a ha => by simp [part,isAgg,run_underlying hu,ha],run_equalIn_bool w n t _ _ hu⟩
 ·injection he with he;subst he
  cases hx with | u hx => cases hx with | str => cases hy with | u hy => cases hy with | str =>
  have hu : P.underlying t = some .string := hk
  exact ⟨fun cs i a ha => by simp [part,isAgg,run_underlying hu,ha],run_equalIn_string w n t _ _ hu⟩
 ·cases he
theorem eqT_run {n : Nat} {us vs : List Value} : ∀ {fields : List Field} {i : Nat} {xs ys : List D} {p : Bool}, eqT T (fields.map fun f => (f.offset, f.type)) i xs ys = some p → (fields.all fun f => f.name != "_") = true →
  (∀ (j : Nat) d u,xs[j]? = some d → us[i + j]? = some u → Den ρ z d u) → (∀ (j : Nat) d u,ys[j]? = some d → vs[i + j]? = some u → Den ρ z d u) → us.length = i + xs.length → vs.length = i + ys.length → ∀ w,(Op.eqFields (n + 1) us.toArray vs.toArray fields).run P w = .ok p w
 | [],i,[],[],p,h,_,_,_,_,_,w => by simp [eqT] at h;subst h;simp [Op.eqFields]
 | [],i,_ :: _,_,p,h,_,_,_,_,_,w => by simp [eqT] at h
 | [],i,[],_ :: _,p,h,_,_,_,_,_,w => by simp [eqT] at h
 | f :: fs,i,[],_,p,h,_,_,_,_,_,w => by simp [eqT] at h
 | f :: fs,i,_ :: _,[],p,h,_,_,_,_,_,w => by simp [eqT] at h
 | f :: fs,i,x :: xs,y :: ys,p,h,hn,hx,hy,hlx,hly,w => by
  simp only [List.map_cons,eqT] at h
  cases hb : Nat.beq f.offset i <;> rw [hb] at h
  ·cases h
  ·have hoff := Nat.eq_of_beq_eq_true hb
   simp only [cond_true] at h
   cases hj : lk f.type T with
   | none => simp [hj] at h
   | some j =>
    simp only [hj] at h
    cases he : eqD j.k x y with
    | none => simp [he] at h
    | some p1 =>
     cases hr : eqT T (fs.map fun f => (f.offset,f.type)) (i + 1) xs ys with
     | none => simp [he,hr] at h
     | some p2 =>
      simp only [he,hr,Option.some.injEq] at h
      subst h
      simp only [List.all_cons,Bool.and_eq_true] at hn
      simp only [List.length_cons] at hlx hly
      have hu : us[i]? = some us[i] := List.getElem?_eq_getElem (by omega)
      have hv : vs[i]? = some vs[i] := List.getElem?_eq_getElem (by omega)
      obtain ⟨q1,q2⟩ := eqD_run (P := P) hj he (hx 0 x us[i] rfl hu) (hy 0 y vs[i] rfl hv) n w
      have ih := eqT_run (n := n) (us := us) (vs := vs) hr hn.2 (fun j d u e1 e2 => hx (j + 1) d u (by simpa using e1) (by rw [← e2];congr 1;omega)) (fun j d u e1 e2 => hy (j + 1) d u (by simpa using e1) (by rw [← e2];congr 1;omega)) (by omega) (by omega) w
      have hnm : f.name ≠ "_" := by simpa using hn.1
      simp only [Op.eqFields,ne_eq,hnm,not_false_eq_true,if_true,Sem.run_bind,hoff,q1 us.toArray i us[i] (by simp),q1 vs.toArray i vs[i] (by simp),Result.andThen_ok,q2]
      cases p1
      ·simp
      ·simpa using ih
theorem eqT_binOp {t : TypeId} {i : Ty} {fs : List (Nat × TypeId)} {xs ys : List D} {us vs : List Value} {p : Bool} (ht : lk t T = some i) (hk : i.k = .st fs) (he : eqT T fs 0 xs ys = some p) (hc : eqChk P t = true) (hx : DenL ρ z xs us) (hy : DenL ρ z ys vs) (x y : Operand) (w : World) :
  (eqGuard .eql t x y (.agg us.toArray) (.agg vs.toArray)).run P w = .ok () w ∧ (eqGuard .neq t x y (.agg us.toArray) (.agg vs.toArray)).run P w = .ok () w ∧ (Op.equal t (.agg us.toArray) (.agg vs.toArray)).run P w = .ok p w := by
 simp only [eqChk,Bool.and_eq_true,Bool.not_eq_eq_eq_not,Bool.not_true] at hc
 have h1 := (hT.ok t i ht).kind
 rw [hk] at h1
 obtain ⟨fields,h2,h3⟩ := h1
 have hf : P.fieldsOf t = fields := by simp [Program.fieldsOf,h2]
 refine ⟨by simp [eqGuard,hc.2.1],by simp [eqGuard,hc.2.1],?_⟩
 unfold Op.equal Op.maxDepth
 rw [run_equalIn_struct w 9999 t us.toArray vs.toArray (by rw [hf];exact h2) hc.1,hf]
 rw [← h3] at he
 exact eqT_run (n := 9998) he (by rw [← hf];exact hc.2.2) (fun j d u e1 e2 => hx.den j d u e1 (by simpa using e2)) (fun j d u e1 e2 => hy.den j d u e1 (by simpa using e2)) (by rw [hx.len];omega) (by rw [hy.len];omega) w
end
end Go.Proofs.YtjpaaaecbgmcgaaGreatDoor
/-
 The layer of trees: the value of an operation that only yields is what the machine yields (2).
-/
namespace Go.Proofs.YtjpaaaecbgmcgaaGreatDoor
open Go.RowKit
section
variable {P : Program} {T : List (Nat × Ty)} [hT : Tys P T] {nt : Nt} {c : Cx} {st : St} {tm : List (Nat × Value)} {h : Hs} {ρ : Rho} {G : FG} {ty : TypeId} {pos : String} {af : Array Edge} {gd : Option (Nat × Bool)} {d : Option Tmp}
theorem Yd.cmpS {x y : Operand} {t u : TypeId} {a b : ByteArray} {op : BinOp} {r : Bool} (hx : ev tm x = some (.string a)) (hy : ev tm y = some (.string b)) (hc : Go.Proofs.YtjpaaaecbgmcgaaGreatDoor.cmpS op a b = some r) : Yd P nt ⟨d,.binOp op t x y u,ty,pos,af,gd⟩ tm h (.bool r) := ⟨fun s w ha _ => by
 cases op <;> simp only [Go.Proofs.YtjpaaaecbgmcgaaGreatDoor.cmpS] at hc <;> first | (cases hc;done) | (injection hc with hc;subst hc;simp [execOp,eqGuard,binOp,Op.stringOp,ha.ev hx,ha.ev hy])⟩
theorem Yd.fieldN {s f : Nat} {x : Operand} {off ft : Nat} {i j : Ty} {fs : List (Nat × TypeId)} {us vs : List Value} (hx : ev tm x = some (.agg us.toArray)) (ht : lk s T = some i) (hk : i.k = .st fs) (hf : nth fs f = some (off,ft)) (hj : lk ft T = some j) (hg : j.k.agg = true) (hl : vs.length = j.size) (hv : ∀ (n : Nat) v,vs[n]? = some v → us[off + n]? = some v) :
  Yd P nt ⟨d,.field s x f,ty,pos,af,gd⟩ tm h (.agg vs.toArray) :=
 ⟨fun a w ha hw => by
  have h1 := (hT.ok s i ht).kind
  rw [hk] at h1
  obtain ⟨fields,h2,h3⟩ := h1
  rw [nth_eq,← h3,List.getElem?_map] at hf
  cases hfj : fields.toList[f]? with
  | none => rw [hfj] at hf;cases hf
  | some fl =>
   rw [hfj] at hf
   simp only [Option.map_some,Option.some.injEq,Prod.mk.injEq] at hf
   obtain ⟨rfl,rfl⟩ := hf
   have hfa : fields[f]? = some fl := by simpa using hfj
   have he : List.take j.size (List.drop fl.offset us) = vs := by
    apply List.ext_getElem?
    intro n
    rcases Nat.lt_or_ge n vs.length with hn | hn
    ·have := hv n _ (List.getElem?_eq_getElem hn)
     rw [List.getElem?_eq_getElem hn,← this]
     rw [List.getElem?_take_of_lt (by omega),List.getElem?_drop]
    ·rw [List.getElem?_eq_none hn,List.getElem?_eq_none]
     simp;omega
   simp [execOp,Instr.field,part,asAgg,ha.ev hx,run_underlying h2,hfa,(hT.ok _ j hj).run_isAgg,hg,(hT.ok _ j hj).run_size,he]⟩
theorem evT_int (g : Gd c st tm h ρ G) {x : Operand} {k : IntKind} {n : Int} (hx : evT st.tm x = some (.d (.u (.int k n)))) : ev tm x = some (.int k n) := by
 obtain ⟨v,h1,h2⟩ := g.ev hx
 cases h2 with | d h2 => cases h2 with | u h2 => cases h2;exact h1
theorem evT_bool (g : Gd c st tm h ρ G) {x : Operand} {b : Bool} (hx : evT st.tm x = some (.d (.u (.bool b)))) : ev tm x = some (.bool b) := by
 obtain ⟨v,h1,h2⟩ := g.ev hx
 cases h2 with | d h2 => cases h2 with | u h2 => cases h2;exact h1
theorem evT_str (g : Gd c st tm h ρ G) {x : Operand} {b : ByteArray} (hx : evT st.tm x = some (.d (.u (.str b)))) : ev tm x = some (.string b) := by
 obtain ⟨v,h1,h2⟩ := g.ev hx
 cases h2 with | d h2 => cases h2 with | u h2 => cases h2;exact h1
theorem yT_load (g : Gd c st tm h ρ G) {t : TypeId} {x : Operand} {s : SV} (hy : yT T st.tm st.ob (.load t x) = some s) : ∃ v,Yd P nt ⟨d,.load t x,ty,pos,af,gd⟩ tm h v ∧ DenS ρ ⟨G,h.w0⟩ s v := by
 simp only [yT] at hy
 cases hx : evT st.tm x with
 | none => simp [hx] at hy
 | some q =>
  simp only [hx] at hy
  cases hc : cellsT st.ob q with
  | none => simp [hc] at hy
  | some p =>
   obtain ⟨cs,o⟩ := p
   simp only [hc] at hy
   obtain ⟨v,hv,hq⟩ := g.ev hx
   obtain ⟨b,o',us,rfl,hd,hcell⟩ := g.cells hq hc
   cases ht : lk t T with
   | none => simp [ht] at hy
   | some i =>
    simp only [ht] at hy
    cases hk : i.k.agg
    ·simp only [hk] at hy
     cases hn : nth cs o with
     | none => simp [hn] at hy
     | some e =>
      simp only [hn,Option.some.injEq] at hy
      subst hy
      rw [nth_eq] at hn
      obtain ⟨u,hu,hdu⟩ := hd.get hn
      exact ⟨u,Yd.load1 hv ht hk ⟨fun w hw => hcell w hw o u hu⟩,.d hdu⟩
    ·simp only [hk] at hy
     cases hl : cutT cs o i.size with
     | none => simp [hl] at hy
     | some l =>
      simp only [hl,Option.some.injEq] at hy
      subst hy
      obtain ⟨h1,h2⟩ := cutT_get hl
      obtain ⟨vs,q1,q2⟩ := hd.part (o := o) h2
      refine ⟨_,Yd.loadn (vs := vs) hv ht hk ⟨fun w hw j u hu => ?_⟩ (by rw [q1.len,h1]),.a q1⟩
      rw [Nat.add_assoc]
      exact hcell w hw (o + j) u (q2 j u hu)
theorem Yd.buildA {t : TypeId} {parts : List (Nat × Operand)} {vs : List (Nat × Value)} {i j : Ty} {an e : Nat} {cs : List Value} (ht : lk t T = some i) (hk : i.k = .ar an e) (hj : lk e T = some j) (hv : PartsL tm parts vs) (hf : fillV (arPl j.size) i.zero vs = some cs) : Yd P nt ⟨d,.build t parts.toArray,ty,pos,af,gd⟩ tm h (.agg cs.toArray) := ⟨fun a w ha _ => by
 have h1 := (hT.ok t i ht).kind
 rw [hk] at h1
 have h1 : P.underlying t = some (.array an e) := h1
 obtain ⟨z,hz1,hz2⟩ := (hT.ok t i ht).run_zero w
 have hpl : (parts.toArray.map fun (q : Nat × Operand) => (q.1,a.eval q.2)) = vs.toArray := by rw [List.map_toArray,hv.eq ha]
 have hfill : Instr.fill (fun m => some (m * j.size,j.size)) z.cells vs = some cs.toArray := by
  refine fill_eq _ vs z.cells cs ?_
  rw [hz2,← hf]
  rfl
 have hpl' : (parts.toArray.map fun x => match x with | (j,x) => (j,a.eval x)) = vs.toArray := hpl
 simp only [execOp,Instr.build,Sem.run_bind,hz1,Result.andThen_ok,run_underlying h1,(hT.ok e j hj).run_size,hpl',hfill,Sem.run_pure]⟩
theorem yT_sound (g : Gd c st tm h ρ G) {op : Op} {s : SV} (hy : yT T st.tm st.ob op = some s) : ∃ v,Yd P nt ⟨d,op,ty,pos,af,gd⟩ tm h v ∧ DenS ρ ⟨G,h.w0⟩ s v := by
 cases op with
 | makeFunc fn first caps =>
  cases fn with
  | func f =>
   simp only [yT] at hy
   split at hy
   ·rename_i hf
    have hf' : first = #[] := by rw [← Array.toArray_toList (xs := first),hf]
    subst hf'
    have hc' : caps = caps.toList.toArray := by simp
    rw [hc']
    split at hy
    ·rename_i hc
     obtain ⟨us,q1,q2,q3⟩ := capT_ok g hc
     have : us = [] := List.eq_nil_of_length_eq_zero (by simpa using q2)
     subst this
     injection hy with hy
     subst hy
     exact ⟨_,.makeFunc q1,.d (.u .fn)⟩
    ·rename_i k ks hc
     obtain ⟨us,q1,q2,q3⟩ := capT_ok g hc
     injection hy with hy
     subst hy
     exact ⟨_,.makeFunc q1,.d (.fn us q2 q3)⟩
    ·split at hy
     ·rename_i cs hc
      obtain ⟨us,q1,q2,q3⟩ := capQ_ok g hc
      injection hy with hy
      subst hy
      exact ⟨_,.makeFunc q1,.d (.u (.cl_of q2 q3))⟩
     ·cases hy
   ·cases hy
  | _ => simp [yT] at hy
 | move x =>
  obtain ⟨v,hv,hs⟩ := g.ev (x := x) (by simpa [yT] using hy)
  exact ⟨v,.move hv,hs⟩
 | assign x =>
  obtain ⟨v,hv,hs⟩ := g.ev (x := x) (by simpa [yT] using hy)
  exact ⟨v,.assign hv,hs⟩
 | load t x => exact yT_load g hy
 | fieldAddr st' x f =>
  simp only [yT] at hy
  cases hx : evT st.tm x with
  | none => simp [hx] at hy
  | some q =>
   simp only [hx] at hy
   obtain ⟨v,hv,hq⟩ := g.ev hx
   cases ht : lk st' T with
   | none => simp [ht] at hy
   | some i =>
    simp only [ht] at hy
    cases hk : i.k <;> simp only [hk] at hy <;> try cases hy
    rename_i fs
    cases hf : nth fs f with
    | none => simp [hf] at hy
    | some p =>
     obtain ⟨off,ft⟩ := p
     simp only [hf] at hy
     cases hj : lk ft T with
     | none => simp [hj] at hy
     | some j =>
      simp only [hj] at hy
      cases hz : Nat.beq j.size 0
      ·rw [hz] at hy
       simp only [cond_false] at hy
       obtain ⟨b,o,rfl,hs⟩ := plusT_den hy hq
       exact ⟨_,Yd.fieldAddr hv ht hk hf hj hz,hs⟩
      ·rw [hz] at hy;cases hy
 | nilCheck x =>
  simp only [yT] at hy
  cases hx : evT st.tm x with
  | none => simp [hx] at hy
  | some q =>
   simp only [hx] at hy
   obtain ⟨v,hv,hq⟩ := g.ev hx
   cases hp : plusT q 0 with
   | none => simp [hp] at hy
   | some q' =>
    simp only [hp,Option.some.injEq] at hy
    subst hy
    obtain ⟨b,o,rfl,hs⟩ := plusT_den hp hq
    exact ⟨_,Yd.nilCheck hv,hq⟩
 | extract x m =>
  simp only [yT] at hy
  split at hy
  ·rename_i ss hx
   obtain ⟨v,hv,hs⟩ := g.ev hx
   cases hs with
   | @t _ vs hl hd =>
    cases hn : nth ss m with
    | none => simp [hn] at hy
    | some x =>
     simp only [hn,Option.some.injEq] at hy
     subst hy
     rw [nth_eq] at hn
     have hm : m < vs.length := by rw [hl];exact (List.getElem?_eq_some_iff.1 hn).1
     exact ⟨vs[m],Yd.extract hv (by rw [nth_eq];simp [hm]),(hd m x _ hn (List.getElem?_eq_getElem hm)).up⟩
  ·cases hy
 | field st' x f =>
  simp only [yT] at hy
  split at hy
  ·rename_i cs hx
   obtain ⟨v,hv,hs⟩ := g.ev hx
   cases hs with
   | @a _ us hd =>
    cases ht : lk st' T with
    | none => simp [ht] at hy
    | some i =>
     simp only [ht] at hy
     cases hk : i.k <;> simp only [hk] at hy <;> try cases hy
     rename_i fs
     cases hf : nth fs f with
     | none => simp [hf] at hy
     | some p =>
      obtain ⟨off,ft⟩ := p
      simp only [hf] at hy
      cases hj : lk ft T with
      | none => simp [hj] at hy
      | some j =>
       simp only [hj] at hy
       cases hg : j.k.agg <;> simp only [hg] at hy
       ·cases hn : nth cs off with
        | none => simp [hn] at hy
        | some e =>
         simp only [hn,Option.some.injEq] at hy
         subst hy
         rw [nth_eq] at hn
         obtain ⟨u,hu,hdu⟩ := hd.get hn
         exact ⟨u,Yd.field1 hv ht hk hf hj hg (by rw [nth_eq];simpa using hu),.d hdu⟩
       ·cases hl : cutT cs off j.size with
        | none => simp [hl] at hy
        | some l =>
         simp only [hl,Option.some.injEq] at hy
         subst hy
         obtain ⟨h1,h2⟩ := cutT_get hl
         obtain ⟨vs,q1,q2⟩ := hd.part (o := off) h2
         exact ⟨_,Yd.fieldN (vs := vs) hv ht hk hf hj hg (by rw [q1.len,h1]) q2,.a q1⟩
  ·cases hy
 | unOp o t x =>
  cases o <;> simp only [yT] at hy <;> try cases hy
  split at hy
  ·rename_i b hx
   injection hy with hy;subst hy
   exact ⟨_,Yd.not (evT_bool g hx),.d (.u (.bool _))⟩
  ·cases hy
 | binOp o t x y u =>
  simp only [yT] at hy
  cases hx : evT st.tm x with
  | none => simp [hx] at hy
  | some q =>
   cases hy' : evT st.tm y with
   | none => simp [hx,hy'] at hy
   | some q' =>
    simp only [hx,hy'] at hy
    cases hc : cmpSV o q q' with
    | none => simp [hc] at hy
    | some r =>
     simp only [hc,Option.some.injEq] at hy
     subst hy
     unfold cmpSV at hc
     split at hc
     ·unfold cmpD at hc
      split at hc
      ·rename_i k m k' n
       cases hk : ikEqT k k'
       ·rw [hk] at hc;cases hc
       ·rw [hk] at hc
        have := ikEqT_eq hk
        subst this
        simp only [cond_true] at hc
        have e1 := evT_int g hx
        have e2 := evT_int g hy'
        refine ⟨.bool r,?_,.d (.u (.bool _))⟩
        cases o <;> simp only [cmpIT] at hc <;> first | (cases hc;done) | (injection hc with hc;subst hc)
        ·exact Yd.eql e1 e2
        ·exact Yd.neq e1 e2
        ·exact Yd.lss e1 e2
        ·exact Yd.leq e1 e2
        ·exact Yd.gtr e1 e2
        ·exact Yd.geq e1 e2
      ·exact ⟨.bool r,Yd.cmpS (evT_str g hx) (evT_str g hy') hc,.d (.u (.bool _))⟩
      ·cases hc
     ·cases hc
 | build t ps =>
  simp only [yT] at hy
  cases ht : lk t T with
  | none => simp [ht] at hy
  | some i =>
   simp only [ht] at hy
   cases hk : i.k <;> simp only [hk] at hy <;> try cases hy
   ·rename_i fs
    cases hs : szs T fs with
    | none => simp [hs] at hy
    | some sz =>
     simp only [hs] at hy
     cases hv : partsT st.tm ps.toList with
     | none => simp [hv] at hy
     | some l =>
      simp only [hv] at hy
      cases hz : zerosT i.zero with
      | none => simp [hz] at hy
      | some zs =>
       simp only [hz] at hy
       cases hf : fillT (nth sz) zs l with
       | none => simp [hf] at hy
       | some cs =>
        simp only [hf,Option.some.injEq] at hy
        subst hy
        obtain ⟨vs,q1,q2,q3⟩ := partsT_ok g hv
        obtain ⟨us,r1,r2⟩ := fillT_den q2 q3 (zerosT_den hz) hf
        have := Yd.build (P := P) (nt := nt) (h := h) (d := d) (ty := ty) (pos := pos) (af := af) (gd := gd) ht hk hs q1 r1
        exact ⟨_,by simpa using this,.a r2⟩
   ·rename_i an e
    cases hj : lk e T with
    | none => simp [hj] at hy
    | some j =>
     simp only [hj] at hy
     cases hv : partsT st.tm ps.toList with
     | none => simp [hv] at hy
     | some l =>
      simp only [hv] at hy
      cases hz : zerosT i.zero with
      | none => simp [hz] at hy
      | some zs =>
       simp only [hz] at hy
       cases hf : fillT (arPl j.size) zs l with
       | none => simp [hf] at hy
       | some cs =>
        simp only [hf,Option.some.injEq] at hy
        subst hy
        obtain ⟨vs,q1,q2,q3⟩ := partsT_ok g hv
        obtain ⟨us,r1,r2⟩ := fillT_den q2 q3 (zerosT_den hz) hf
        have := Yd.buildA (P := P) (nt := nt) (h := h) (d := d) (ty := ty) (pos := pos) (af := af) (gd := gd) ht hk hj q1 r1
        exact ⟨_,by simpa using this,.a r2⟩
 | _ => simp [yT] at hy
end
end Go.Proofs.YtjpaaaecbgmcgaaGreatDoor
/-
 The layer of trees: own objects are made,written,taken.
-/
namespace Go.Proofs.YtjpaaaecbgmcgaaGreatDoor
open Go.RowKit
def D.has (k : Nat) : D → Bool
 | .u _ => false
 | .ow j _ => Nat.beq j k
 | .p j _ => Nat.beq j k
 | .e j _ _ => Nat.beq j k
 | .q _ _ => false
 | .fn _ ks => has' k ks
 | .mp j => Nat.beq j k
 | D.r .. => false
 | D.re .. => false
 | .ows j _ _ => Nat.beq j k
 | .any => false
where
 has' (k : Nat) : List Nat → Bool
  | [] => false
  | j :: js => bif Nat.beq j k then true else has' k js
def hasL (k : Nat) : List D → Bool
 | [] => false
 | x :: r => bif x.has k then true else hasL k r
def hasC (k : Nat) : List SC → Bool
 | [] => false
 | .d x :: r => bif x.has k then true else hasC k r
 | .a cs :: r => bif hasL k cs then true else hasC k r
def SV.has (k : Nat) : SV → Bool
 | .d x => x.has k
 | .a cs => hasL k cs
 | .t vs => hasC k vs
def hasTm (k : Nat) : List (Nat × SV) → Bool
 | [] => false
 | (_,s) :: r => bif s.has k then true else hasTm k r
def hasOb (k : Nat) : List (Nat × Ob) → Bool
 | [] => false
 | (j,.bx _ cs) :: r => bif Nat.beq j k then true else bif hasL k cs then true else hasOb k r
 | (j,.ar _ _ _) :: r => bif Nat.beq j k then true else hasOb k r
 | (j,.fm _ _) :: r => bif Nat.beq j k then true else hasOb k r
 | (j,.mp _ _ _) :: r => bif Nat.beq j k then true else hasOb k r
 | (j,.fa _ _ _) :: r => bif Nat.beq j k then true else hasOb k r
 | (j,.ab cs _ _ _) :: r => bif Nat.beq j k then true else bif hasL k cs then true else hasOb k r
def newN (k : Nat) (tm : List (Nat × SV)) (ob : List (Nat × Ob)) : Bool := bif hasTm k tm then false else bif hasOb k ob then false else true
def upd (ρ : Rho) (k : Nat) (l : Loc) : Rho := ⟨fun j => if j = k then some l else ρ j,ρ.os⟩
theorem upd_self {ρ : Rho} {k : Nat} {l : Loc} : upd ρ k l k = some l := by simp [upd]
theorem upd_ne {ρ : Rho} {k j : Nat} {l : Loc} (h : Nat.beq j k = false) : upd ρ k l j = ρ j := by
 have : j ≠ k := fun e => by rw [e,Nat.beq_refl] at h;cases h
 simp [upd,this]
section
variable {ρ : Rho} {z : Fz} {k : Nat} {l : Loc}
theorem D.has'_ne {ks : List Nat} (h : D.has.has' k ks = false) : ∀ (j : Nat) i,ks[j]? = some i → Nat.beq i k = false := by
 induction ks with
 | nil => intro j i hj;simp at hj
 | cons x r ih =>
  simp only [D.has.has'] at h
  cases hb : Nat.beq x k
  ·rw [hb] at h
   intro j i hj
   cases j with
   | zero => simp at hj;subst hj;exact hb
   | succ j => exact ih h j i (by simpa using hj)
  ·rw [hb] at h;cases h
theorem Den.upd {d : D} {v : Value} (hn : d.has k = false) (h : Den ρ z d v) : Den (upd ρ k l) z d v := by
 cases h with
 | u h => exact .u h
 | ow h hA hc => exact .ow (by rw [upd_ne hn];exact h) hA hc
 | p h => exact .p (by rw [upd_ne hn];exact h)
 | e h => exact .e (by rw [upd_ne hn];exact h)
 | q hb hu hd => exact .q hb hu hd
 | fn us hl hd =>
  refine .fn us hl fun j i u h1 h2 => ?_
  obtain ⟨b,c,sz,h3,h4⟩ := hd j i u h1 h2
  exact ⟨b,c,sz,by rw [upd_ne (D.has'_ne hn j i h1)];exact h3,h4⟩
 | mp h hA => exact .mp (by rw [upd_ne hn];exact h) hA
 | r h hA hc hm => exact .r h hA hc hm
 | re h => exact .re h
 | ows h hc => exact .ows (by rw [upd_ne hn];exact h) hc
 | any h1 => exact .any h1
theorem hasL_get {cs : List D} (h : hasL k cs = false) : ∀ (j : Nat) d,cs[j]? = some d → d.has k = false := by
 induction cs with
 | nil => intro j d hj;simp at hj
 | cons x r ih =>
  simp only [hasL] at h
  cases hb : x.has k
  ·rw [hb] at h
   intro j d hj
   cases j with
   | zero => simp at hj;subst hj;exact hb
   | succ j => exact ih h j d (by simpa using hj)
  ·rw [hb] at h;cases h
theorem DenL.upd {cs : List D} {us : List Value} (hn : hasL k cs = false) (h : DenL ρ z cs us) : DenL (upd ρ k l) z cs us := ⟨h.len,h.one,fun j d u h1 h2 => (h.den j d u h1 h2).upd (hasL_get hn j d h1)⟩
theorem hasC_get {cs : List SC} (h : hasC k cs = false) : ∀ (j : Nat) s,cs[j]? = some s → s.up.has k = false := by
 induction cs with
 | nil => intro j d hj;simp at hj
 | cons x r ih =>
  cases x with
  | d x =>
   simp only [hasC] at h
   cases hb : x.has k
   ·rw [hb] at h
    intro j d hj
    cases j with
    | zero => simp at hj;subst hj;exact hb
    | succ j => exact ih h j d (by simpa using hj)
   ·rw [hb] at h;cases h
  | a x =>
   simp only [hasC] at h
   cases hb : hasL k x
   ·rw [hb] at h
    intro j d hj
    cases j with
    | zero => simp at hj;subst hj;exact hb
    | succ j => exact ih h j d (by simpa using hj)
   ·rw [hb] at h;cases h
theorem DenS.upd {s : SV} {v : Value} (hn : s.has k = false) (h : DenS ρ z s v) : DenS (upd ρ k l) z s v := by
 cases h with
 | d h => exact .d (h.upd hn)
 | a h => exact .a (h.upd hn)
 | t hl hd =>
  refine .t hl fun j s v h1 h2 => ?_
  have hs := hasC_get hn j s h1
  cases hd j s v h1 h2 with
  | d h => exact .d (h.upd hs)
  | a h => exact .a (h.upd hs)
theorem hasTm_get {tm : List (Nat × SV)} (h : hasTm k tm = false) : ∀ j s,lk j tm = some s → s.has k = false := by
 induction tm with
 | nil => intro j s hj;simp [lk] at hj
 | cons p r ih =>
  obtain ⟨i,x⟩ := p
  simp only [hasTm] at h
  cases hb : x.has k
  ·rw [hb] at h
   intro j s hj
   simp only [lk] at hj
   cases hi : Nat.beq j i
   ·rw [hi] at hj;exact ih h j s hj
   ·rw [hi] at hj;simp at hj;subst hj;exact hb
  ·rw [hb] at h;cases h
theorem CellOk.congr {ρ' : Rho} {k i o : Nat} (hq : ρ'.os k i o = ρ.os k i o) {e : E} {u : Value} {X : List (Nat × Hb)} (h : CellOk ρ z k i o e u X) : CellOk ρ' z k i o e u X := by
 cases e with
 | v x => exact h
 | os ty sz rs => obtain ⟨A,c,us,h1,h2,h3,h4⟩ := h;exact ⟨A,c,us,h1,h2,by rw [hq];exact h3,h4⟩
 | hl => exact h
theorem CellsOk.congr {ρ' : Rho} {k i o : Nat} {es : List E} {us : List Value} {X : List (Nat × Hb)} (h : CellsOk ρ z k i o es us X) : (∀ o',o ≤ o' → ρ'.os k i o' = ρ.os k i o') → CellsOk ρ' z k i o es us X := by
 induction h with
 | nil => intro _;exact .nil
 | cons h _ ih => intro hq;exact .cons (h.congr (hq _ (Nat.le_refl _))) (ih fun o' ho => hq o' (by omega))
theorem FamOk.congrI {ρ' : Rho} {k : Nat} {ty : TypeId} {i : Nat} {bs : List Nat} {rs : List (List E)} {X : List (Nat × Hb)} (h : FamOk ρ z k ty i bs rs X) : (∀ i' o,i ≤ i' → ρ'.os k i' o = ρ.os k i' o) → FamOk ρ' z k ty i bs rs X := by
 induction h with
 | nil => intro _;exact .nil
 | cons h _ ih => intro hq;exact .cons (h.congr fun o' _ => hq _ o' (Nat.le_refl _)) (ih fun i' o hi => hq i' o (by omega))
theorem FamOk.congr {ρ' : Rho} {k : Nat} {ty : TypeId} {i : Nat} {bs : List Nat} {rs : List (List E)} {X : List (Nat × Hb)} (h : FamOk ρ z k ty i bs rs X) (hq : ∀ i o,ρ'.os k i o = ρ.os k i o) : FamOk ρ' z k ty i bs rs X := h.congrI fun i o _ => hq i o
theorem FaOk.congrI {ρ' : Rho} {k i : Nat} {rs : List (List E)} {us : List Value} {X : List (Nat × Hb)} (h : FaOk ρ z k i rs us X) : (∀ i' o,i ≤ i' → ρ'.os k i' o = ρ.os k i' o) → FaOk ρ' z k i rs us X := by
 induction h with
 | nil => intro _;exact .nil
 | cons h _ ih => intro hq;exact .cons (h.congr fun o' _ => hq _ o' (Nat.le_refl _)) (ih fun i' o hi => hq i' o (by omega))
theorem FaOk.congr {ρ' : Rho} {k i : Nat} {rs : List (List E)} {us : List Value} {X : List (Nat × Hb)} (h : FaOk ρ z k i rs us X) (hq : ∀ i o,ρ'.os k i o = ρ.os k i o) : FaOk ρ' z k i rs us X := h.congrI fun i o _ => hq i o
theorem ObOk.upd {j : Nat} {o : Ob} {X : List (Nat × Hb)} {r : List (Nat × Ob)} (hn : hasOb k ((j,o) :: r) = false) (h : ObOk ρ z j o X) : ObOk (upd ρ k l) z j o X := by
 cases o with
 | bx ty cs =>
  simp only [hasOb] at hn
  cases hj : Nat.beq j k
  ·rw [hj] at hn
   cases hb : hasL k cs
   ·obtain ⟨b,us,h1,h2,h3⟩ := h
    exact ⟨b,us,h1,by rw [upd_ne hj];exact h2,h3.upd hb⟩
   ·rw [hb] at hn;cases hn
  ·rw [hj] at hn;cases hn
 | ar ty sz rs =>
  simp only [hasOb] at hn
  cases hj : Nat.beq j k
  ·obtain ⟨A,c,us,h1,h2,h3⟩ := h
   exact ⟨A,c,us,h1,by rw [upd_ne hj];exact h2,h3⟩
  ·rw [hj] at hn;cases hn
 | fm ty rs => exact ⟨h.1.congr fun _ _ => rfl,h.2⟩
 | mp kg vg es =>
  simp only [hasOb] at hn
  cases hj : Nat.beq j k
  ·obtain ⟨b,vs,h1,h2,h3⟩ := h
   exact ⟨b,vs,h1,by rw [upd_ne hj];exact h2,h3⟩
  ·rw [hj] at hn;cases hn
 | fa ty sz rs =>
  simp only [hasOb] at hn
  cases hj : Nat.beq j k
  ·obtain ⟨A,c,us,Y,h1,h2,h3,h4,h5⟩ := h
   exact ⟨A,c,us,Y,h1,by rw [upd_ne hj];exact h2,h3,h4.congr fun _ _ => rfl,h5⟩
  ·rw [hj] at hn;cases hn
 | ab cs us zb φ =>
  simp only [hasOb] at hn
  cases hj : Nat.beq j k
  ·rw [hj] at hn
   cases hb : hasL k cs
   ·exact ⟨h.1,h.2.1,h.2.2.upd hb⟩
   ·rw [hb] at hn;cases hn
  ·rw [hj] at hn;cases hn
theorem hasOb_tail {p : Nat × Ob} {r : List (Nat × Ob)} (h : hasOb k (p :: r) = false) : hasOb k r = false := by
 obtain ⟨j,o⟩ := p
 cases o with
 | bx ty cs =>
  simp only [hasOb] at h
  cases hj : Nat.beq j k <;> rw [hj] at h
  ·cases hb : hasL k cs <;> rw [hb] at h
   ·exact h
   ·cases h
  ·cases h
 | ar ty sz rs =>
  simp only [hasOb] at h
  cases hj : Nat.beq j k <;> rw [hj] at h
  ·exact h
  ·cases h
 | fm ty rs =>
  simp only [hasOb] at h
  cases hj : Nat.beq j k <;> rw [hj] at h
  ·exact h
  ·cases h
 | mp kg vg es =>
  simp only [hasOb] at h
  cases hj : Nat.beq j k <;> rw [hj] at h
  ·exact h
  ·cases h
 | fa ty sz rs =>
  simp only [hasOb] at h
  cases hj : Nat.beq j k <;> rw [hj] at h
  ·exact h
  ·cases h
 | ab cs us zb φ =>
  simp only [hasOb] at h
  cases hj : Nat.beq j k <;> rw [hj] at h
  ·cases hb : hasL k cs <;> rw [hb] at h
   ·exact h
   ·cases h
  ·cases h
theorem ObsOk.upd : ∀ {ob : List (Nat × Ob)} {hp : List (Nat × Hb)},hasOb k ob = false → ObsOk ρ z ob hp → ObsOk (upd ρ k l) z ob hp
 | [],_,_,h => h
 | (_,_) :: _,_,hn,⟨X,hp',h1,h2,h3⟩ => ⟨X,hp',h1,h2.upd hn,h3.upd (hasOb_tail hn)⟩
end
theorem newN_tm {k : Nat} {st : St} (h : newN k st.tm st.ob = true) : hasTm k st.tm = false ∧ hasOb k st.ob = false := by
 unfold newN at h
 cases h1 : hasTm k st.tm <;> rw [h1] at h
 ·cases h2 : hasOb k st.ob <;> rw [h2] at h
  ·exact ⟨rfl,rfl⟩
  ·cases h
 ·cases h
section
variable {c : Cx} {st : St} {tm : List (Nat × Value)} {h : Hs} {ρ : Rho} {G : FG}
theorem Gd.new {F : Nat → Prop} {w0 : World} {hp : List (Nat × Hb)} (g : Gd c st tm ⟨F,w0,hp⟩ ρ G) {k : Nat} (hk : newN k st.tm st.ob = true) {o : Ob} {X : List (Nat × Hb)} {l : Loc} (ho : ObOk (upd ρ k l) ⟨G,w0⟩ k o X) : Gd c ⟨st.tm,(k,o) :: st.ob⟩ tm ⟨F,w0,X ++ hp⟩ (upd ρ k l) G := by
 obtain ⟨h1,h2⟩ := newN_tm hk
 refine ⟨g.fF,g.fw,g.gF,g.gx,g.fm,fun j s hj => ?_,⟨X,hp,rfl,ho,g.ob.upd h2⟩⟩
 obtain ⟨v,q1,q2⟩ := g.tm j s hj
 exact ⟨v,q1,q2.upd (hasTm_get h1 j s hj)⟩
def obu (k : Nat) (o : Ob) : List (Nat × Ob) → List (Nat × Ob)
 | [] => []
 | (j,x) :: r => bif Nat.beq k j then (j,o) :: r else (j,x) :: obu k o r
def obr (k : Nat) : List (Nat × Ob) → List (Nat × Ob)
 | [] => []
 | (j,x) :: r => bif Nat.beq k j then r else (j,x) :: obr k r
theorem ObsOk.set {z : Fz} : ∀ {ob : List (Nat × Ob)} {hp : List (Nat × Hb)} {k : Nat} {o : Ob},ObsOk ρ z ob hp → lk k ob = some o →
  ∃ X f,ObOk ρ z k o X ∧ RowAt X hp f ∧ (∀ o' Y,ObOk ρ z k o' Y → ObsOk ρ z (obu k o' ob) (f Y)) ∧ ObsOk ρ z (obr k ob) (f [])
 | [],_,_,_,_,h => by simp [lk] at h
 | (j,x) :: r,hp,k,o,⟨X,hp',h1,h2,h3⟩,h => by
  simp only [lk] at h
  cases hb : Nat.beq k j
  ·rw [hb] at h
   obtain ⟨Y,f,g1,g2,g3,g4⟩ := h3.set h
   subst h1
   refine ⟨Y,_,g1,.skip g2,fun o' Y' hY => ?_,?_⟩
   ·simp only [obu,hb,cond_false];exact ⟨X,_,rfl,h2,g3 o' Y' hY⟩
   ·simp only [obr,hb,cond_false];exact ⟨X,_,rfl,h2,g4⟩
  ·rw [hb] at h
   simp only [cond_true,Option.some.injEq] at h
   subst h h1
   have := Nat.eq_of_beq_eq_true hb
   subst this
   refine ⟨X,_,h2,.here,fun o' Y' hY => ?_,?_⟩
   ·simp only [obu,hb,cond_true];exact ⟨Y',_,rfl,hY,h3⟩
   ·simp only [obr,hb,cond_true];exact h3
end
end Go.Proofs.YtjpaaaecbgmcgaaGreatDoor
/-
 The layer of trees: families of boxes: their members and cells are read and exchanged.
-/
namespace Go.Proofs.YtjpaaaecbgmcgaaGreatDoor
open Go.RowKit
def eD (k i o : Nat) : E → Option D
 | .v x => some (.u x)
 | .os _ sz rs => some (.r k i o sz rs.length)
 | .hl => none
def cutE (k i : Nat) (row : List E) : Nat → Nat → Option (List D)
 | _,0 => some []
 | o,n + 1 => match nth row o with
  | none => none
  | some e => match eD k i o e with
   | none => none
   | some d => match cutE k i row (o + 1) n with
    | none => none
    | some l => some (d :: l)
theorem cutE_get {k i : Nat} {row : List E} : ∀ {n o : Nat} {l : List D},cutE k i row o n = some l → l.length = n ∧ ∀ j d,l[j]? = some d → ∃ e,row[o + j]? = some e ∧ eD k i (o + j) e = some d
 | 0,o,l,h => by simp [cutE] at h;subst h;simp
 | n + 1,o,l,h => by
  simp only [cutE] at h
  cases h1 : nth row o with
  | none => simp [h1] at h
  | some e =>
   cases h3 : eD k i o e with
   | none => simp [h1,h3] at h
   | some d =>
    cases h2 : cutE k i row (o + 1) n with
    | none => simp [h1,h2,h3] at h
    | some l' =>
     simp only [h1,h2,h3,Option.some.injEq] at h
     subst h
     have ih := cutE_get h2
     refine ⟨by simp [ih.1],fun j u hu => ?_⟩
     cases j with
     | zero => rw [nth_eq] at h1;simp at hu;subst hu;exact ⟨e,by simpa using h1,h3⟩
     | succ j => have := ih.2 j u (by simpa using hu);rwa [show o + 1 + j = o + (j + 1) by omega] at this
def putV : List E → Nat → List V → Option (List E)
 | row,_,[] => some row
 | row,o,y :: ys => match nth row o with
  | some (.v _) => putV (row.set o (.v y)) (o + 1) ys
  | some .hl => putV (row.set o (.v y)) (o + 1) ys
  | _ => none
section
variable {ρ : Rho} {z : Fz} {k i : Nat}
theorem CellOk.one {o : Nat} {e : E} {u : Value} {X : List (Nat × Hb)} (h : CellOk ρ z k i o e u X) : u.oneCell' = true := by
 cases e with
 | v x => exact h.2.one
 | os ty sz rs => obtain ⟨A,c,us,_,rfl,_⟩ := h;rfl
 | hl => exact h.2
theorem CellOk.den {o : Nat} {e : E} {u : Value} {X : List (Nat × Hb)} {d : D} (h : CellOk ρ z k i o e u X) (hd : eD k i o e = some d) : Den ρ z d u := by
 cases e with
 | v x => simp only [eD,Option.some.injEq] at hd;subst hd;exact .u h.2
 | os ty sz rs =>
  simp only [eD,Option.some.injEq] at hd
  subst hd
  obtain ⟨A,c,us,_,rfl,h3,h4,_⟩ := h
  refine .r h3 ?_ h4.cap h4.max
  rcases h4.form with ⟨e1,e2,_⟩ | e
  ·exact .inl ⟨e1,e2⟩
  ·exact .inr e
 | hl => cases hd
theorem CellsOk.len {o : Nat} {es : List E} {us : List Value} {X : List (Nat × Hb)} (h : CellsOk ρ z k i o es us X) : us.length = es.length := by
 induction h with
 | nil => rfl
 | cons _ _ ih => simp [ih]
theorem CellsOk.one {o : Nat} {es : List E} {us : List Value} {X : List (Nat × Hb)} (h : CellsOk ρ z k i o es us X) : us.all Value.oneCell' = true := by
 induction h with
 | nil => rfl
 | cons h0 _ ih => simp [h0.one,ih]
theorem CellsOk.split {o0 : Nat} {es : List E} {us : List Value} {X : List (Nat × Hb)} (h : CellsOk ρ z k i o0 es us X) : ∀ {o : Nat} {e : E},es[o]? = some e → ∃ u Xe rest,us[o]? = some u ∧ CellOk ρ z k i (o0 + o) e u Xe ∧ X.Perm (Xe ++ rest) ∧
  ∀ (ρ' : Rho) e' u' Xe',(∀ o',o' ≠ o0 + o → ρ'.os k i o' = ρ.os k i o') → CellOk ρ' z k i (o0 + o) e' u' Xe' → ∃ X',CellsOk ρ' z k i o0 (es.set o e') (us.set o u') X' ∧ X'.Perm (Xe' ++ rest) := by
 induction h with
 | nil => intro o e he;simp at he
 | @cons o1 e0 u0 X0 es us Y h0 hs ih =>
  intro o e he
  cases o with
  | zero =>
   simp at he
   subst he
   refine ⟨u0,X0,Y,rfl,h0,.refl _,fun ρ' e' u' Xe' hq hc => ⟨Xe' ++ Y,.cons hc (hs.congr fun o' ho => hq o' (by omega)),.refl _⟩⟩
  | succ o =>
   obtain ⟨u,Xe,rest,q1,q2,q3,q4⟩ := ih (o := o) (by simpa using he)
   have ho : o1 + 1 + o = o1 + (o + 1) := by omega
   rw [ho] at q2 q4
   refine ⟨u,Xe,X0 ++ rest,by simpa using q1,q2,?_,fun ρ' e' u' Xe' hq hc => ?_⟩
   ·refine (q3.append_left X0).trans ?_
    rw [← List.append_assoc,← List.append_assoc]
    exact List.perm_append_comm.append_right _
   ·obtain ⟨X',r1,r2⟩ := q4 ρ' e' u' Xe' hq hc
    refine ⟨X0 ++ X',.cons (h0.congr (hq o1 (by omega))) r1,?_⟩
    refine (r2.append_left X0).trans ?_
    rw [← List.append_assoc,← List.append_assoc]
    exact List.perm_append_comm.append_right _
theorem CellsOk.get {o0 : Nat} {es : List E} {us : List Value} {X : List (Nat × Hb)} (h : CellsOk ρ z k i o0 es us X) {o : Nat} {e : E} {d : D} (he : es[o]? = some e) (hd : eD k i (o0 + o) e = some d) : ∃ u,us[o]? = some u ∧ Den ρ z d u := by
 obtain ⟨u,Xe,rest,q1,q2,_⟩ := h.split he
 exact ⟨u,q1,q2.den hd⟩
theorem CellsOk.part {es : List E} {us : List Value} {X : List (Nat × Hb)} (h : CellsOk ρ z k i 0 es us X) {n o : Nat} {l : List D} (hl : cutE k i es o n = some l) : ∃ vs,DenL ρ z l vs ∧ vs.length = n ∧ ∀ (j : Nat) v,vs[j]? = some v → us[o + j]? = some v := by
 obtain ⟨h1,h2⟩ := cutE_get hl
 have hlen := h.len
 have hb : n = 0 ∨ o + n ≤ us.length := by
  rcases Nat.eq_zero_or_pos n with h0 | h0
  ·exact .inl h0
  ·right
   obtain ⟨e,q1,_⟩ := h2 (n - 1) _ (List.getElem?_eq_getElem (by omega))
   have := (List.getElem?_eq_some_iff.1 q1).1
   omega
 have hvl : ((us.drop o).take n).length = n := by
  rcases hb with hb | hb
  ·subst hb;simp
  ·simp;omega
 refine ⟨(us.drop o).take n,⟨by rw [hvl,h1],?_,fun j d u e1 e2 => ?_⟩,hvl,fun j v hv => ?_⟩
 ·rw [List.all_eq_true]
  intro x hx
  exact List.all_eq_true.1 h.one x (List.mem_of_mem_drop (List.mem_of_mem_take hx))
 ·have hj : j < n := by rw [← h1];exact (List.getElem?_eq_some_iff.1 e1).1
  rw [List.getElem?_take_of_lt hj,List.getElem?_drop] at e2
  obtain ⟨e,q1,q2⟩ := h2 j d e1
  obtain ⟨u',r1,r2⟩ := h.get (o := o + j) q1 (by rw [Nat.zero_add];exact q2)
  rw [r1] at e2
  injection e2 with e2
  subst e2
  exact r2
 ·have hj : j < n := by rw [← hvl];exact (List.getElem?_eq_some_iff.1 hv).1
  rwa [List.getElem?_take_of_lt hj,List.getElem?_drop] at hv
theorem splC {us : List Value} {o : Nat} {v : Value} {vs : List Value} (h : o + (v :: vs).length ≤ us.length) : spl us o (v :: vs) = spl (us.set o v) (o + 1) vs := by
 simp only [List.length_cons] at h
 rw [spl_mid _ _ _ (by simp;omega),spl_mid _ _ _ (by simp;omega)]
 rw [set_mid v (show o < us.length by omega)]
 simp only [List.length_cons]
 have e1 : (us.take o ++ [v] ++ us.drop (o + 1)).take (o + 1) = us.take o ++ [v] := by
  rw [List.append_assoc,← List.append_assoc,List.take_left' (by simp;omega)]
 have e2 : (us.take o ++ [v] ++ us.drop (o + 1)).drop (o + 1 + vs.length) = us.drop (o + (vs.length + 1)) := by
  rw [List.drop_append,List.drop_of_length_le (by simp;omega),List.nil_append,List.drop_drop]
  congr 1
  simp;omega
 rw [e1,e2];simp
theorem CellsOk.putV {X : List (Nat × Hb)} : ∀ {ys : List V} {vs : List Value} {es es' : List E} {us : List Value} {o : Nat},CellsOk ρ z k i 0 es us X → Go.Proofs.YtjpaaaecbgmcgaaGreatDoor.putV es o ys = some es' → DenVL z ys vs → o + vs.length ≤ us.length ∨ vs = [] → ∃ X',CellsOk ρ z k i 0 es' (spl us o vs) X' ∧ X'.Perm X ∧ (vs = [] ∨ o + vs.length ≤ us.length)
 | [],vs,es,es',us,o,h,hp,hd,_ => by
  have := hd.len
  simp at this
  subst this
  simp only [Go.Proofs.YtjpaaaecbgmcgaaGreatDoor.putV,Option.some.injEq] at hp
  subst hp
  exact ⟨X,by rw [spl_nil];exact h,.refl _,.inl rfl⟩
 | y :: ys,vs,es,es',us,o,h,hp,hd,hl => by
  have hl0 := hd.len
  cases vs with
  | nil => simp at hl0
  | cons v vs =>
   have hl' : o + (v :: vs).length ≤ us.length := by rcases hl with h | h;(exact h);(cases h)
   have key : ∀ e,es[o]? = some e → (∃ x,e = .v x) ∨ e = .hl → Go.Proofs.YtjpaaaecbgmcgaaGreatDoor.putV (es.set o (.v y)) (o + 1) ys = some es' → ∃ X',CellsOk ρ z k i 0 es' (spl us o (v :: vs)) X' ∧ X'.Perm X ∧ (v :: vs = [] ∨ o + (v :: vs).length ≤ us.length) := by
    intro e he hev hp
    obtain ⟨u,Xe,rest,q1,q2,q3,q4⟩ := h.split he
    have hXe : Xe = [] := by
     rcases hev with ⟨x,rfl⟩ | rfl
     ·exact q2.1
     ·exact q2.1
    subst hXe
    obtain ⟨X1,r1,r2⟩ := q4 ρ (.v y) v [] (fun _ _ => rfl) ⟨rfl,hd.den 0 y v rfl rfl⟩
    obtain ⟨X2,s1,s2,_⟩ := CellsOk.putV (vs := vs) r1 hp ⟨by simpa using hl0,by have := hd.one;simp at this;simpa using this.2,fun j d u e1 e2 => hd.den (j + 1) d u (by simpa using e1) (by simpa using e2)⟩ (.inl (by simp at hl' ⊢;omega))
    exact ⟨X2,by rw [splC hl'];exact s1,s2.trans (r2.trans q3.symm),.inr hl'⟩
   simp only [Go.Proofs.YtjpaaaecbgmcgaaGreatDoor.putV] at hp
   split at hp
   ·rename_i x hn;exact key _ (by rw [nth_eq] at hn;exact hn) (.inl ⟨x,rfl⟩) hp
   ·rename_i hn;exact key _ (by rw [nth_eq] at hn;exact hn) (.inr rfl) hp
   ·cases hp
theorem FamOk.split {ty : TypeId} {i0 : Nat} {bs : List Nat} {rs : List (List E)} {Y : List (Nat × Hb)} (h : FamOk ρ z k ty i0 bs rs Y) : ∀ {i : Nat} {row : List E},rs[i]? = some row → ∃ b us X rest,bs[i]? = some b ∧ CellsOk ρ z k (i0 + i) 0 row us X ∧ Y.Perm ((b,⟨ty,us,us.length⟩) :: (X ++ rest)) ∧
  ∀ (ρ' : Rho) row' us' X',(∀ i' o,i' ≠ i0 + i → ρ'.os k i' o = ρ.os k i' o) → CellsOk ρ' z k (i0 + i) 0 row' us' X' → ∃ Y',FamOk ρ' z k ty i0 bs (rs.set i row') Y' ∧ Y'.Perm ((b,⟨ty,us',us'.length⟩) :: (X' ++ rest)) := by
 induction h with
 | nil => intro i row he;simp at he
 | @cons i1 b0 bs row0 rows us0 X0 Y h0 hs ih =>
  intro i row he
  cases i with
  | zero =>
   simp at he
   subst he
   exact ⟨b0,us0,X0,Y,rfl,h0,by simp,fun ρ' row' us' X' hq hc => ⟨(b0,⟨ty,us',us'.length⟩) :: X' ++ Y,.cons hc (hs.congrI fun i' o hi => hq i' o (by omega)),by simp⟩⟩
  | succ i =>
   obtain ⟨b,us,X,rest,q1,q2,q3,q4⟩ := ih (i := i) (by simpa using he)
   have hi : i1 + 1 + i = i1 + (i + 1) := by omega
   rw [hi] at q2 q4
   refine ⟨b,us,X,(b0,⟨ty,us0,us0.length⟩) :: X0 ++ rest,by simpa using q1,q2,?_,fun ρ' row' us' X' hq hc => ?_⟩
   ·refine (q3.append_left ((b0,⟨ty,us0,us0.length⟩) :: X0)).trans ?_
    have := @List.perm_append_comm _ ((b0,(⟨ty,us0,us0.length⟩ : Hb)) :: X0) ((b,⟨ty,us,us.length⟩) :: X)
    rw [show (b,(⟨ty,us,us.length⟩ : Hb)) :: (X ++ rest) = ((b,⟨ty,us,us.length⟩) :: X) ++ rest from rfl,← List.append_assoc]
    refine (this.append_right _).trans ?_
    simp
   ·obtain ⟨Y',r1,r2⟩ := q4 ρ' row' us' X' hq hc
    refine ⟨(b0,⟨ty,us0,us0.length⟩) :: X0 ++ Y',.cons (h0.congr fun o' _ => hq i1 o' (by omega)) r1,?_⟩
    refine (r2.append_left ((b0,⟨ty,us0,us0.length⟩) :: X0)).trans ?_
    have := @List.perm_append_comm _ ((b0,(⟨ty,us0,us0.length⟩ : Hb)) :: X0) ((b,⟨ty,us',us'.length⟩) :: X')
    rw [show (b,(⟨ty,us',us'.length⟩ : Hb)) :: (X' ++ rest) = ((b,⟨ty,us',us'.length⟩) :: X') ++ rest from rfl,← List.append_assoc]
    refine (this.append_right _).trans ?_
    simp
theorem spl_app (a b x : List Value) (n : Nat) (h : n + x.length ≤ b.length) : spl (a ++ b) (a.length + n) x = a ++ spl b n x := by
 rw [spl_mid _ _ _ (by simp;omega),spl_mid _ _ _ h]
 simp [List.take_append,List.drop_append,Nat.add_assoc,List.take_of_length_le,List.drop_of_length_le]
theorem FaOk.split {sz i0 : Nat} {rs : List (List E)} {vs : List Value} {Y : List (Nat × Hb)} (h : FaOk ρ z k i0 rs vs Y) : (∀ r ∈ rs,r.length = sz) → ∀ {i : Nat} {row : List E},rs[i]? = some row → ∃ us X rest,us.length = sz ∧ i * sz + sz ≤ vs.length ∧ (∀ (j : Nat) u,us[j]? = some u → vs[i * sz + j]? = some u) ∧ CellsOk ρ z k (i0 + i) 0 row us X ∧ Y.Perm (X ++ rest) ∧
  ∀ (ρ' : Rho) row' us' X',us'.length = sz → (∀ i' o,i' ≠ i0 + i → ρ'.os k i' o = ρ.os k i' o) → CellsOk ρ' z k (i0 + i) 0 row' us' X' → ∃ Y',FaOk ρ' z k i0 (rs.set i row') (spl vs (i * sz) us') Y' ∧ Y'.Perm (X' ++ rest) := by
 induction h with
 | nil => intro _ i row he;simp at he
 | @cons i1 row0 rows us0 vs X0 Y h0 hs ih =>
  intro hz i row he
  have hl0 : us0.length = sz := by rw [h0.len];exact hz _ List.mem_cons_self
  cases i with
  | zero =>
   simp at he
   subst he
   refine ⟨us0,X0,Y,hl0,by simp [hl0],fun j u hu => ?_,h0,.refl _,fun ρ' row' us' X' hl hq hc => ⟨X' ++ Y,?_,.refl _⟩⟩
   ·rw [Nat.zero_mul,Nat.zero_add,List.getElem?_append_left (List.getElem?_eq_some_iff.1 hu).1];exact hu
   ·have e : spl (us0 ++ vs) (0 * sz) us' = us' ++ vs := by
     rw [Nat.zero_mul,spl_mid _ _ _ (by simp;omega)]
     simp [List.drop_append,hl,hl0]
    rw [e]
    exact .cons hc (hs.congrI fun i' o hi => hq i' o (by omega))
  | succ i =>
   obtain ⟨us,X,rest,q0,q1,q2,q3,q4,q5⟩ := ih (fun r hr => hz r (List.mem_cons_of_mem _ hr)) (i := i) (by simpa using he)
   have hi : i1 + 1 + i = i1 + (i + 1) := by omega
   rw [hi] at q3 q5
   have hm : (i + 1) * sz = us0.length + i * sz := by rw [Nat.succ_mul,hl0,Nat.add_comm]
   refine ⟨us,X,X0 ++ rest,q0,by rw [hm,List.length_append];omega,fun j u hu => ?_,q3,?_,fun ρ' row' us' X' hl hq hc => ?_⟩
   ·rw [hm,List.getElem?_append_right (by omega)]
    have := q2 j u hu
    rwa [show us0.length + i * sz + j - us0.length = i * sz + j by omega]
   ·refine (q4.append_left X0).trans ?_
    rw [← List.append_assoc,← List.append_assoc]
    exact List.perm_append_comm.append_right _
   ·obtain ⟨Y',r1,r2⟩ := q5 ρ' row' us' X' hl hq hc
    refine ⟨X0 ++ Y',?_,?_⟩
    ·rw [hm,spl_app _ _ _ _ (by omega)]
     exact .cons (h0.congr fun o' _ => hq i1 o' (by omega)) r1
    ·refine (r2.append_left X0).trans ?_
     rw [← List.append_assoc,← List.append_assoc]
     exact List.perm_append_comm.append_right _
theorem FamOk.len {ty : TypeId} {i0 : Nat} {bs : List Nat} {rs : List (List E)} {Y : List (Nat × Hb)} (h : FamOk ρ z k ty i0 bs rs Y) : bs.length = rs.length := by
 induction h with
 | nil => rfl
 | cons _ _ ih => simp [ih]
theorem FamOk.snoc {ty : TypeId} {i0 : Nat} {bs : List Nat} {rs : List (List E)} {Y : List (Nat × Hb)} {b : Nat} {row : List E} {us : List Value} {X : List (Nat × Hb)} (h : FamOk ρ z k ty i0 bs rs Y) : CellsOk ρ z k (i0 + rs.length) 0 row us X → FamOk ρ z k ty i0 (bs ++ [b]) (rs ++ [row]) (Y ++ ((b,⟨ty,us,us.length⟩) :: X)) := by
 induction h with
 | nil => intro hc;simpa using FamOk.cons (bs := []) (rows := []) hc .nil
 | @cons i1 b0 bs row0 rows us0 X0 Y h0 hs ih =>
  intro hc
  have := ih (by rw [List.length_cons] at hc;rwa [show i1 + 1 + rows.length = i1 + (rows.length + 1) by omega])
  have := FamOk.cons (b := b0) h0 this
  simpa using this
end
end Go.Proofs.YtjpaaaecbgmcgaaGreatDoor
