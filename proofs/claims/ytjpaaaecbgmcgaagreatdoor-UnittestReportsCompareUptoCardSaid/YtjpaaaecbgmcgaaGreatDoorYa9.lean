/-
  Part 9 of the proofs of ureport_holds, ucompare_holds, ureports_holds: laws and contracts that they need.
-/
import Derived.Test.YtjpaaaecbgmcgaaGreatDoorYa8
import Derived.Deep.DeepHandedRow
import Derived.Stop.LaidErr
import Derived.LaidLaws
import Derived.Lay
import Derived.Test.YtjpaaaecbgmcgaaGreatDoorChecked
import Derived.Deep.DeepWitnessRowRef
import Derived.Lib.CutLaws
import Derived.Lib.IndexMore
import Derived.Shelf.Strings.Cut
set_option linter.unusedVariables false
set_option linter.unusedSimpArgs false
namespace Go.Proofs.YtjpaaaecbgmcgaaGreatDoor
open Go.ChangeShapes Go.WideShapes Go.Deep Go.RowKit
inductive Sh where
 | int (k : IntKind)
 | bool
 | str
 | sl (by_ : Nat) (e : List Sh)
abbrev bigB : Nat := 4294967280
inductive HasSh : Sh → V → Prop
 | int {k : IntKind} {n : Int} (h : (Lit.int k n).wf = true) : HasSh (.int k) (.int k n)
 | bool {b : Bool} : HasSh .bool (.bool b)
 | str {s : ByteArray} (h : s.size ≤ bigB) : HasSh .str (.str s)
 | sl {by_ sz : Nat} {e : List Sh} {rs : List (List V)} (hl : rs.length * by_ ≤ bigB) (hm : rs.length ≤ maxLen) (hs : sz = e.length) (hr : ∀ r ∈ rs,r.length = sz) (h : ∀ r ∈ rs,∀ (j : Nat) s x,e[j]? = some s → r[j]? = some x → HasSh s x) : HasSh (.sl by_ e) (.sl sz rs)
structure HasL (e : List Sh) (r : List V) : Prop where
 len : r.length = e.length
 has : ∀ (j : Nat) s x,e[j]? = some s → r[j]? = some x → HasSh s x
theorem HasL.nil : HasL [] [] := ⟨rfl,fun _ _ _ h => by simp at h⟩
theorem HasL.app {e f : List Sh} {r q : List V} (h : HasL e r) (k : HasL f q) : HasL (e ++ f) (r ++ q) := ⟨by simp [h.len,k.len],fun j s x h1 h2 => by
 by_cases hj : j < e.length
 ·rw [List.getElem?_append_left hj] at h1
  rw [List.getElem?_append_left (by rw [h.len];exact hj)] at h2
  exact h.has j s x h1 h2
 ·rw [List.getElem?_append_right (by omega)] at h1
  rw [List.getElem?_append_right (by rw [h.len];omega),h.len] at h2
  exact k.has _ s x h1 h2⟩
theorem HasL.one {s : Sh} {x : V} (h : HasSh s x) : HasL [s] [x] := ⟨rfl,fun j a b h1 h2 => by
 cases j with
 | zero => simp at h1 h2;subst h1 h2;exact h
 | succ j => simp at h1⟩
theorem HasL.cons_inv {s : Sh} {e : List Sh} {r : List V} (h : HasL (s :: e) r) : ∃ x q,r = x :: q ∧ HasSh s x ∧ HasL e q := by
 cases r with
 | nil => have := h.len;simp at this
 | cons x q => exact ⟨x,q,rfl,h.has 0 s x rfl rfl,by have := h.len;simpa using this,fun j a b h1 h2 => h.has (j + 1) a b (by simpa using h1) (by simpa using h2)⟩
theorem HasL.nil_inv {r : List V} (h : HasL [] r) : r = [] := List.eq_nil_of_length_eq_zero h.len
def shFs (g : Nat → Option (List Sh)) : List (Nat × TypeId) → Nat → Option (List Sh)
 | [],_ => some []
 | (off,t) :: r,o => bif Nat.beq off o then match g t with
   | none => none
   | some l => match shFs g r (o + l.length) with
    | none => none
    | some m => some (l ++ m)
  else none
def shT (T : List (Nat × Ty)) : Nat → Nat → Option (List Sh)
 | 0,_ => none
 | f + 1,t => match lk t T with
  | none => none
  | some i => match i.k with
   | .in_ k => bif Nat.beq i.size 1 then some [.int k] else none
   | .bo => bif Nat.beq i.size 1 then some [.bool] else none
   | .sr => bif Nat.beq i.size 1 then some [.str] else none
   | .sl e => match lk e T with
    | none => none
    | some j => match shT T f e with
     | none => none
     | some l => bif Nat.beq l.length j.size && (Nat.blt 0 j.size && Nat.beq i.size 1) then some [.sl j.bytes l] else none
   | .st fs => match shFs (shT T f) fs 0 with
    | none => none
    | some l => bif Nat.beq l.length i.size then some l else none
   | _ => none
section
variable {H : Type} {enc : TypeId × Value → H} {P : Program} {T : List (Nat × Ty)} [hT : Tys P T] {w : World} {base : Nat} {spare : Nat → Bool} {held : Bool}
abbrev zW (w : World) : Fz := ⟨⟨fun b => b < w.heap.size,fun _ => [],fun _ => True⟩,w⟩
omit hT in
theorem weightsAll_mem {e : TypeId} : ∀ {ds : List (DataW H)} {d : DataW H},d ∈ ds → ∀ m ∈ d.weights P e,m ∈ DataW.weightsAll P e ds
 | x :: r,d,h,m,hm => by
  simp only [DataW.weightsAll,List.mem_append]
  rcases List.mem_cons.1 h with rfl | h
  ·exact .inl hm
  ·exact .inr (weightsAll_mem h m hm)
def Opn (enc : TypeId × Value → H) (P : Program) (w : World) (base : Nat) (spare : Nat → Bool) (held : Bool) (t : TypeId) (sh : List Sh) : Prop :=
 ∀ (n : Nat) (cs : List Value) (y : DataW H × List MemPlace),DataW.trod enc P w base spare held n t cs = some y → (∀ m ∈ y.1.weights P t,m ≤ bigB) → ∃ xs : List V,HasL sh xs ∧ DenVL (zW w) xs cs
theorem opn_slice {t e : TypeId} {l : List Sh} {i j : Ty} (ht : lk t T = some i) (hi : i.k = .sl e) (hj : lk e T = some j) (hl : l.length = j.size) (hp : 0 < j.size) (ih : Opn enc P w base spare held e l) : Opn enc P w base spare held t [.sl j.bytes l] := by
 intro n cs y h hw
 have ku := (hT.ok t i ht).kind
 rw [hi] at ku
 have ku : P.underlying t = some (.slice e) := ku
 obtain ⟨f,z,q1,q2,q3,_⟩ := (hT.ok e j hj).info
 have hC : P.cellsOf e = j.size := by simp [Program.cellsOf,q1,q2]
 have hBy : P.bytesOf e = j.bytes := by simp [Program.bytesOf,q1,q3]
 rcases open_slice ku h with ⟨rfl,rfl⟩ | ⟨a,len,cap,k,n',D,Pl,rfl,hb,hlc,hmx,hk,hx,hcell⟩
 ·exact ⟨[.sl j.size []],.one (.sl (by simp) (by simp) (by rw [hl]) (by simp) (by simp)),⟨rfl,rfl,fun m d u e1 e2 => by
   cases m with
   | zero => simp at e1 e2;subst e1 e2;exact .sl (b := 0) (o := 0) [] rfl (Nat.le_refl _) (Nat.zero_le _) (by simp) (fun h => absurd rfl h) rfl (by simp) rfl (by simp)
   | succ m => simp at e1⟩⟩
 ·have hlk : len ≤ k := by rw [hk];split <;> omega
  have hwt : (((List.range len).map D).length + ((List.range (k - len)).map fun j => D (len + j)).length) * P.bytesOf e ≤ bigB := hw _ (by rw [hx];exact weights_slice ku)
  have hwe : ∀ i,i < len → ∀ m ∈ (D i).weights P e,m ≤ bigB := fun i hi m hm => hw m (by
   rw [hx]
   simp only [DataW.weights,ku,List.mem_cons,List.mem_append]
   exact .inr (.inl (weightsAll_mem (List.mem_map.2 ⟨i,List.mem_range.2 hi,rfl⟩) m hm)))
  have hE : ∀ i,i < len → ∃ (xs : List V) (cs : List Value),HasL l xs ∧ DenVL (zW w) xs cs ∧ ∀ m,m < j.size → w.cell? (a.add (i * j.size + m)) = cs[m]? := by
   intro i hil
   obtain ⟨cs',hc,ht'⟩ := hcell i (by omega)
   obtain ⟨xs,h1,h2⟩ := ih _ _ _ ht' (hwe i hil)
   rw [hC] at hc
   obtain ⟨_,hcl,hat⟩ := World.cells?_some hc
   exact ⟨xs,cs',h1,h2,fun m hm => by rw [← add_of_add];exact hat m hm⟩
  have hL : ∀ k,k ≤ len → ∃ (rs : List (List V)) (us : List Value),rs.length = k ∧ (∀ r ∈ rs,HasL l r) ∧ DenVL (zW w) rs.flatten us ∧ us.length = k * j.size ∧ ∀ m u,us[m]? = some u → w.cell? (a.add m) = some u := by
   intro k
   induction k with
   | zero => intro _;exact ⟨[],[],rfl,by simp,.nil,by simp,by simp⟩
   | succ k ihk =>
    intro hk
    obtain ⟨rs,us,h1,h2,h3,h4,h5⟩ := ihk (by omega)
    obtain ⟨xs,cs,g1,g2,g3⟩ := hE k (by omega)
    have gl : cs.length = j.size := by rw [g2.len,g1.len,hl]
    refine ⟨rs ++ [xs],us ++ cs,by simp [h1],fun r hr => ?_,by rw [List.flatten_append];simpa using h3.app g2,by rw [List.length_append,h4,gl,Nat.add_mul,Nat.one_mul],fun m u hu => ?_⟩
    ·rcases List.mem_append.1 hr with hr | hr
     ·exact h2 r hr
     ·rw [List.mem_singleton.1 hr];exact g1
    ·by_cases hm : m < k * j.size
     ·rw [List.getElem?_append_left (by omega)] at hu
      exact h5 m u hu
     ·rw [List.getElem?_append_right (by omega),h4] at hu
      have hlt : m - k * j.size < j.size := by have := (List.getElem?_eq_some_iff.1 hu).1;omega
      have := g3 _ hlt
      rw [show k * j.size + (m - k * j.size) = m by omega] at this
      rw [this,hu]
  obtain ⟨rs,us,h1,h2,h3,h4,h5⟩ := hL len (Nat.le_refl _)
  have hlen : len * j.bytes ≤ bigB := by
   simp only [List.length_map,List.length_range,hBy] at hwt
   exact Nat.le_trans (Nat.mul_le_mul_right _ (Nat.le_add_right _ _)) hwt
  have hr : ∀ r ∈ rs,r.length = j.size := fun r hr => by rw [(h2 r hr).len,hl]
  refine ⟨[.sl j.size rs],.one (.sl (by rw [h1];exact hlen) (by omega) hl.symm hr (fun r hr => (h2 r hr).has)),⟨rfl,rfl,fun m d u e1 e2 => ?_⟩⟩
  cases m with
  | succ m => simp at e1
  | zero =>
   simp at e1 e2
   subst e1 e2
   by_cases hrs : rs = []
   ·subst hrs
    have : len = 0 := by simpa using h1.symm
    subst this
    exact .sl (b := 0) (o := 0) [] rfl (Nat.zero_le _) (Nat.zero_le _) hr (fun h => absurd rfl h) rfl (by simp) rfl (by simp)
   ·have hus : 0 < us.length := by
     rw [h4]
     have : 0 < len := by rw [← h1];exact List.length_pos_iff.2 hrs
     exact Nat.mul_pos this hp
    obtain ⟨b,off,spot⟩ := a
    have hc0 := h5 0 _ (List.getElem?_eq_getElem hus)
    have hspot : spot = none := by simpa [Addr.add] using World.cell?_spot hc0
    subst hspot
    have hlt := cell_lt hc0
    refine .sl (b := b) (o := off) us h1 hlc (by omega) hr (fun _ => ⟨rfl,by simpa [block_of_add] using hlt⟩) h3.len (fun m u hu => ?_) h3.one h3.den
    have := h5 m u hu
    rwa [add_plain] at this
theorem opn_struct {t : TypeId} {g : Nat → Option (List Sh)} {fs : List (Nat × TypeId)} {sh : List Sh} {i : Ty} (ht : lk t T = some i) (hi : i.k = .st fs) (hs : shFs g fs 0 = some sh) (hl : sh.length = i.size) (ih : ∀ u l,g u = some l → Opn enc P w base spare held u l) (hg : ∀ u l,g u = some l → P.cellsOf u = l.length) : Opn enc P w base spare held t sh := by
 intro n cs y h hw
 have ku := (hT.ok t i ht).kind
 rw [hi] at ku
 obtain ⟨fields,k1,k2⟩ := ku
 obtain ⟨f,z,q1,q2,_⟩ := (hT.ok t i ht).info
 have hC : P.cellsOf t = i.size := by simp [Program.cellsOf,q1,q2]
 obtain ⟨xs,n',_,rfl,hcl,hxl,hf⟩ := DataW.trod_struct k1 h
 rw [hC] at hcl
 have hwf : ∀ (m : Nat) (fd : Field) (x : DataW H × List MemPlace),fields[m]? = some fd → xs[m]? = some x → ∀ q ∈ x.1.weights P fd.type,q ≤ bigB := fun m fd x e1 e2 q hq => hw q (weights_field (j := m) k1 (by rw [List.getElem?_map,Array.getElem?_toList,e1];rfl) (by rw [List.getElem?_map,e2];rfl) hq)
 have key : ∀ (l : List (Nat × TypeId)) (m o : Nat) (sh : List Sh),(∀ (q : Nat) p,l[q]? = some p → fs[m + q]? = some p) → shFs g l o = some sh → ∃ vs : List V,HasL sh vs ∧ ((o + sh.length ≤ cs.length) → DenVL (zW w) vs ((cs.drop o).take sh.length)) := by
  intro l
  induction l with
  | nil => intro m o sh _ hs;simp [shFs] at hs;subst hs;exact ⟨[],.nil,fun _ => by simpa using DenVL.nil⟩
  | cons p r ihl =>
   intro m o sh hp hs
   obtain ⟨off,u⟩ := p
   simp only [shFs] at hs
   cases hb : Nat.beq off o <;> rw [hb] at hs
   ·cases hs
   ·simp only [cond_true] at hs
    have := Nat.eq_of_beq_eq_true hb
    subst this
    cases hgu : g u with
    | none => simp only [hgu] at hs;cases hs
    | some l1 =>
     simp only [hgu] at hs
     cases hr : shFs g r (off + l1.length) with
     | none => simp only [hr] at hs;cases hs
     | some l2 =>
      simp only [hr] at hs
      injection hs with hs
      subst hs
      obtain ⟨vs,v1,v2⟩ := ihl (m + 1) _ l2 (fun q p hq => by have := hp (q + 1) p (by simpa using hq);rwa [show m + (q + 1) = m + 1 + q by omega] at this) hr
      have hfs := hp 0 (off,u) rfl
      rw [Nat.add_zero,← k2,List.getElem?_map] at hfs
      cases hfd : fields.toList[m]? with
      | none => rw [hfd] at hfs;cases hfs
      | some fd =>
       rw [hfd] at hfs
       simp only [Option.map_some,Option.some.injEq,Prod.mk.injEq] at hfs
       obtain ⟨e1,e2⟩ := hfs
       rw [Array.getElem?_toList] at hfd
       have hrd := hf m fd hfd
       rw [e1,e2,hg u l1 hgu] at hrd
       have hmx : m < xs.length := by rw [hxl];exact (Array.getElem?_eq_some_iff.1 hfd).1
       have hxm := List.getElem?_eq_getElem hmx
       rw [hxm] at hrd
       have hww := hwf m fd _ hfd hxm
       rw [e2] at hww
       obtain ⟨ws,w1,w2⟩ := ih u l1 hgu _ _ _ hrd hww
       refine ⟨ws ++ vs,w1.app v1,fun ho => ?_⟩
       simp only [List.length_append] at ho
       have h2 := v2 (by omega)
       have hsp : (cs.drop off).take (l1 ++ l2).length = (cs.drop off).take l1.length ++ (cs.drop (off + l1.length)).take l2.length := by
        rw [List.length_append,List.take_add,List.drop_drop]
       rw [hsp]
       exact w2.app h2
 obtain ⟨vs,v1,v2⟩ := key fs 0 0 sh (fun q p h => by rwa [Nat.zero_add]) hs
 refine ⟨vs,v1,?_⟩
 have := v2 (by omega)
 rwa [List.drop_zero,List.take_of_length_le (by omega)] at this
omit hT in
theorem den_one {x : V} {v : Value} (h : DenV (zW w) x v) : DenVL (zW w) [x] [v] := ⟨rfl,by simp [h.one],fun m d u e1 e2 => by
 cases m with
 | zero => simp at e1 e2;subst e1 e2;exact h
 | succ m => simp at e1⟩
theorem shT_cells : ∀ {f t : Nat} {sh : List Sh},shT T f t = some sh → P.cellsOf t = sh.length
 | 0,t,sh,h => by cases h
 | f + 1,t,sh,h => by
  simp only [shT] at h
  cases ht : lk t T with
  | none => rw [ht] at h;cases h
  | some i =>
   rw [ht] at h
   simp only at h
   obtain ⟨q,z,q1,q2,_⟩ := (hT.ok t i ht).info
   have hC : P.cellsOf t = i.size := by simp [Program.cellsOf,q1,q2]
   rw [hC]
   split at h
   ·cases hb : Nat.beq i.size 1 <;> rw [hb] at h
    ·cases h
    ·injection h with h;subst h;exact Nat.eq_of_beq_eq_true hb
   ·cases hb : Nat.beq i.size 1 <;> rw [hb] at h
    ·cases h
    ·injection h with h;subst h;exact Nat.eq_of_beq_eq_true hb
   ·cases hb : Nat.beq i.size 1 <;> rw [hb] at h
    ·cases h
    ·injection h with h;subst h;exact Nat.eq_of_beq_eq_true hb
   ·rename_i e hk
    split at h
    ·cases h
    ·rename_i j hj
     split at h
     ·cases h
     ·rename_i l hl
      cases hb : (Nat.beq l.length j.size && (Nat.blt 0 j.size && Nat.beq i.size 1)) <;> rw [hb] at h
      ·cases h
      ·injection h with h;subst h
       simp only [Bool.and_eq_true] at hb
       exact Nat.eq_of_beq_eq_true hb.2.2
   ·split at h
    ·cases h
    ·rename_i l hl
     cases hb : Nat.beq l.length i.size <;> rw [hb] at h
     ·cases h
     ·injection h with h;subst h;exact (Nat.eq_of_beq_eq_true hb).symm
   ·cases h
theorem opn : ∀ {f t : Nat} {sh : List Sh},shT T f t = some sh → Opn enc P w base spare held t sh
 | 0,t,sh,h => by cases h
 | f + 1,t,sh,h => by
  simp only [shT] at h
  cases ht : lk t T with
  | none => rw [ht] at h;cases h
  | some i =>
   rw [ht] at h
   simp only at h
   split at h
   ·rename_i k hk
    cases hb : Nat.beq i.size 1 <;> rw [hb] at h
    ·cases h
    ·injection h with h;subst h
     have ku := (hT.ok t i ht).kind
     rw [hk] at ku
     have ku : P.underlying t = some (.int k) := ku
     intro n cs y hy _
     obtain ⟨z,rfl,_,hz⟩ := DataW.trod_int ku hy
     exact ⟨[.int k z],.one (.int hz),den_one (.int _ _)⟩
   ·rename_i hk
    cases hb : Nat.beq i.size 1 <;> rw [hb] at h
    ·cases h
    ·injection h with h;subst h
     have ku := (hT.ok t i ht).kind
     rw [hk] at ku
     have ku : P.underlying t = some .bool := ku
     intro n cs y hy _
     obtain ⟨z,rfl,_⟩ := DataW.trod_bool ku hy
     exact ⟨[.bool z],.one .bool,den_one (.bool _)⟩
   ·rename_i hk
    cases hb : Nat.beq i.size 1 <;> rw [hb] at h
    ·cases h
    ·injection h with h;subst h
     have ku := (hT.ok t i ht).kind
     rw [hk] at ku
     have ku : P.underlying t = some .string := ku
     intro n cs y hy hw
     obtain ⟨z,rfl,rfl,hz⟩ := DataW.trod_string ku hy
     have := hw z.data.toList.length (show _ ∈ [z.data.toList.length] from List.mem_singleton.2 rfl)
     have e : z.data.toList.length = z.size := Array.length_toList
     rw [e] at this
     exact ⟨[.str z],.one (.str this),den_one (.str _ hz)⟩
   ·rename_i e hk
    split at h
    ·cases h
    ·rename_i j hj
     split at h
     ·cases h
     ·rename_i l hl
      cases hb : (Nat.beq l.length j.size && (Nat.blt 0 j.size && Nat.beq i.size 1)) <;> rw [hb] at h
      ·cases h
      ·injection h with h;subst h
       simp only [Bool.and_eq_true] at hb
       exact opn_slice ht hk hj (Nat.eq_of_beq_eq_true hb.1) (by simpa [Nat.blt_eq] using hb.2.1) (opn hl)
   ·rename_i fs hk
    split at h
    ·cases h
    ·rename_i l hl
     cases hb : Nat.beq l.length i.size <;> rw [hb] at h
     ·cases h
     ·injection h with h;subst h
      exact opn_struct ht hk hl (Nat.eq_of_beq_eq_true hb) (fun u l hu => opn hu) (fun u l hu => shT_cells hu)
   ·cases h
theorem arg_open {f t : Nat} {s : Sh} {v : Value} {d : DataW H} {p : List MemPlace} (hs : shT T f t = some [s]) (h : DataW.Trod enc P w base spare held t v d p) (hz : ∀ n ∈ d.weights P t,n ≤ bigB) (hv : v.cells = #[v]) : ∃ x,HasSh s x ∧ ∀ ρ,DenS ρ (zW w) (.d (.u x)) v := by
 obtain ⟨n,hn⟩ := h
 rw [hv] at hn
 obtain ⟨xs,h1,h2⟩ := opn hs n _ _ hn hz
 obtain ⟨x,q,rfl,h3,h4⟩ := h1.cons_inv
 have := h4.nil_inv
 subst this
 exact ⟨x,h3,fun ρ => .d (.u (h2.den 0 x v rfl rfl))⟩
end
end Go.Proofs.YtjpaaaecbgmcgaaGreatDoor
namespace Go.Proofs.YtjpaaaecbgmcgaaGreatDoor
open Go.ChangeShapes Go.WideShapes Go.ChangeAt Go.Deep Go.RowKit
theorem law_liftedL {C : Checked} {os : Os} {f : FuncId} {fn : Func} {s : ChangeSpec} {tb : TypeId} {apart fresh : Bool} {conds : List PathCond} {laid : List (String × DataW Unit)} (started : os.Started) (H : Type) (enc : TypeId × Value → H) (F : Stop.Interp)
  (own : ownKnob C.prog.godebug = none) (noInit : C.prog.inits.idxOf? f = none) (hfn : C.prog.funcs[f]? = some fn)
  (witness : ∃ (w : World) (tape : Tape) (i : Input),w.os = os ∧ (w.forCall tape i).Shaped C.prog ∧ i.vars = [] ∧ Input.okWide C.prog (w.forCall tape i) .any w.heap.size f i ∧
   (Rows.OpenSpec.upto s).preRow enc C.prog fn conds apart laid (w.forCall tape i).memory i.args ∧ ({} : Assume).holds C.prog (lone (Frame.enter C.prog f i.args .normal) [] (w.forCall tape i)))
  (hl : laidOutB C.prog = true) (hT : paramsRead C.prog fn = true) (hres : fn.resultTypes = #[tb]) (htb : C.prog.underlying tb = some .bool) (hvars : s.vars = [])
  (hsp : ∀ ds : List (DataW H),ds.length = fn.params.size → s.fn H ds = { results := [.lit (.bool true)],args := ds })
  (walk : ∀ (W : World) (base : Nat) (args : Array Value) (ds : List (DataW H)) (p : List MemPlace),
   (∀ (j : Nat) t v,fn.params[j]? = some t → args[j]? = some v → Value.okWide C.prog W .any base t v) →
   DataW.TrodAll enc C.prog W 0 (fun _ => true) true fn.params.toList args.toList ds p → (∀ x ∈ p,x.block < W.heap.size) →
   Rows.uptoBulkAll ds ≤ 1048576 → laidMetH C.prog laid W →
   Calls C.prog f args W fun e W' => e = .returned (.bool true) ∧ Below W.heap.size W W') :
  ReturnsInHanded {} C os f .any ((Rows.OpenSpec.upto s).preRow enc C.prog fn conds apart laid) (((Rows.OpenSpec.upto s).at F).post enc C.prog fn apart fresh false false) := by
 refine returnsInHanded_of_row (s := Rows.OpenSpec.upto s) own started noInit hfn witness ?_
 intro W base args ds gs before hval hW0 _ hk _ hL _ _
 have hW : DataW.Whole enc C.prog fn.params.toList s.vars apart W args.toList ds gs before := hW0
 have hgs : gs = [] := by
  obtain ⟨p,q,hA,hV,he,_,_⟩ := hW
  rw [hvars] at hV
  exact (trodVars_none hV).1
 subst hgs
 have hlen : ds.length = fn.params.size := by
  obtain ⟨p,q,hA,_⟩ := hW
  have hlt : ∀ {ts : List TypeId} {vs : List Value} {ds : List (DataW H)} {ps : List MemPlace},DataW.TrodAll enc C.prog W 0 (fun _ => true) true ts vs ds ps → ds.length = ts.length := by
   intro ts
   induction ts with
   | nil => intro vs ds ps h;cases vs <;> cases ds <;> first | rfl | exact h.elim
   | cons t ts ih =>
    intro vs ds ps h
    cases vs with
    | nil => exact h.elim
    | cons v vs =>
     cases ds with
     | nil => exact h.elim
     | cons d ds =>
      obtain ⟨p,q,_,h2,_⟩ := h
      simp [ih h2]
  simpa using hlt hA
 have hb := of_decide_eq_true (hk _ rfl)
 rw [List.append_nil] at hb
 have hlt := hW.lt
 have hp : ∃ p,DataW.TrodAll enc C.prog W 0 (fun _ => true) true fn.params.toList args.toList ds p ∧ ∀ x ∈ p,x.block < W.heap.size := by
  obtain ⟨p,q,hA,hV,he,_,_⟩ := hW
  exact ⟨p,hA,fun x hx => hlt x (by rw [he];exact List.mem_append_left _ hx)⟩
 obtain ⟨p,hA,hpl⟩ := hp
 refine (walk W base args ds p hval hA hpl hb hL).mono fun e W' ⟨he,hb⟩ => ?_
 exact ⟨_,he,post_of_below hl hT hres htb hvars (hsp ds hlen) hW hb⟩
theorem laid_out : laidOutB Tryz.prog = true := by kernel_rfl
theorem own_knob : ownKnob Tryz.prog.godebug = none := by kernel_rfl
theorem law_liftedS {C : Checked} {os : Os} {f : FuncId} {fn : Func} {s : ChangeSpec} {tb : TypeId} {apart fresh : Bool} {conds : List PathCond} {laid : List (String × DataW Unit)} (started : os.Started) (H : Type) (enc : TypeId × Value → H) (F : Stop.Interp)
  (own : ownKnob C.prog.godebug = none) (noInit : C.prog.inits.idxOf? f = none) (hfn : C.prog.funcs[f]? = some fn)
  (witness : ∃ (w : World) (tape : Tape) (i : Input),w.os = os ∧ (w.forCall tape i).Shaped C.prog ∧ i.vars = [] ∧ Input.okWide C.prog (w.forCall tape i) .any w.heap.size f i ∧
   (Rows.OpenSpec.upto s).preRow enc C.prog fn conds apart laid (w.forCall tape i).memory i.args ∧ ({} : Assume).holds C.prog (lone (Frame.enter C.prog f i.args .normal) [] (w.forCall tape i)))
  (hl : laidOutB C.prog = true) (hT : paramsRead C.prog fn = true) (hres : fn.resultTypes = #[tb]) (htb : C.prog.underlying tb = some .bool) (hvars : s.vars = [])
  (hsp : ∀ ds : List (DataW H),ds.length = fn.params.size → s.fn H ds = { results := [.lit (.bool true)],args := ds })
  (walk : ∀ (W : World) (base : Nat) (args : Array Value) (ds : List (DataW H)) (p : List MemPlace),
   (∀ (j : Nat) t v,fn.params[j]? = some t → args[j]? = some v → Value.okWide C.prog W .any base t v) →
   DataW.TrodAll enc C.prog W 0 (fun _ => true) true fn.params.toList args.toList ds p → (∀ x ∈ p,x.block < W.heap.size) →
   Rows.uptoBulkAll ds ≤ 1048576 → laidMetH C.prog laid W → W.ShapedOpen C.prog →
   Calls C.prog f args W fun e W' => e = .returned (.bool true) ∧ Below W.heap.size W W') :
  ReturnsInHanded {} C os f .any ((Rows.OpenSpec.upto s).preRow enc C.prog fn conds apart laid) (((Rows.OpenSpec.upto s).at F).post enc C.prog fn apart fresh false false) := by
 refine returnsInHanded_of_row (s := Rows.OpenSpec.upto s) own started noInit hfn witness ?_
 intro W base args ds gs before hval hW0 _ hk _ hL hsh _
 have hW : DataW.Whole enc C.prog fn.params.toList s.vars apart W args.toList ds gs before := hW0
 have hgs : gs = [] := by
  obtain ⟨p,q,hA,hV,he,_,_⟩ := hW
  rw [hvars] at hV
  exact (trodVars_none hV).1
 subst hgs
 have hlen : ds.length = fn.params.size := by
  obtain ⟨p,q,hA,_⟩ := hW
  have hlt : ∀ {ts : List TypeId} {vs : List Value} {ds : List (DataW H)} {ps : List MemPlace},DataW.TrodAll enc C.prog W 0 (fun _ => true) true ts vs ds ps → ds.length = ts.length := by
   intro ts
   induction ts with
   | nil => intro vs ds ps h;cases vs <;> cases ds <;> first | rfl | exact h.elim
   | cons t ts ih =>
    intro vs ds ps h
    cases vs with
    | nil => exact h.elim
    | cons v vs =>
     cases ds with
     | nil => exact h.elim
     | cons d ds =>
      obtain ⟨p,q,_,h2,_⟩ := h
      simp [ih h2]
  simpa using hlt hA
 have hb := of_decide_eq_true (hk _ rfl)
 rw [List.append_nil] at hb
 have hlt := hW.lt
 have hp : ∃ p,DataW.TrodAll enc C.prog W 0 (fun _ => true) true fn.params.toList args.toList ds p ∧ ∀ x ∈ p,x.block < W.heap.size := by
  obtain ⟨p,q,hA,hV,he,_,_⟩ := hW
  exact ⟨p,hA,fun x hx => hlt x (by rw [he];exact List.mem_append_left _ hx)⟩
 obtain ⟨p,hA,hpl⟩ := hp
 refine (walk W base args ds p hval hA hpl hb hL hsh).mono fun e W' ⟨he,hb⟩ => ?_
 exact ⟨_,he,post_of_below hl hT hres htb hvars (hsp ds hlen) hW hb⟩
abbrev tyS : List Nat := [22,23,29,9,3]
theorem closed_tt : closedTS Tryz.prog tyS = true := by kernel_rfl
abbrev laidUL : List (String × DataW Unit) := [("math/bits.deBruijn32tab", Rows.laid_math_bits_deBruijn32tab), ("math/bits.deBruijn64tab", Rows.laid_math_bits_deBruijn64tab), ("internal/strconv.uint64pow10", Rows.laid_internal_strconv_uint64pow10), ("unicode/utf8.acceptRanges", Rows.laid_unicode_utf8_acceptRanges), ("strconv.ErrRange", Rows.laid_strconv_ErrRange), ("strconv.ErrSyntax", Rows.laid_strconv_ErrSyntax), ("unicode.White_Space", Rows.laid_unicode_White_Space), ("strings.asciiSpace", Rows.laid_strings_asciiSpace), ("unicode/utf8.first", Rows.laid_unicode_utf8_first)]
noncomputable def laidWorldU (os : Os) : World := World.laidAll Tryz.prog os laidUL
theorem laidU_met (os : Os) (args : Array Value) : laidMet Tryz.prog laidUL ((laidWorldU os).forCall (fun _ _ => 0) ⟨#[],args,[]⟩).memory :=
 laidMet_laidAll args (by kernel_rfl) (by kernel_rfl)
theorem laidU_os (os : Os) : (laidWorldU os).os = os := World.laidAll_os _ _ _
theorem tab_ofU {W : World} (h : laidMetH Tryz.prog laidUL W) : Lib.TabIs Tryz.prog W "internal/strconv.uint64pow10" .u64 Lib.pow10Tab := by
 have h1 : laidMet Tryz.prog laidUL W := h
 have h2 : laidMet Tryz.prog (("internal/strconv.uint64pow10", Rows.laid_internal_strconv_uint64pow10) :: [("unicode/utf8.acceptRanges", Rows.laid_unicode_utf8_acceptRanges), ("strconv.ErrRange", Rows.laid_strconv_ErrRange), ("strconv.ErrSyntax", Rows.laid_strconv_ErrSyntax), ("unicode.White_Space", Rows.laid_unicode_White_Space), ("strings.asciiSpace", Rows.laid_strings_asciiSpace), ("unicode/utf8.first", Rows.laid_unicode_utf8_first)]) W := h1.tail.tail
 exact Lib.tabIs_of_head (rest := [("unicode/utf8.acceptRanges", Rows.laid_unicode_utf8_acceptRanges), ("strconv.ErrRange", Rows.laid_strconv_ErrRange), ("strconv.ErrSyntax", Rows.laid_strconv_ErrSyntax), ("unicode.White_Space", Rows.laid_unicode_White_Space), ("strings.asciiSpace", Rows.laid_strings_asciiSpace), ("unicode/utf8.first", Rows.laid_unicode_utf8_first)]) (g := 1) (t := 182) (e := 146) (n := 20) (by kernel_rfl) (by kernel_rfl) (by kernel_rfl) (by kernel_rfl) (by kernel_rfl) (by kernel_rfl) h2
end Go.Proofs.YtjpaaaecbgmcgaaGreatDoor
namespace Go.Proofs.YtjpaaaecbgmcgaaGreatDoor
open Go.ChangeShapes Go.WideShapes Go.ChangeAt Go.Deep Go.RowKit
def spZ : List Int := (List.range 256).map fun i => if i == 9 || i == 10 || i == 11 || i == 12 || i == 13 || i == 32 then 1 else 0
theorem sp_eq : (Rows.laid_strings_asciiSpace : DataW Unit) = Lib.tabData .u8 spZ := by kernel_rfl
theorem fz_eq : Ev.fzA = [(2,spZ.map fun z => Value.int .u8 z)] := by kernel_rfl
theorem space_ofU {W : World} (h : laidMetH Tryz.prog laidUL W) : Ev.FzOk ⟨(· < W.heap.size),W⟩ Ev.fzA := by
 have h1 : laidMet Tryz.prog laidUL W := h
 have h2 : laidMet Tryz.prog (("strings.asciiSpace", Rows.laid_strings_asciiSpace) :: [("unicode/utf8.first", Rows.laid_unicode_utf8_first)]) W := h1.tail.tail.tail.tail.tail.tail.tail
 rw [sp_eq] at h2
 have h3 : Lib.TabIs Tryz.prog W "strings.asciiSpace" .u8 spZ := Lib.tabIs_of_head (g := 2) (t := 187) (e := 5) (n := 256) (by kernel_rfl) (by kernel_rfl) (by kernel_rfl) (by kernel_rfl) (by kernel_rfl) (by kernel_rfl) h2
 have hg : Tryz.prog.globalNamed "strings.asciiSpace" = some 2 := by kernel_rfl
 unfold Lib.TabIs World.var? at h3
 rw [hg] at h3
 simp only [Option.bind_some] at h3
 rw [fz_eq]
 intro g cs hk
 simp only [lk] at hk
 cases hb : Nat.beq g 2
 ·rw [hb] at hk;cases hk
 ·rw [hb] at hk
  have := Nat.eq_of_beq_eq_true hb
  subst this
  simp only [cond_true,Option.some.injEq] at hk
  subst hk
  generalize (spZ.map fun z => Value.int .u8 z) = L at *
  split at h3
  ·rename_i c e fr hh
   injection h3 with h3
   subst h3
   refine ⟨?_,fun j v hj => ?_⟩
   ·show 2 < W.heap.size
    rcases Nat.lt_or_ge 2 W.heap.size with h' | h'
    ·exact h'
    ·rw [Array.getElem?_eq_none h'] at hh;cases hh
   ·simp only [World.cell?,hh,Option.isSome_none,Bool.false_eq_true,if_false]
    simpa using hj
  ·cases h3
section
variable {f : FuncId} {ss : List SV}
theorem calls_of_AU {vs : List Value} {W : World} (h : ∀ zt,TabU zt → CallsA Tryz.prog f ss [(907,tbOb zt)] (Iso (db true) [(907,tbOb zt)])) (hL : laidMetH Tryz.prog laidUL W) (hv : ArgsAt rho0 (fg0 W) W ss vs) : Calls Tryz.prog f vs.toArray W fun e W' => e = .returned (.bool true) ∧ Below W.heap.size W W' := by
 have ht := tab_ofU hL
 have hg : Tryz.prog.globalNamed "internal/strconv.uint64pow10" = some 1 := by kernel_rfl
 have hlt : 1 < W.heap.size := by
  have h0 := ht
  unfold Lib.TabIs World.var? at h0
  rw [hg] at h0
  simp only [Option.bind_some] at h0
  rcases Nat.lt_or_ge 1 W.heap.size with h' | h'
  ·exact h'
  ·rw [Array.getElem?_eq_none h'] at h0;cases h0
 refine ((h ⟨fg0 W,W⟩ ⟨⟨⟨_,hg,hlt,ht⟩⟩,⟨space_ofU hL⟩⟩).out ⟨(· < W.heap.size),W,fg0 W⟩ rho0 [] vs W (Hp.init W) hv.1 ⟨fun _ h => h,Same.refl _ _,fun _ h => h,fun _ h => .inl h,.refl _,fun k s hk => ?_,⟨[],[],rfl,⟨rfl,.refl,.nil⟩,rfl⟩⟩).mono ?_
 ·obtain ⟨h1,h2⟩ := lk_slT hk
  have hlt : k - 0 < vs.length := by rw [hv.1];exact (List.getElem?_eq_some_iff.1 h2).1
  exact ⟨vs[k - 0],lk_slots h1 (List.getElem?_eq_getElem hlt),hv.2.1 _ s _ h2 (List.getElem?_eq_getElem hlt)⟩
 ·rintro e w' ⟨v,h',s,ob',ρ',G',rfl,hw',g',rfl,rfl⟩
  obtain ⟨u,u1,u2⟩ := g'.tm 0 _ rfl
  simp only [lk,Nat.beq_refl,cond_true,Option.some.injEq] at u1
  subst u1
  cases u2 with | d u2 => cases u2 with | u u2 => cases u2 with | bool =>
  exact ⟨rfl,(g'.fw.trans (hw'.same.mono g'.fF)).below⟩
end
end Go.Proofs.YtjpaaaecbgmcgaaGreatDoor
namespace Go.Proofs.YtjpaaaecbgmcgaaGreatDoor
open Go.ChangeShapes Go.WideShapes Go.ChangeAt Go.Deep Go.RowKit
theorem rows_ofP {α β : Type} {f : α → β} {P : α → Prop} : ∀ {rs : List β},(∀ r ∈ rs,∃ a,r = f a ∧ P a) → ∃ l : List α,rs = l.map f ∧ ∀ a ∈ l,P a
 | [],_ => ⟨[],rfl,fun _ h => by cases h⟩
 | r :: rs,h => by
  obtain ⟨a,rfl,ha⟩ := h r (by simp)
  obtain ⟨l,rfl,hl⟩ := rows_ofP (rs := rs) fun q hq => h q (by simp [hq])
  exact ⟨a :: l,rfl,fun b hb => by
   rcases List.mem_cons.1 hb with rfl | hb
   ·exact ha
   ·exact hl b hb⟩
theorem str_of {x : V} (h : HasSh .str x) : ∃ s : ByteArray,x = .str s ∧ s.size ≤ 4294967280 := by
 cases h with | str h =>
 have : bigB = 4294967280 := rfl
 exact ⟨_,rfl,by omega⟩
abbrev shStrs : Sh := .sl 16 [.str]
theorem shStrs_eq : shT tt 6 22 = some [shStrs] := by rfl
theorem strs_of {x : V} (h : HasSh shStrs x) : ∃ l : List ByteArray,x = .sl 1 (strs l) ∧ l.length ≤ 4294967280 ∧ ∀ s ∈ l,s.size ≤ 4294967280 := by
 cases h with | sl hl hm hs hr h =>
 rename_i rs
 subst hs
 have : ∀ r ∈ rs,∃ a : ByteArray,r = [V.str a] ∧ a.size ≤ 4294967280 := fun r hr' => by
  obtain ⟨x0,q,rfl,h0,hq⟩ := HasL.cons_inv ⟨hr r hr',h r hr'⟩
  have := hq.nil_inv
  subst this
  obtain ⟨s,rfl,hs⟩ := str_of h0
  exact ⟨s,rfl,hs⟩
 obtain ⟨l,rfl,hl2⟩ := rows_ofP this
 refine ⟨l,rfl,?_,hl2⟩
 rw [List.length_map] at hl
 have : bigB = 4294967280 := rfl
 omega
abbrev shOcs : Sh := .sl 72 [.str,.int .i64,.str,shStrs,.int .i64]
theorem shOcs_eq : shT tt 6 23 = some [shOcs] := by rfl
theorem ocs_of {x : V} (h : HasSh shOcs x) : ∃ os : List Oc,x = ocs os ∧ ∀ o ∈ os,o.trace.size ≤ 1000000000000 := by
 cases h with | sl hl hm hs hr h =>
 rename_i rs
 subst hs
 have : ∀ r ∈ rs,∃ a : Oc,r = a.row ∧ a.trace.size ≤ 1000000000000 := fun r hr' => by
  obtain ⟨x0,q,rfl,h0,hq⟩ := HasL.cons_inv ⟨hr r hr',h r hr'⟩
  obtain ⟨x1,q,rfl,h1,hq⟩ := hq.cons_inv
  obtain ⟨x2,q,rfl,h2,hq⟩ := hq.cons_inv
  obtain ⟨x3,q,rfl,h3,hq⟩ := hq.cons_inv
  obtain ⟨x4,q,rfl,h4,hq⟩ := hq.cons_inv
  have := hq.nil_inv
  subst this
  cases h0 with | str h0 =>
  cases h1 with | int =>
  cases h2 with | str h2 =>
  obtain ⟨b,rfl,hb⟩ := strs_of h3
  cases h4 with | int =>
  refine ⟨⟨_,_,_,_,_⟩,rfl,?_⟩
  have : bigB = 4294967280 := rfl
  dsimp only
  omega
 obtain ⟨l,rfl,hl2⟩ := rows_ofP this
 exact ⟨l,rfl,hl2⟩
end Go.Proofs.YtjpaaaecbgmcgaaGreatDoor
namespace Go.Proofs.YtjpaaaecbgmcgaaGreatDoor
open Go.ChangeShapes Go.WideShapes Go.ChangeAt Go.Deep Go.RowKit
theorem varsU (os : Os) (args : Array Value) : ((laidWorldU os).forCall (fun _ _ => 0) ⟨#[],args,[]⟩).variablesRefB Tryz.checked.prog = true := by kernel_rfl
theorem restU (os : Os) (args : Array Value) : (((laidWorldU os).forCall (fun _ _ => 0) ⟨#[],args,[]⟩).heap.toList.drop Tryz.checked.prog.globals.size).take ((begin Tryz.checked.prog (fun _ _ => 0) default).world.heap.size - Tryz.checked.prog.globals.size) = (begin Tryz.checked.prog (fun _ _ => 0) default).world.heap.toList.drop Tryz.checked.prog.globals.size := by kernel_rfl
end Go.Proofs.YtjpaaaecbgmcgaaGreatDoor
namespace Go.Proofs.YtjpaaaecbgmcgaaGreatDoor
open Go.RowKit
set_option maxHeartbeats 4000000 in
theorem verdictN_R (o : Oc) (hs : o.trace.size ≤ 1000000000000) : CallsA Tryz.prog 7 [.a [.u (.str o.out),.u (.int .i64 o.stop),.u (.str o.trace),.u .nl,.u (.int .i64 o.fuel)]] [] (Is (vS (verdM o))) := by
 have hat := fun a b => at_R a b
 obtain ⟨out,stop,trace,fin,fuel⟩ := o
 unfold verdM
 dsimp only at hs ⊢
 by_cases h0 : stop = 0
 ·rw [if_pos h0]
  refine callsA_of_vc (T := tt) Tryz.func7 rfl rfl rfl rfl rfl ?_
  repeat' ((conv => whnf);first | refine Gs.id ?_ | refine Brn.T (by (try simp only [smT]);first | rfl | assumption | fail) ?_ | (refine CL.mk (Or.inl ?_);(conv => whnf);refine Cl.is (hat _ _) rfl (by first | exact fun _ => rfl | fail) ?_) | fail)
  all_goals (conv => whnf)
  all_goals exact Ret.is rfl
 rw [if_neg h0]
 by_cases h2 : stop = 2
 ·rw [if_pos h2]
  refine callsA_of_vc (T := tt) Tryz.func7 rfl rfl rfl rfl rfl ?_
  repeat' ((conv => whnf);first | refine Gs.id ?_ | refine Brn.T (by (try simp only [smT]);first | rfl | assumption | fail) ?_ | refine Brn.F (by (try simp only [smT]);first | rfl | assumption | fail) ?_ | (refine CL.mk (Or.inl ?_);(conv => whnf);refine Cl.is (hat _ _) rfl (by first | exact fun _ => rfl | fail) ?_) | fail)
  all_goals (conv => whnf)
  all_goals exact Ret.is rfl
 rw [if_neg h2]
 by_cases h3 : stop = 3
 ·rw [if_pos h3]
  refine callsA_of_vc (T := tt) Tryz.func7 rfl rfl rfl rfl rfl ?_
  repeat' ((conv => whnf);first | refine Gs.id ?_ | refine Brn.T (by (try simp only [smT]);first | rfl | assumption | fail) ?_ | refine Brn.F (by (try simp only [smT]);first | rfl | assumption | fail) ?_ | (refine CL.mk (Or.inl ?_);(conv => whnf);refine Cl.is (hat _ _) rfl (by first | exact fun _ => rfl | fail) ?_) | fail)
  all_goals (conv => whnf)
  all_goals exact Ret.is rfl
 rw [if_neg h3]
 by_cases h1 : stop = 1
 ·rw [if_pos h1]
  have q1 := lastLine_R trace hs
  have hz := lineM_size trace
  generalize lineM trace = s at *
  unfold vline
  by_cases h4 : 4000 < s.size
  ·rw [if_pos h4]
   refine callsA_of_vc (T := tt) Tryz.func7 rfl rfl rfl rfl rfl ?_
   repeat' ((conv => whnf);first | refine Gs.id ?_ | refine Brn.T (by (try simp only [smT]);first | rfl | omega | fail) ?_ | refine Brn.F (by (try simp only [smT]);first | rfl | assumption | fail) ?_ | (refine Bnd.mk (fun hm => ?_);(try simp only [smT] at hm)) | (refine CL.mk (Or.inl ?_);(conv => whnf);first | refine Cl.is (q1) rfl (by first | exact fun _ => rfl | fail) ?_ | refine Cl.is (hat _ _) rfl (by first | exact fun _ => rfl | fail) ?_) | fail)
   all_goals (conv => whnf)
   all_goals exact Ret.is rfl
  ·rw [if_neg h4]
   have ha := toList_beq s assB
   by_cases h5 : s = assB
   ·rw [if_pos h5]
    rw [decide_eq_true h5] at ha
    clear h5
    refine callsA_of_vc (T := tt) Tryz.func7 rfl rfl rfl rfl rfl ?_
    repeat' ((conv => whnf);first | refine Gs.id ?_ | refine Brn.T (by (try simp only [smT]);first | rfl | assumption | fail) ?_ | refine Brn.F (by (try simp only [smT]);first | rfl | assumption | omega | fail) ?_ | (refine Bnd.mk (fun hm => ?_);(try simp only [smT] at hm)) | (refine CL.mk (Or.inl ?_);(conv => whnf);first | refine Cl.is (q1) rfl (by first | exact fun _ => rfl | fail) ?_ | refine Cl.is (hat _ _) rfl (by first | exact fun _ => rfl | fail) ?_) | fail)
    all_goals (conv => whnf)
    all_goals exact Ret.is rfl
   ·rw [if_neg h5]
    rw [decide_eq_false h5] at ha
    clear h5
    have hez : (ByteArray.mk #[101,114,114,111,114,58,32]).size = 7 := rfl
    have hfz : (ByteArray.mk #[102,97,105,108,101,100,58,32]).size = 8 := rfl
    have hcz : assC.size = 16 := rfl
    have hb := toList_beq (s.extract 0 16) assC
    unfold preB
    rw [hcz]
    by_cases h6 : 16 ≤ s.size
    ·rw [decide_eq_true h6,Bool.true_and]
     generalize hx : s.extract 0 16 = x at *
     have hsx : (s.extract 16 s.size).size = s.size - 16 := by simp only [ByteArray.size_extract];omega
     generalize hy : s.extract 16 s.size = y at *
     by_cases h7 : x = assC
     ·rw [decide_eq_true h7] at hb ⊢
      rw [if_pos rfl]
      refine callsA_of_vc (T := tt) Tryz.func7 rfl rfl rfl rfl rfl ?_
      repeat' ((conv => whnf);first | (refine Slc.mk ⟨0,16,rfl,rfl,by omega,by omega,?_⟩;rw [hx]) | (refine Slc.mk ⟨16,s.size,rfl,rfl,by omega,by omega,?_⟩;rw [hy]) | refine Cat.mk (by unfold maxLen;(try simp only [ByteArray.size_append]);omega) ?_ | refine Gs.id ?_ | refine Brn.T (by (try simp only [smT]);first | rfl | assumption | omega | fail) ?_ | refine Brn.F (by (try simp only [smT]);first | rfl | assumption | omega | fail) ?_ | (refine Bnd.mk (fun hm => ?_);(try simp only [smT] at hm)) | refine Drw.of (T := tt) (i := 15) [5] [] [(0,true),(1,true),(2,true),(3,false),(4,true),(5,false)] (by kernel_rfl) ?_ | (refine CL.mk (Or.inl ?_);(conv => whnf);first | refine Cl.is (q1) rfl (by first | exact fun _ => rfl | fail) ?_ | refine Cl.is (hat _ _) rfl (by first | exact fun _ => rfl | fail) ?_) | fail)
      all_goals (conv => whnf)
      all_goals exact Ret.is rfl
     ·rw [decide_eq_false h7] at hb ⊢
      rw [if_neg (by simp)]
      refine callsA_of_vc (T := tt) Tryz.func7 rfl rfl rfl rfl rfl ?_
      repeat' ((conv => whnf);first | (refine Slc.mk ⟨0,16,rfl,rfl,by omega,by omega,?_⟩;rw [hx]) | refine Cat.mk (by unfold maxLen;(try simp only [ByteArray.size_append]);omega) ?_ | refine Gs.id ?_ | refine Brn.T (by (try simp only [smT]);first | rfl | omega | fail) ?_ | refine Brn.F (by (try simp only [smT]);first | rfl | assumption | omega | fail) ?_ | (refine Bnd.mk (fun hm => ?_);(try simp only [smT] at hm)) | (refine CL.mk (Or.inl ?_);(conv => whnf);first | refine Cl.is (q1) rfl (by first | exact fun _ => rfl | fail) ?_ | refine Cl.is (hat _ _) rfl (by first | exact fun _ => rfl | fail) ?_) | fail)
      all_goals (conv => whnf)
      all_goals exact Ret.is rfl
    ·rw [decide_eq_false h6,Bool.false_and,if_neg (by simp)]
     refine callsA_of_vc (T := tt) Tryz.func7 rfl rfl rfl rfl rfl ?_
     repeat' ((conv => whnf);first | refine Cat.mk (by unfold maxLen;(try simp only [ByteArray.size_append]);omega) ?_ | refine Gs.id ?_ | with_reducible refine Brn.F rfl ?_ | refine Brn.F (by (try simp only [smT]);first | rfl | assumption | omega | fail) ?_ | (refine Bnd.mk (fun hm => ?_);(try simp only [smT] at hm)) | (refine CL.mk (Or.inl ?_);(conv => whnf);first | refine Cl.is (q1) rfl (by first | exact fun _ => rfl | fail) ?_ | refine Cl.is (hat _ _) rfl (by first | exact fun _ => rfl | fail) ?_) | fail)
     all_goals (conv => whnf)
     all_goals exact Ret.is rfl
 ·rw [if_neg h1]
  refine callsA_of_vc (T := tt) Tryz.func7 rfl rfl rfl rfl rfl ?_
  repeat' ((conv => whnf);first | refine Gs.id ?_ | refine Brn.T (by (try simp only [smT]);first | rfl | assumption | fail) ?_ | refine Brn.F (by (try simp only [smT]);first | rfl | assumption | fail) ?_ | (refine CL.mk (Or.inl ?_);(conv => whnf);refine Cl.is (hat _ _) rfl (by first | exact fun _ => rfl | fail) ?_) | fail)
  all_goals (conv => whnf)
  all_goals exact Ret.is rfl
end Go.Proofs.YtjpaaaecbgmcgaaGreatDoor
namespace Go.Proofs.YtjpaaaecbgmcgaaGreatDoor
open Go.RowKit
theorem lastB_none (s : ByteArray) (c : UInt8) : ∀ i,(∀ j,j < i → s.data[j]? ≠ some c) → lastB s c i = -1
 | 0,_ => rfl
 | i + 1,h => by rw [lastB,if_neg (h i (by omega))];exact lastB_none s c i fun j hj => h j (by omega)
theorem lastB_after (s : ByteArray) (c : UInt8) : ∀ (i j : Nat),lastB s c i < (j : Int) → j < i → s.data[j]? ≠ some c
 | 0,_,_,h => absurd h (by omega)
 | i + 1,j,h,hj => by
  rw [lastB] at h
  split at h
  ·omega
  ·rename_i hn
   by_cases e : j = i
   ·subst e;exact hn
   ·exact lastB_after s c i j h (by omega)
abbrev hasNl (x : ByteArray) : Prop := (10 : UInt8) ∈ x.data.toList
theorem tail_id {t : ByteArray} (h : ¬ hasNl t) : tailM t = t := by
 have e : lastB t 10 t.size = -1 := lastB_none _ _ _ fun j hj e => h (by
  have := Array.mem_of_getElem? e
  simpa using this)
 unfold tailM
 rw [e]
 refine bytes_ext ?_
 simp
theorem tail_no (t : ByteArray) : ¬ hasNl (tailM t) := by
 unfold hasNl tailM
 intro h
 simp only [ByteArray.data_extract,Array.toList_extract,List.extract_eq_take_drop] at h
 have h := List.mem_of_mem_take h
 obtain ⟨j,hj⟩ := List.mem_iff_getElem?.1 h
 rw [List.getElem?_drop] at hj
 have hlt : (lastB t 10 t.size + 1).toNat + j < t.size := by
  have := (List.getElem?_eq_some_iff.1 hj).1
  simpa using this
 refine lastB_after t 10 t.size _ ?_ hlt (by simpa using hj)
 omega
theorem line_nl (t : ByteArray) : lineM (t ++ nlB) = tailM t := by
 have hz : nlB.size = 1 := rfl
 have e1 : (t ++ nlB).size = t.size + 1 := by rw [ByteArray.size_append,hz]
 have h1 : sufB (t ++ nlB) nlB = true := by
  unfold sufB
  rw [hz,e1,decide_eq_true (show 1 ≤ t.size + 1 by omega),Bool.true_and]
  refine decide_eq_true ?_
  have := ext_app t nlB
  rw [e1] at this
  exact this
 unfold lineM trimS
 rw [if_pos h1,hz,e1]
 congr 1
 refine bytes_ext ?_
 simp [ByteArray.data_append]
theorem mem_app {p r : ByteArray} : hasNl (p ++ r) ↔ hasNl p ∨ hasNl r := by simp [hasNl,ByteArray.data_append]
def okV (t v : ByteArray) : Bool := decide ((vline (tailM t)).2.1 = 0) && decide ((vline (tailM t)).1 = v)
def lnOk (x : ByteArray) : Bool := !decide (hasNl x) && decide (x.size ≤ 4000) && !decide (x = assB) && !preB x assC
def rsOk (x : ByteArray) : Bool := !decide (hasNl x) && decide (x.size ≤ 3984)
def isC (v : ByteArray) : Bool := decide (v = okB) || decide (v = fuelB) || decide (v = outB) || decide (v = failB)
def possB (v : ByteArray) : Bool := isC v || (if preB v errB = true then lnOk (v.extract 7 v.size) else preB v failC && rsOk (v.extract 8 v.size))
def possR (v : ByteArray) : Bool := isC v || (if preB v failC = true then okV (assC ++ v.extract 8 v.size) v else preB v errB && okV (v.extract 7 v.size) v)
theorem vline_no {t : ByteArray} (h : ¬ hasNl t) : ¬ hasNl (vline t).1 := by
 unfold vline
 split
 ·decide
 ·split
  ·decide
  ·split
   ·dsimp only
    rw [mem_app]
    rintro (q | q)
    ·exact absurd q (by decide)
    ·refine h ?_
     simp only [hasNl,ByteArray.data_extract,Array.toList_extract,List.extract_eq_take_drop] at q
     exact List.mem_of_mem_drop (List.mem_of_mem_take q)
   ·dsimp only
    rw [mem_app]
    rintro (q | q)
    ·exact absurd q (by decide)
    ·exact h q
theorem okV_nl {t v : ByteArray} (h : hasNl v) : okV t v = false := by
 unfold okV
 rw [Bool.and_eq_false_iff]
 refine .inr (decide_eq_false fun e => ?_)
 rw [← e] at h
 exact vline_no (tail_no t) h
theorem first_ne {p q : ByteArray} (h : p.data.toList.head? ≠ q.data.toList.head?) (hp : p.data.toList ≠ []) (hq : q.data.toList ≠ []) (r s : ByteArray) : p ++ r ≠ q ++ s := by
 intro e
 have e := congrArg (fun x => x.data.toList) e
 simp only [ByteArray.data_append,Array.toList_append] at e
 generalize p.data.toList = a at *
 generalize q.data.toList = b at *
 cases a with
 | nil => exact hp rfl
 | cons x a =>
  cases b with
  | nil => exact hq rfl
  | cons y b =>
   simp only [List.cons_append,List.cons.injEq] at e
   exact h (by rw [List.head?_cons,List.head?_cons,e.1])
theorem fail_err (r s : ByteArray) : failC ++ r ≠ errB ++ s := first_ne (by decide) (by decide) (by decide) r s
theorem pre_ne {r : ByteArray} : preB (failC ++ r) errB = false := by
 cases h : preB (failC ++ r) errB
 ·rfl
 ·obtain ⟨q,hq⟩ := pre_app h
  exact absurd hq (fail_err _ _)
theorem okV_fail (r : ByteArray) : okV (assC ++ r) (failC ++ r) = rsOk r := by
 unfold rsOk
 by_cases hn : hasNl r
 ·rw [okV_nl (mem_app.2 (.inr hn)),decide_eq_true hn];rfl
 ·have hn2 : ¬ hasNl (assC ++ r) := fun q => (mem_app.1 q).elim (fun q => absurd q (by decide)) hn
  have hz : (assC ++ r).size = 16 + r.size := by rw [ByteArray.size_append];rfl
  rw [decide_eq_false hn,okV,tail_id hn2,vline,hz]
  by_cases hs : 4000 < 16 + r.size
  ·rw [if_pos hs,decide_eq_false (show ¬ r.size ≤ 3984 by omega)];rfl
  ·have ha : assC ++ r ≠ assB := fun e => by have := congrArg ByteArray.size e;rw [hz] at this;have h2 : assB.size = 14 := rfl;omega
   rw [if_neg hs,if_neg ha,if_pos (pre_self _ _),decide_eq_true (show r.size ≤ 3984 by omega)]
   have := ext_app assC r
   rw [hz,show assC.size = 16 from rfl] at this
   rw [this]
   simp
theorem okV_err (r : ByteArray) : okV r (errB ++ r) = lnOk r := by
 unfold lnOk
 by_cases hn : hasNl r
 ·rw [okV_nl (mem_app.2 (.inr hn)),decide_eq_true hn];rfl
 ·rw [decide_eq_false hn,okV,tail_id hn,vline]
  by_cases hs : 4000 < r.size
  ·rw [if_pos hs,decide_eq_false (show ¬ r.size ≤ 4000 by omega)];rfl
  ·rw [if_neg hs,decide_eq_true (show r.size ≤ 4000 by omega)]
   by_cases ha : r = assB
   ·rw [if_pos ha,decide_eq_true ha]
    have : failB ≠ errB ++ r := fun e => by rw [ha] at e;exact absurd e (by decide)
    simp [this]
   ·rw [if_neg ha,decide_eq_false ha]
    by_cases hp : preB r assC = true
    ·rw [if_pos hp,hp]
     have : failC ++ r.extract 16 r.size ≠ errB ++ r := fail_err _ _
     simp [this]
    ·have hp : preB r assC = false := by simpa using hp
     rw [hp]
     simp
theorem poss_eq (v : ByteArray) : possR v = possB v := by
 unfold possR possB
 congr 1
 by_cases hf : preB v failC = true
 ·rw [if_pos hf]
  obtain ⟨r,rfl⟩ := pre_app hf
  rw [pre_ne,if_neg (by simp),hf,Bool.true_and]
  have := ext_app failC r
  rw [show failC.size = 8 from rfl] at this
  rw [this]
  exact okV_fail r
 ·rw [if_neg hf]
  by_cases he : preB v errB = true
  ·rw [if_pos he,he,Bool.true_and]
   obtain ⟨r,rfl⟩ := pre_app he
   have := ext_app errB r
   rw [show errB.size = 7 from rfl] at this
   rw [this]
   exact okV_err r
  ·have he : preB v errB = false := by simpa using he
   have hf : preB v failC = false := by simpa using hf
   rw [he,hf]
   simp
theorem poss_size {v : ByteArray} (h : possB v = true) : v.size ≤ 4010 := by
 unfold possB isC at h
 simp only [Bool.or_eq_true,decide_eq_true_eq] at h
 rcases h with ((((h | h) | h) | h) | h)
 ·rw [h];decide
 ·rw [h];decide
 ·rw [h];decide
 ·rw [h];decide
 ·split at h
  ·unfold lnOk at h
   simp only [Bool.and_eq_true,decide_eq_true_eq,ByteArray.size_extract] at h
   omega
  ·unfold rsOk at h
   simp only [Bool.and_eq_true,decide_eq_true_eq,ByteArray.size_extract] at h
   omega
end Go.Proofs.YtjpaaaecbgmcgaaGreatDoor
namespace Go.Proofs.YtjpaaaecbgmcgaaGreatDoor
open Go.RowKit
def colL : List UInt8 → Nat
 | [] => 0
 | b :: r => if b = 58 then 0 else colL r + 1
def colI (s : ByteArray) : Nat := colL s.data.toList
theorem colL_none : ∀ (l : List UInt8) (j : Nat),j < colL l → l[j]? ≠ some 58
 | [],j,h => by simp [colL] at h
 | b :: r,j,h => by
  rw [colL] at h
  split at h
  ·omega
  ·rename_i hb
   cases j with
   | zero => simpa using hb
   | succ j => simpa using colL_none r j (by omega)
theorem colL_at : ∀ (l : List UInt8),colL l < l.length → l[colL l]? = some 58
 | [],h => by simp at h
 | b :: r,h => by
  rw [colL] at h ⊢
  split
  ·rename_i hb;simp [hb]
  ·rename_i hb
   rw [if_neg hb,List.length_cons] at h
   simpa using colL_at r (by omega)
theorem colL_app : ∀ (l r : List UInt8),(58 : UInt8) ∉ l → colL (l ++ 58 :: r) = l.length
 | [],r,_ => by simp [colL]
 | b :: l,r,h => by
  rw [List.cons_append,colL,if_neg (fun e => h (by simp [e])),colL_app l r (fun q => h (by simp [q]))]
  rfl
abbrev Rp := ByteArray × ByteArray
def cutM (s : ByteArray) : Option Rp := if colI s + 2 ≤ s.size ∧ s.data[colI s + 1]? = some 32 then some (s.extract 0 (colI s),s.extract (colI s + 2) s.size) else none
def goodL (ns : List ByteArray) (s : ByteArray) : Option Rp :=
 match cutM s with
 | none => none
 | some p => if (nameB p.1 && !inS p.1 ns && possB p.2) = true then some p else none
def rdM : List ByteArray → List Rp → Nat ⊕ List Rp
 | [],acc => .inr acc
 | s :: r,acc =>
  match goodL (acc.map (·.1)) s with
  | none => .inl acc.length
  | some p => rdM r (acc ++ [p])
def readM (l : List ByteArray) : Nat ⊕ List Rp :=
 if l.length = 0 then .inl 0
 else match rdM (l.take (l.length - 1)) [] with
  | .inl i => .inl i
  | .inr rs => if l[l.length - 1]?.getD emB0 = (ctM (rs.map (·.2))).line then .inr rs else .inl (l.length - 1)
structure WfR (rs : List Rp) : Prop where
 sz : ∀ p ∈ rs,p.1.size ≤ 24 ∧ p.2.size ≤ 4010
 nd : (rs.map (·.1)).Nodup
theorem WfR.nil : WfR [] := ⟨fun _ h => (List.not_mem_nil h).elim,List.nodup_nil⟩
theorem name_size {s : ByteArray} (h : nameB s = true) : s.size ≤ 24 := by
 unfold nameB at h
 simp only [Bool.and_eq_true,decide_eq_true_eq] at h
 exact h.1.1.2
theorem goodL_wf {ns : List ByteArray} {s : ByteArray} {p : Rp} (h : goodL ns s = some p) : cutM s = some p ∧ nameB p.1 = true ∧ inS p.1 ns = false ∧ possB p.2 = true := by
 unfold goodL at h
 split at h
 ·cases h
 ·rename_i q hq
  split at h
  ·rename_i hb
   simp only [Option.some.injEq] at h
   subst h
   simp only [Bool.and_eq_true,Bool.not_eq_true'] at hb
   exact ⟨hq,hb.1.1,hb.1.2,hb.2⟩
  ·cases h
theorem WfR.snoc {rs : List Rp} {s : ByteArray} {p : Rp} (w : WfR rs) (h : goodL (rs.map (·.1)) s = some p) : WfR (rs ++ [p]) := by
 obtain ⟨_,h1,h2,h3⟩ := goodL_wf h
 refine ⟨fun q hq => ?_,?_⟩
 ·rcases List.mem_append.1 hq with hq | hq
  ·exact w.sz q hq
  ·rw [List.mem_singleton] at hq
   subst hq
   exact ⟨name_size h1,poss_size h3⟩
 ·rw [List.map_append,List.nodup_append]
  refine ⟨w.nd,by simp,fun a ha b hb e => ?_⟩
  simp only [List.map_cons,List.map_nil,List.mem_singleton] at hb
  subst hb
  subst e
  rw [← inS_mem,h2] at ha
  cases ha
theorem rdM_wf : ∀ (l : List ByteArray) (acc rs : List Rp),WfR acc → rdM l acc = .inr rs → WfR rs ∧ rs.length = acc.length + l.length
 | [],acc,rs,w,h => by
  rw [rdM] at h
  cases h
  exact ⟨w,rfl⟩
 | s :: r,acc,rs,w,h => by
  rw [rdM] at h
  split at h
  ·cases h
  ·rename_i p hp
   obtain ⟨h1,h2⟩ := rdM_wf r _ rs (w.snoc hp) h
   refine ⟨h1,?_⟩
   rw [h2]
   simp
   omega
theorem readM_wf {l : List ByteArray} {rs : List Rp} (h : readM l = .inr rs) : WfR rs ∧ rs.length = l.length - 1 := by
 unfold readM at h
 split at h
 ·cases h
 ·split at h
  ·cases h
  ·rename_i q hq
   split at h
   ·cases h
    obtain ⟨h1,h2⟩ := rdM_wf _ _ _ .nil hq
    refine ⟨h1,?_⟩
    rw [h2]
    simp
   ·cases h
theorem rdM_bad : ∀ (l : List ByteArray) (acc : List Rp) (i : Nat),rdM l acc = .inl i → i < acc.length + l.length
 | [],acc,i,h => by rw [rdM] at h;cases h
 | s :: r,acc,i,h => by
  rw [rdM] at h
  split at h
  ·cases h
   simp
  ·have := rdM_bad r _ i h
   simp at this ⊢
   omega
theorem readM_bad {l : List ByteArray} {i : Nat} (h : readM l = .inl i) : i ≤ l.length := by
 unfold readM at h
 split at h
 ·cases h;omega
 ·split at h
  ·rename_i hq
   cases h
   have := rdM_bad _ _ _ hq
   simp at this
   omega
  ·split at h
   ·cases h
   ·cases h;omega
def chkM (l : List ByteArray) (from' many : Int) : (Int × Int) ⊕ List Rp :=
 match readM l with
 | .inl i => .inl (1,from' + i)
 | .inr rs => if 100 < rs.length then .inl (2,many) else .inr rs
def findM (l : List Rp) (n : ByteArray) : Option ByteArray := (l.find? fun p => decide (p.1 = n)).map (·.2)
abbrev goneB : ByteArray := ByteArray.mk #[103,111,110,101]
abbrev arrB : ByteArray := ByteArray.mk #[32,45,62,32]
abbrev newB : ByteArray := ByteArray.mk #[58,32,110,101,119,32,45,62,32]
def nowM (b : List Rp) (n : ByteArray) : ByteArray := (findM b n).getD goneB
abbrev difL (p : Rp) (now : ByteArray) : ByteArray := p.1 ++ colB ++ p.2 ++ arrB ++ now
abbrev newL (p : Rp) : ByteArray := p.1 ++ newB ++ p.2
def dif1 (b : List Rp) (p : Rp) : Option ByteArray := if nowM b p.1 = p.2 then none else some (difL p (nowM b p.1))
def dif2 (a : List Rp) (p : Rp) : Option ByteArray := if (findM a p.1).isSome = true then none else some (newL p)
def cmpM (a b : List Rp) : List ByteArray := a.filterMap (dif1 b) ++ b.filterMap (dif2 a)
theorem fm_take {α β : Type} (f : α → Option β) (l : List α) (i : Nat) (x : α) (h : l[i]? = some x) : (l.take (i + 1)).filterMap f = (l.take i).filterMap f ++ (f x).toList := by
 rw [List.take_add_one,h,List.filterMap_append]
 cases hf : f x <;> simp [hf]
def lastM (n : ByteArray) : List Rp → ByteArray → ByteArray
 | [],now => now
 | p :: r,now => lastM n r (if p.1 = n then p.2 else now)
theorem lastM_not (n : ByteArray) : ∀ (l : List Rp) (now : ByteArray),n ∉ l.map (·.1) → lastM n l now = now
 | [],_,_ => rfl
 | p :: r,now,h => by
  rw [lastM,if_neg (fun e => h (by simp [e]))]
  exact lastM_not n r now fun q => h (by rw [List.map_cons];exact List.mem_cons_of_mem _ q)
theorem lastM_eq (n : ByteArray) : ∀ (l : List Rp) (now : ByteArray),(l.map (·.1)).Nodup → lastM n l now = (findM l n).getD now
 | [],_,_ => rfl
 | p :: r,now,h => by
  rw [List.map_cons,List.nodup_cons] at h
  rw [lastM,findM,List.find?_cons]
  by_cases e : p.1 = n
  ·rw [if_pos e,decide_eq_true e]
   rw [lastM_not n r _ (by rw [← e];exact h.1)]
   rfl
  ·rw [if_neg e,decide_eq_false e]
   exact lastM_eq n r now h.2
theorem find_mem (l : List Rp) (n : ByteArray) : (findM l n).isSome = inS n (l.map (·.1)) := by
 unfold findM inS
 induction l with
 | nil => rfl
 | cons p r ih =>
  rw [List.find?_cons,List.map_cons,List.any_cons]
  by_cases e : p.1 = n
  ·rw [decide_eq_true e,decide_eq_true e.symm];rfl
  ·rw [decide_eq_false e,decide_eq_false (fun q => e q.symm),Bool.false_or]
   exact ih
end Go.Proofs.YtjpaaaecbgmcgaaGreatDoor
namespace Go.Proofs.YtjpaaaecbgmcgaaGreatDoor
open Go.RowKit
theorem chB_col : chB 58 = false := by decide
theorem name_no {s : ByteArray} (h : nameB s = true) : (58 : UInt8) ∉ s.data.toList := by
 unfold nameB okFrom at h
 simp only [Bool.and_eq_true,List.drop_zero] at h
 intro hm
 have := List.all_eq_true.1 h.2 _ hm
 rw [show (((58 : UInt8).toNat : Nat) : Int) = 58 from rfl,chB_col] at this
 cases this
theorem cut_ln {n : ByteArray} (v : ByteArray) (h : nameB n = true) : cutM (lnM n v) = some (n,v) := by
 have hn := name_no h
 have e0 : (lnM n v).data.toList = n.data.toList ++ 58 :: (32 :: v.data.toList) := by simp [lnM,ByteArray.data_append]
 have hz : (lnM n v).size = n.size + 2 + v.size := by
  unfold lnM
  rw [ByteArray.size_append,ByteArray.size_append]
  rfl
 have hk : colI (lnM n v) = n.size := by
  rw [colI,e0,colL_app _ _ hn]
  simp
 have e1 : (lnM n v).data[n.size + 1]? = some 32 := by
  rw [← Array.getElem?_toList,e0,List.getElem?_append_right (by simp)]
  simp
 have hl : n.size = n.data.toList.length := by simp
 unfold cutM
 rw [hk,hz,if_pos ⟨by omega,e1⟩]
 congr 2
 ·refine bytes_ext ?_
  simp only [ByteArray.data_extract,Array.toList_extract,List.extract_eq_take_drop]
  rw [e0,hl]
  simp
 ·refine bytes_ext ?_
  simp only [ByteArray.data_extract,Array.toList_extract,List.extract_eq_take_drop]
  rw [e0,hl,List.drop_append,List.drop_eq_nil_of_le (by omega),List.nil_append,show n.data.toList.length + 2 - n.data.toList.length = 2 by omega]
  exact List.take_of_length_le (by simp)
theorem line_no (s : ByteArray) : ¬ hasNl (lineM s) := tail_no _
theorem poss_line {s : ByteArray} (hs : ¬ hasNl s) (h : (vline s).2.1 = 0) : possB (vline s).1 = true := by
 unfold vline at h ⊢
 split
 ·rename_i h1;rw [if_pos h1] at h;cases h
 ·rename_i h1
  split
  ·decide
  ·rename_i h2
   split
   ·rename_i h3
    obtain ⟨r,rfl⟩ := pre_app h3
    have := ext_app assC r
    rw [show assC.size = 16 from rfl] at this
    dsimp only
    rw [this]
    unfold possB
    have h5 := ext_app failC r
    rw [show failC.size = 8 from rfl] at h5
    have hz : (assC ++ r).size = 16 + r.size := by rw [ByteArray.size_append];rfl
    rw [pre_ne,if_neg (by simp),pre_self,h5,Bool.true_and]
    unfold rsOk
    rw [decide_eq_false (fun q => hs (mem_app.2 (.inr q))),decide_eq_true (show r.size ≤ 3984 by omega)]
    simp
   ·rename_i h3
    dsimp only
    unfold possB
    have h5 := ext_app errB s
    rw [show errB.size = 7 from rfl] at h5
    rw [if_pos (pre_self _ _),h5]
    unfold lnOk
    have h3 : preB s assC = false := by simpa using h3
    rw [decide_eq_false hs,decide_eq_true (show s.size ≤ 4000 by omega),decide_eq_false h2,h3]
    simp
theorem poss_verd {o : Oc} (h : (verdM o).2.1 = 0) : possB (verdM o).1 = true := by
 unfold verdM at h ⊢
 split
 ·decide
 ·rename_i h0
  rw [if_neg h0] at h
  split
  ·decide
  ·rename_i h2
   rw [if_neg h2] at h
   split
   ·decide
   ·rename_i h3
    rw [if_neg h3] at h
    split
    ·rename_i h1
     rw [if_pos h1] at h
     exact poss_line (line_no _) h
    ·rename_i h1
     rw [if_neg h1] at h
     cases h
theorem repBad_none {names : List ByteArray} {os : List Oc} : ∀ k i,repBad names os k i = none → ∀ j,i ≤ j → j < i + k → codeAt names os j = 0
 | 0,i,_,j,h1,h2 => absurd h1 (by omega)
 | k + 1,i,h,j,h1,h2 => by
  rw [repBad] at h
  split at h
  ·cases h
  ·rename_i hc
   by_cases e : j = i
   ·subst e
    exact Classical.not_not.1 hc
   ·exact repBad_none k (i + 1) h j (by omega) (by omega)
theorem code_zero {names : List ByteArray} {os : List Oc} {i : Nat} {n : ByteArray} {o : Oc} (hn : names[i]? = some n) (ho : os[i]? = some o) (h : codeAt names os i = 0) : nameB n = true ∧ inS n (names.take i) = false ∧ (verdM o).2.1 = 0 := by
 unfold codeAt at h
 rw [hn,ho] at h
 simp only [Option.getD_some] at h
 split at h
 ·cases h
 ·rename_i h1
  split at h
  ·cases h
  ·rename_i h2
   exact ⟨by simpa using h1,by simpa using h2,h⟩
abbrev rsM (names : List ByteArray) (os : List Oc) : List Rp := names.zip (verds os)
theorem rs_at {names : List ByteArray} {os : List Oc} {i : Nat} {n : ByteArray} {o : Oc} (hn : names[i]? = some n) (ho : os[i]? = some o) : (rsM names os)[i]? = some (n,(verdM o).1) := by
 simp [rsM,verds,List.getElem?_zip_eq_some,hn,ho]
theorem rs_names {names : List ByteArray} {os : List Oc} (h : names.length = os.length) : (rsM names os).map (·.1) = names := by
 show (rsM names os).map Prod.fst = names
 rw [rsM,List.map_fst_zip]
 simp [verds,h]
theorem rs_verds {names : List ByteArray} {os : List Oc} (h : names.length = os.length) : (rsM names os).map (·.2) = verds os := by
 show (rsM names os).map Prod.snd = verds os
 rw [rsM,List.map_snd_zip]
 simp [verds,h]
theorem rs_len {names : List ByteArray} {os : List Oc} (h : names.length = os.length) : (rsM names os).length = names.length := by simp [rsM,verds,h]
theorem rd_lines {names : List ByteArray} {os : List Oc} (hl : names.length = os.length) (hb : repBad names os names.length 0 = none) : ∀ k i,i + k = names.length → rdM ((linesR names os).drop i) ((rsM names os).take i) = .inr (rsM names os)
 | 0,i,h => by
  have e1 : (linesR names os).drop i = [] := List.drop_eq_nil_of_le (by simp [linesR,verds];omega)
  have e2 : (rsM names os).take i = rsM names os := List.take_of_length_le (by rw [rs_len hl];omega)
  rw [e1,e2,rdM]
 | k + 1,i,h => by
  obtain ⟨n,hn⟩ : ∃ n,names[i]? = some n := ⟨_,List.getElem?_eq_getElem (by omega)⟩
  obtain ⟨o,ho⟩ : ∃ o,os[i]? = some o := ⟨_,List.getElem?_eq_getElem (by omega)⟩
  obtain ⟨h1,h2,h3⟩ := code_zero hn ho (repBad_none _ _ hb i (by omega) (by omega))
  have e1 : (linesR names os).drop i = lnM n (verdM o).1 :: (linesR names os).drop (i + 1) := by
   have : (linesR names os)[i]? = some (lnM n (verdM o).1) := by simp [linesR,verds,List.getElem?_zipWith,hn,ho]
   obtain ⟨hlt,e⟩ := List.getElem?_eq_some_iff.1 this
   rw [List.drop_eq_getElem_cons hlt,e]
  have e2 : (rsM names os).take (i + 1) = (rsM names os).take i ++ [(n,(verdM o).1)] := by rw [List.take_add_one,rs_at hn ho];rfl
  have e3 : ((rsM names os).take i).map (·.1) = names.take i := by rw [List.map_take,rs_names hl]
  have e4 : goodL (((rsM names os).take i).map (·.1)) (lnM n (verdM o).1) = some (n,(verdM o).1) := by
   rw [e3,goodL,cut_ln _ h1]
   dsimp only
   rw [h1,h2,poss_verd h3]
   rfl
  rw [e1,rdM,e4]
  dsimp only
  rw [← e2]
  exact rd_lines hl hb k (i + 1) (by omega)
theorem read_lines {names : List ByteArray} {os : List Oc} (hl : names.length = os.length) (hb : repBad names os names.length 0 = none) : readM (repLines names os) = .inr (rsM names os) := by
 have hz : (linesR names os).length = names.length := by simp [linesR,verds,hl]
 have h0 := rd_lines hl hb names.length 0 (by omega)
 rw [List.drop_zero,List.take_zero] at h0
 unfold readM repLines
 rw [if_neg (by simp)]
 have e1 : (linesR names os ++ [(ctM (verds os)).line]).length - 1 = (linesR names os).length := by simp
 rw [e1,List.take_left,h0]
 dsimp only
 rw [rs_verds hl,List.getElem?_append_right (Nat.le_refl _),Nat.sub_self]
 simp
theorem rs_wf {names : List ByteArray} {os : List Oc} (hl : names.length = os.length) (hb : repBad names os names.length 0 = none) : WfR (rsM names os) := (readM_wf (read_lines hl hb)).1
theorem find_at {l : List Rp} {i : Nat} {p : Rp} (h : l[i]? = some p) (hn : (l.map (·.1)).Nodup) : findM l p.1 = some p.2 := by
 induction l generalizing i with
 | nil => simp at h
 | cons q r ih =>
  rw [List.map_cons,List.nodup_cons] at hn
  cases i with
  | zero =>
   simp only [List.getElem?_cons_zero,Option.some.injEq] at h
   subst h
   simp [findM]
  | succ i =>
   rw [List.getElem?_cons_succ] at h
   have hne : q.1 ≠ p.1 := fun e => hn.1 (by rw [e];exact List.mem_map.2 ⟨p,List.mem_of_getElem? h,rfl⟩)
   have := ih h hn.2
   rw [findM,List.find?_cons,decide_eq_false hne]
   exact this
theorem cmp_same {names : List ByteArray} {os qs : List Oc} (hl : names.length = os.length) (hq : names.length = qs.length) : (rsM names qs).filterMap (dif2 (rsM names os)) = [] := by
 rw [List.filterMap_eq_nil_iff]
 intro p hp
 have : p.1 ∈ names := by rw [← rs_names hq];exact List.mem_map.2 ⟨p,hp,rfl⟩
 unfold dif2
 rw [find_mem,rs_names hl,if_pos (inS_mem.2 this)]
theorem now_at {names : List ByteArray} {os : List Oc} {i : Nat} {n : ByteArray} {o : Oc} (hl : names.length = os.length) (hb : repBad names os names.length 0 = none) (hn : names[i]? = some n) (ho : os[i]? = some o) : nowM (rsM names os) n = (verdM o).1 := by
 unfold nowM
 rw [find_at (rs_at hn ho) (rs_wf hl hb).nd]
 rfl
theorem cmp_self {names : List ByteArray} {os : List Oc} (hl : names.length = os.length) (hb : repBad names os names.length 0 = none) : cmpM (rsM names os) (rsM names os) = [] := by
 unfold cmpM
 rw [cmp_same hl hl,List.append_nil,List.filterMap_eq_nil_iff]
 intro p hp
 obtain ⟨i,hi⟩ := List.mem_iff_getElem?.1 hp
 unfold dif1 nowM
 rw [find_at hi (rs_wf hl hb).nd]
 simp
def difF (names : List ByteArray) (os qs : List Oc) (i : Nat) : List ByteArray := ((rsM names os).drop i).filterMap (dif1 (rsM names qs))
theorem difF_all {names : List ByteArray} {os qs : List Oc} (hl : names.length = os.length) (hq : names.length = qs.length) : cmpM (rsM names os) (rsM names qs) = difF names os qs 0 := by
 unfold cmpM difF
 rw [cmp_same hl hq,List.append_nil,List.drop_zero]
theorem difF_end {names : List ByteArray} {os qs : List Oc} (hl : names.length = os.length) : difF names os qs names.length = [] := by
 unfold difF
 rw [List.drop_eq_nil_of_le (by rw [rs_len hl];omega)]
 rfl
theorem difF_step {names : List ByteArray} {os qs : List Oc} {i : Nat} {n : ByteArray} {o q : Oc} (hq : names.length = qs.length) (hbq : repBad names qs names.length 0 = none) (hn : names[i]? = some n) (ho : os[i]? = some o) (h2 : qs[i]? = some q) :
  difF names os qs i = (if (verdM o).1 = (verdM q).1 then [] else [difL (n,(verdM o).1) (verdM q).1]) ++ difF names os qs (i + 1) := by
 have e := rs_at hn ho
 obtain ⟨hlt,e1⟩ := List.getElem?_eq_some_iff.1 e
 unfold difF
 rw [List.drop_eq_getElem_cons hlt,e1,List.filterMap_cons]
 have e2 : dif1 (rsM names qs) (n,(verdM o).1) = if (verdM q).1 = (verdM o).1 then none else some (difL (n,(verdM o).1) (verdM q).1) := by
  unfold dif1
  dsimp only
  rw [now_at hq hbq hn h2]
 rw [e2]
 by_cases h : (verdM q).1 = (verdM o).1
 ·rw [if_pos h,if_pos h.symm];rfl
 ·rw [if_neg h,if_neg fun e => h e.symm];rfl
end Go.Proofs.YtjpaaaecbgmcgaaGreatDoor
namespace Go.Proofs.YtjpaaaecbgmcgaaGreatDoor
open Go.RowKit
abbrev cutL (s : ByteArray) : List UInt8 × List UInt8 × Bool := Go.Lib.cut s.data.toList colB.data.toList
theorem occ_at {s : ByteArray} {i : Nat} (h0 : s.data.toList[i]? = some 58) (h1 : s.data.toList[i + 1]? = some 32) : Go.Lib.occAt s.data.toList colB.data.toList i = true := by
 obtain ⟨l0,e0⟩ := List.getElem?_eq_some_iff.1 h0
 obtain ⟨l1,e1⟩ := List.getElem?_eq_some_iff.1 h1
 unfold Go.Lib.occAt
 rw [List.drop_eq_getElem_cons l0,e0,List.drop_eq_getElem_cons l1,e1]
 rfl
theorem cut_some {s : ByteArray} {p : Rp} (h : cutM s = some p) : (⟨(cutL s).1.toArray⟩ : ByteArray) = p.1 ∧ (⟨(cutL s).2.1.toArray⟩ : ByteArray) = p.2 ∧ (cutL s).2.2 = true := by
 unfold cutM at h
 split at h
 ·rename_i hc
  cases h
  have hz : s.data.toList.length = s.size := by simp
  have h0 : s.data.toList[colI s]? = some 58 := colL_at _ (by show colI s < _;omega)
  have h1 : s.data.toList[colI s + 1]? = some 32 := by rw [Array.getElem?_toList];exact hc.2
  have hi : Go.Lib.index s.data.toList colB.data.toList = (colI s : Nat) := Go.Lib.index_first (by omega) (occ_at h0 h1) fun j hj => by
   cases ho : Go.Lib.occAt s.data.toList colB.data.toList j
   ·rfl
   ·exact absurd (Go.Lib.occAt_head rfl ho) (colL_none _ j hj)
  exact Go.Lib.cutB_hit s colB (colI s) hi
 ·cases h
theorem name_has {s : ByteArray} (h : (58 : UInt8) ∈ s.data.toList) : nameB s = false := by
 cases hn : nameB s
 ·rfl
 ·exact absurd h (name_no hn)
theorem cut_none {s : ByteArray} (h : cutM s = none) (hf : (cutL s).2.2 = true) : nameB ⟨(cutL s).1.toArray⟩ = false := by
 rcases Go.Lib.index_spec s.data.toList colB.data.toList with ⟨hi,_⟩ | ⟨i,hi,hl,ho,hn⟩
 ·have := (Go.Lib.cutB_miss s colB hi).2.2
  rw [this] at hf
  cases hf
 ·obtain ⟨e1,_,_⟩ := Go.Lib.cutB_hit s colB i hi
  rw [e1]
  have h0 := Go.Lib.occAt_head rfl ho
  have h1 := Go.Lib.occAt_second rfl ho
  have hz : s.data.toList.length = s.size := by simp
  have l1 := (List.getElem?_eq_some_iff.1 h1).1
  have hle : colI s ≤ i := by
   refine Nat.le_of_not_lt fun hlt => colL_none _ i hlt h0
  have hne : colI s ≠ i := fun e => by
   unfold cutM at h
   rw [e,if_pos ⟨by omega,by rw [← Array.getElem?_toList];exact h1⟩] at h
   cases h
  have hc : s.data.toList[colI s]? = some 58 := colL_at _ (by show colI s < _;omega)
  refine name_has ?_
  simp only [ByteArray.data_extract,Array.toList_extract,List.extract_eq_take_drop,List.drop_zero,Nat.sub_zero]
  refine List.mem_of_getElem? (i := colI s) ?_
  rw [List.getElem?_take,if_pos (by omega)]
  exact hc
theorem nl_has (s : ByteArray) : decide (0 ≤ Go.Lib.indexByte s.data.toList 10) = decide (hasNl s) := by
 unfold hasNl
 by_cases h : (10 : UInt8) ∈ s.data.toList
 ·rw [decide_eq_true h]
  refine decide_eq_true ?_
  have := Go.Lib.indexByte_ge s.data.toList 10
  by_cases hm : Go.Lib.indexByte s.data.toList 10 = -1
  ·obtain ⟨j,hj⟩ := List.mem_iff_getElem?.1 h
   exact absurd hj (Go.Lib.indexByte_none hm j)
  ·omega
 ·rw [decide_eq_false h]
  refine decide_eq_false fun hm => h ?_
  obtain ⟨o,ho⟩ : ∃ o : Nat,Go.Lib.indexByte s.data.toList 10 = o := ⟨(Go.Lib.indexByte s.data.toList 10).toNat,by omega⟩
  exact List.mem_of_getElem? (Go.Lib.indexByte_some ho).1
end Go.Proofs.YtjpaaaecbgmcgaaGreatDoor
namespace Go.Proofs.YtjpaaaecbgmcgaaGreatDoor
open Go.RowKit
def kc : Nat → ByteArray
 | 0 => okB
 | 1 => failB
 | 2 => fuelB
 | _ => outB
theorem kc_verd {i : Nat} (h : i < 4) : verdM ⟨emB0,(i : Int),assB,[],0⟩ = (kc i,0,0) := by
 match i,h with
 | 0,_ => rfl
 | 1,_ =>
  have : lineM assB = assB := by decide +kernel
  show vline (lineM assB) = _
  rw [this]
  decide +kernel
 | 2,_ => rfl
 | 3,_ => rfl
theorem isC_kc {v : ByteArray} : isC v = true ↔ ∃ i,i < 4 ∧ kc i = v := by
 unfold isC
 simp only [Bool.or_eq_true,decide_eq_true_eq]
 constructor
 ·rintro (((h | h) | h) | h)
  ·exact ⟨0,by omega,h.symm⟩
  ·exact ⟨2,by omega,h.symm⟩
  ·exact ⟨3,by omega,h.symm⟩
  ·exact ⟨1,by omega,h.symm⟩
 ·rintro ⟨i,hi,h⟩
  match i,hi,h with
  | 0,_,h => exact .inl (.inl (.inl h.symm))
  | 1,_,h => exact .inr h.symm
  | 2,_,h => exact .inl (.inl (.inr h.symm))
  | 3,_,h => exact .inl (.inr h.symm)
set_option maxHeartbeats 32000000 in
theorem possible_R (v : ByteArray) (hv : v.size ≤ 100000000000) : CallsA Tryz.prog 52 [dsr v] [] (Is (db (possB v))) := by
 rw [← poss_eq]
 refine callsA_of_vc (T := tt) Tryz.func52 rfl rfl rfl rfl rfl ?_
 repeat' ((conv => whnf);first | refine Gs.id ?_ | fail)
 all_goals (conv => whnf)
 refine ⟨⟨Nat,fun i => i ≤ 4 ∧ ∀ j,j < i → kc j ≠ v,fun i => 4 - i,fun i => ⟨[(0,dsr v),(3,di i)],[]⟩,0,⟨by omega,fun j h => absurd h (by omega)⟩,⟨[],⟨by (try dsimp only);(repeat (refine LeT.cons rfl (by first | exact LeS.d (by first | exact LeD.u rfl | fail) | fail) ?_));exact LeT.nil,by (try dsimp only);repeat (first | exact LeO.nil | fail)⟩⟩,fun i hi => ?_⟩⟩
 obtain ⟨hi,hn⟩ := hi
 dsimp only
 by_cases h9 : i < 4
 ·have q1 := verdictN_R ⟨emB0,(i : Int),assB,[],0⟩ (by show assB.size ≤ 1000000000000;decide)
  rw [kc_verd h9] at q1
  have hk := toList_beq (kc i) v
  by_cases hq : kc i = v
  ·rw [decide_eq_true hq] at hk
   have e : possR v = true := by rw [possR,isC_kc.2 ⟨i,h9,hq⟩,Bool.true_or]
   rw [e]
   clear hq e hn
   generalize kc i = x at *
   repeat' ((conv => whnf);first | rw [hk] | refine Gs.id ?_ | with_reducible refine Brn.T rfl ?_ | refine Brn.T (by (try simp only [smT]);first | rfl | omega | fail) ?_ | (refine CL.mk (Or.inl ?_);(conv => whnf);refine Cl.is (q1) rfl (by first | exact fun _ => rfl | fail) ?_) | fail)
   all_goals (conv => whnf)
   all_goals exact Ret.is rfl
  ·rw [decide_eq_false hq] at hk
   have hn2 : ∀ j,j < i + 1 → kc j ≠ v := fun j hj => by
    by_cases e : j = i
    ·subst e;exact hq
    ·exact hn j (by omega)
   clear hq hn
   generalize kc i = x at *
   repeat' ((conv => whnf);first | rw [hk] | refine Gs.id ?_ | with_reducible refine Brn.F rfl ?_ | refine Brn.T (by (try simp only [smT]);first | rfl | omega | fail) ?_ | refine Rng.mk (by (try simp only [smT]);omega) ?_ | (refine CL.mk (Or.inl ?_);(conv => whnf);refine Cl.is (q1) rfl (by first | exact fun _ => rfl | fail) ?_) | fail)
   all_goals (conv => whnf)
   all_goals exact ⟨i + 1,⟨by omega,hn2⟩,by omega,[],⟨by (try dsimp only);(repeat (refine LeT.cons rfl (by first | exact LeS.d (by first | exact LeD.u rfl | fail) | fail) ?_));exact LeT.nil,by (try dsimp only);repeat (first | exact LeO.nil | fail)⟩⟩
 ·obtain rfl : i = 4 := by omega
  have e0 : isC v = false := by
   cases h : isC v
   ·rfl
   ·obtain ⟨j,h1,h2⟩ := isC_kc.1 h
    exact absurd h2 (hn j h1)
  clear hn
  unfold possR
  rw [e0,Bool.false_or]
  have hfz : failC.size = 8 := rfl
  have hez : errB.size = 7 := rfl
  have haz : (ByteArray.mk #[65,115,115,101,114,116,105,111,110,69,114,114,111,114,58,32]).size = 16 := rfl
  have hnz : (ByteArray.mk #[10]).size = 1 := rfl
  have hv1 : ∀ t : ByteArray,t.size ≤ 500000000000 → CallsA Tryz.prog 7 [.a [.u (.str emB0),.u (.int .i64 1),.u (.str (t ++ nlB)),.u .nl,.u (.int .i64 0)]] [] (Is (vS (vline (tailM t)))) := fun t ht => by
   have h := verdictN_R ⟨emB0,1,t ++ nlB,[],0⟩ (by dsimp only;rw [ByteArray.size_append];have : nlB.size = 1 := rfl;omega)
   have e : verdM ⟨emB0,1,t ++ nlB,[],0⟩ = vline (tailM t) := by
    show vline (lineM (t ++ nlB)) = _
    rw [line_nl]
   rw [e] at h
   exact h
  have hf := toList_beq (v.extract 0 8) failC
  have he := toList_beq (v.extract 0 7) errB
  have hpf : preB v failC = (decide (8 ≤ v.size) && decide (v.extract 0 8 = failC)) := rfl
  have hpe : preB v errB = (decide (7 ≤ v.size) && decide (v.extract 0 7 = errB)) := rfl
  rw [hpf,hpe]
  clear hpf hpe
  have hokv : ∀ t,okV t v = (decide ((vline (tailM t)).2.1 = 0) && decide ((vline (tailM t)).1 = v)) := fun _ => rfl
  have z8 : (v.extract 8 v.size).size ≤ v.size := by simp only [ByteArray.size_extract];omega
  have z7 : (v.extract 7 v.size).size ≤ v.size := by simp only [ByteArray.size_extract];omega
  by_cases g8 : 8 ≤ v.size ∧ v.extract 0 8 = failC
  ·obtain ⟨g1,g2⟩ := g8
   rw [decide_eq_true g1,decide_eq_true g2,Bool.true_and,if_pos rfl,hokv]
   rw [decide_eq_true g2] at hf
   have q1 := hv1 (assC ++ v.extract 8 v.size) (by rw [ByteArray.size_append];have : assC.size = 16 := rfl;omega)
   clear hv1 hokv he g2
   generalize hr8 : v.extract 8 v.size = r at *
   generalize hy8 : v.extract 0 8 = y at *
   generalize vline (tailM (assC ++ r)) = vd at *
   obtain ⟨s,c,ix⟩ := vd
   dsimp only
   have hs := toList_beq s v
   generalize decide (s = v) = b at *
   by_cases hc : c = 0
   ·rw [decide_eq_true hc,Bool.true_and]
    subst hc
    repeat' ((conv => whnf);first | rw [hf] | rw [hs] | (refine Slc.mk ⟨0,8,rfl,rfl,by omega,by omega,?_⟩;rw [hy8]) | (refine Slc.mk ⟨8,v.size,rfl,rfl,by omega,by omega,?_⟩;rw [hr8]) | refine Cat.mk (by unfold maxLen;(try simp only [ByteArray.size_append]);omega) ?_ | refine Gs.id ?_ | with_reducible refine Brn.T rfl ?_ | with_reducible refine Brn.F rfl ?_ | refine Brn.T (by (try simp only [smT]);first | rfl | omega | fail) ?_ | (refine Bnd.mk (fun hm => ?_);(try simp only [smT] at hm)) | (refine CL.mk (Or.inl ?_);(conv => whnf);refine Cl.is (q1) rfl (by first | exact fun _ => rfl | fail) ?_) | fail)
    all_goals (conv => whnf)
    all_goals exact Ret.is rfl
   ·rw [decide_eq_false hc,Bool.false_and]
    repeat' ((conv => whnf);first | rw [hf] | (refine Slc.mk ⟨0,8,rfl,rfl,by omega,by omega,?_⟩;rw [hy8]) | (refine Slc.mk ⟨8,v.size,rfl,rfl,by omega,by omega,?_⟩;rw [hr8]) | refine Cat.mk (by unfold maxLen;(try simp only [ByteArray.size_append]);omega) ?_ | refine Gs.id ?_ | with_reducible refine Brn.T rfl ?_ | with_reducible refine Brn.F rfl ?_ | refine Brn.T (by (try simp only [smT]);first | rfl | omega | fail) ?_ | refine Brn.F (by (try simp only [smT]);first | rfl | assumption | fail) ?_ | (refine Bnd.mk (fun hm => ?_);(try simp only [smT] at hm)) | (refine CL.mk (Or.inl ?_);(conv => whnf);refine Cl.is (q1) rfl (by first | exact fun _ => rfl | fail) ?_) | fail)
    all_goals (conv => whnf)
    all_goals exact Ret.is rfl
  ·have g8' : (decide (8 ≤ v.size) && decide (v.extract 0 8 = failC)) = false := by
    cases h : (decide (8 ≤ v.size) && decide (v.extract 0 8 = failC))
    ·rfl
    ·simp only [Bool.and_eq_true,decide_eq_true_eq] at h
     exact absurd h g8
   rw [g8',if_neg (by simp)]
   have hf8 : 8 ≤ v.size → ((v.extract 0 8).toList == failC.toList) = false := fun h => by
    rw [hf]
    exact decide_eq_false fun e => g8 ⟨h,e⟩
   clear g8' hf g8
   generalize hy8 : v.extract 0 8 = y at *
   by_cases g7 : 7 ≤ v.size ∧ v.extract 0 7 = errB
   ·obtain ⟨g1,g2⟩ := g7
    rw [decide_eq_true g1,decide_eq_true g2,Bool.true_and,Bool.true_and,hokv]
    rw [decide_eq_true g2] at he
    have q1 := hv1 (v.extract 7 v.size) (by omega)
    clear hv1 hokv g2
    generalize hr7 : v.extract 7 v.size = r at *
    generalize hx7 : v.extract 0 7 = x at *
    generalize vline (tailM r) = vd at *
    obtain ⟨s,c,ix⟩ := vd
    dsimp only
    have hs := toList_beq s v
    generalize decide (s = v) = b at *
    by_cases hc : c = 0
    ·rw [decide_eq_true hc,Bool.true_and]
     subst hc
     by_cases g9 : 8 ≤ v.size
     ·have hf := hf8 g9
      clear hf8
      repeat' ((conv => whnf);first | rw [hf] | rw [he] | rw [hs] | (refine Slc.mk ⟨0,8,rfl,rfl,by omega,by omega,?_⟩;rw [hy8]) | (refine Slc.mk ⟨0,7,rfl,rfl,by omega,by omega,?_⟩;rw [hx7]) | (refine Slc.mk ⟨7,v.size,rfl,rfl,by omega,by omega,?_⟩;rw [hr7]) | refine Cat.mk (by unfold maxLen;(try simp only [ByteArray.size_append]);omega) ?_ | refine Gs.id ?_ | with_reducible refine Brn.T rfl ?_ | with_reducible refine Brn.F rfl ?_ | refine Brn.T (by (try simp only [smT]);first | rfl | omega | fail) ?_ | (refine Bnd.mk (fun hm => ?_);(try simp only [smT] at hm)) | (refine CL.mk (Or.inl ?_);(conv => whnf);refine Cl.is (q1) rfl (by first | exact fun _ => rfl | fail) ?_) | fail)
      all_goals (conv => whnf)
      all_goals exact Ret.is rfl
     ·clear hf8
      repeat' ((conv => whnf);first | rw [he] | rw [hs] | (refine Slc.mk ⟨0,7,rfl,rfl,by omega,by omega,?_⟩;rw [hx7]) | (refine Slc.mk ⟨7,v.size,rfl,rfl,by omega,by omega,?_⟩;rw [hr7]) | refine Cat.mk (by unfold maxLen;(try simp only [ByteArray.size_append]);omega) ?_ | refine Gs.id ?_ | with_reducible refine Brn.T rfl ?_ | with_reducible refine Brn.F rfl ?_ | refine Brn.T (by (try simp only [smT]);first | rfl | omega | fail) ?_ | refine Brn.F (by (try simp only [smT]);first | rfl | omega | fail) ?_ | (refine Bnd.mk (fun hm => ?_);(try simp only [smT] at hm)) | (refine CL.mk (Or.inl ?_);(conv => whnf);refine Cl.is (q1) rfl (by first | exact fun _ => rfl | fail) ?_) | fail)
      all_goals (conv => whnf)
      all_goals exact Ret.is rfl
    ·rw [decide_eq_false hc,Bool.false_and]
     by_cases g9 : 8 ≤ v.size
     ·have hf := hf8 g9
      clear hf8
      repeat' ((conv => whnf);first | rw [hf] | rw [he] | (refine Slc.mk ⟨0,8,rfl,rfl,by omega,by omega,?_⟩;rw [hy8]) | (refine Slc.mk ⟨0,7,rfl,rfl,by omega,by omega,?_⟩;rw [hx7]) | (refine Slc.mk ⟨7,v.size,rfl,rfl,by omega,by omega,?_⟩;rw [hr7]) | refine Cat.mk (by unfold maxLen;(try simp only [ByteArray.size_append]);omega) ?_ | refine Gs.id ?_ | with_reducible refine Brn.T rfl ?_ | with_reducible refine Brn.F rfl ?_ | refine Brn.T (by (try simp only [smT]);first | rfl | omega | fail) ?_ | refine Brn.F (by (try simp only [smT]);first | rfl | assumption | fail) ?_ | (refine Bnd.mk (fun hm => ?_);(try simp only [smT] at hm)) | (refine CL.mk (Or.inl ?_);(conv => whnf);refine Cl.is (q1) rfl (by first | exact fun _ => rfl | fail) ?_) | fail)
      all_goals (conv => whnf)
      all_goals exact Ret.is rfl
     ·clear hf8
      repeat' ((conv => whnf);first | rw [he] | (refine Slc.mk ⟨0,7,rfl,rfl,by omega,by omega,?_⟩;rw [hx7]) | (refine Slc.mk ⟨7,v.size,rfl,rfl,by omega,by omega,?_⟩;rw [hr7]) | refine Cat.mk (by unfold maxLen;(try simp only [ByteArray.size_append]);omega) ?_ | refine Gs.id ?_ | with_reducible refine Brn.T rfl ?_ | with_reducible refine Brn.F rfl ?_ | refine Brn.T (by (try simp only [smT]);first | rfl | omega | fail) ?_ | refine Brn.F (by (try simp only [smT]);first | rfl | assumption | omega | fail) ?_ | (refine Bnd.mk (fun hm => ?_);(try simp only [smT] at hm)) | (refine CL.mk (Or.inl ?_);(conv => whnf);refine Cl.is (q1) rfl (by first | exact fun _ => rfl | fail) ?_) | fail)
      all_goals (conv => whnf)
      all_goals exact Ret.is rfl
   ·have g7' : (decide (7 ≤ v.size) && decide (v.extract 0 7 = errB)) = false := by
     cases h : (decide (7 ≤ v.size) && decide (v.extract 0 7 = errB))
     ·rfl
     ·simp only [Bool.and_eq_true,decide_eq_true_eq] at h
      exact absurd h g7
    rw [g7',Bool.false_and]
    have he7 : 7 ≤ v.size → ((v.extract 0 7).toList == errB.toList) = false := fun h => by
     rw [he]
     exact decide_eq_false fun e => g7 ⟨h,e⟩
    clear hv1 hokv he g7 g7'
    generalize hx7 : v.extract 0 7 = x at *
    by_cases g9 : 8 ≤ v.size
    ·have hf := hf8 g9
     have he := he7 (by omega)
     clear hf8 he7
     repeat' ((conv => whnf);first | rw [hf] | rw [he] | (refine Slc.mk ⟨0,8,rfl,rfl,by omega,by omega,?_⟩;rw [hy8]) | (refine Slc.mk ⟨0,7,rfl,rfl,by omega,by omega,?_⟩;rw [hx7]) | refine Gs.id ?_ | with_reducible refine Brn.F rfl ?_ | refine Brn.T (by (try simp only [smT]);first | rfl | omega | fail) ?_ | (refine Bnd.mk (fun hm => ?_);(try simp only [smT] at hm)) | fail)
     all_goals (conv => whnf)
     all_goals exact Ret.is rfl
    ·by_cases g10 : 7 ≤ v.size
     ·have he := he7 g10
      clear hf8 he7
      repeat' ((conv => whnf);first | rw [he] | (refine Slc.mk ⟨0,7,rfl,rfl,by omega,by omega,?_⟩;rw [hx7]) | refine Gs.id ?_ | with_reducible refine Brn.F rfl ?_ | refine Brn.T (by (try simp only [smT]);first | rfl | omega | fail) ?_ | refine Brn.F (by (try simp only [smT]);first | rfl | omega | fail) ?_ | (refine Bnd.mk (fun hm => ?_);(try simp only [smT] at hm)) | fail)
      all_goals (conv => whnf)
      all_goals exact Ret.is rfl
     ·clear hf8 he7
      repeat' ((conv => whnf);first | refine Gs.id ?_ | with_reducible refine Brn.F rfl ?_ | refine Brn.F (by (try simp only [smT]);first | rfl | omega | fail) ?_ | (refine Bnd.mk (fun hm => ?_);(try simp only [smT] at hm)) | fail)
      all_goals (conv => whnf)
      all_goals exact Ret.is rfl
end Go.Proofs.YtjpaaaecbgmcgaaGreatDoor
namespace Go.Proofs.YtjpaaaecbgmcgaaGreatDoor
open Go.RowKit
theorem byte_backU (c : UInt8) : ((c.toNat : Int)).toNat.toUInt8 = c := by simp
theorem indexByteU_T (s : ByteArray) (c : UInt8) : CallsA Tryz.prog 151 [dsr s,dby c.toNat] [] (Is (di (Go.Lib.indexByte s.data.toList c))) := by
 have hr : ∀ w,(Extern.BytealgIndexByte.indexByte #[.string s,.int .u8 (c.toNat : Int)]).run Tryz.prog w = .ok (.int .i64 (Go.Lib.indexByte s.data.toList c)) w := fun w => by
  rw [Go.Lib.run_indexByteString,byte_backU]
 have hf := Tryz.func193
 refine callsA_of_vc (T := tt) Tryz.func151 rfl rfl rfl rfl rfl ?_
 repeat' ((conv => whnf);first | (refine CL.mk (Or.inr (Raw.extSB (e := Extern.BytealgIndexByte.indexByte) rfl rfl hf (by kernel_rfl) (by kernel_rfl) (by kernel_rfl) (by kernel_rfl) hr rfl ?_))) | refine Gs.id ?_ | fail)
 all_goals (conv => whnf)
 all_goals exact Ret.is rfl
theorem indexByteU_T' (s : ByteArray) : CallsA Tryz.prog 151 [dsr s,dby 10] [] (Is (di (Go.Lib.indexByte s.data.toList 10))) := indexByteU_T s 10
theorem index0U_T (s : ByteArray) : CallsA Tryz.prog 138 [dsr s,dsr nlB] [] (Is (di (if s = nlB then 0 else Go.Lib.indexByte s.data.toList 10))) := by
 have hb := toList_beq nlB s
 have hi := indexByteU_T' s
 have hd : (nlB[0].toNat : Int) = 10 := rfl
 by_cases h : s = nlB
 ·rw [if_pos h]
  rw [decide_eq_true h.symm] at hb
  refine callsA_of_vc (T := tt) Tryz.func138 rfl rfl rfl rfl rfl ?_
  repeat' ((conv => whnf);first | refine Gs.id ?_ | with_reducible refine Brn.F rfl ?_ | refine Brn.T (by (try simp only [smT]);first | rfl | assumption | fail) ?_ | (refine Bnd.mk (fun hm => ?_);(try simp only [smT] at hm)) | fail)
  all_goals (conv => whnf)
  all_goals exact Ret.is rfl
 ·rw [if_neg h]
  rw [decide_eq_false fun e => h e.symm] at hb
  refine callsA_of_vc (T := tt) Tryz.func138 rfl rfl rfl rfl rfl ?_
  repeat' ((conv => whnf);first | (refine Sbx.mk ⟨0,(by decide),rfl,?_⟩;rw [hd]) | refine Gs.id ?_ | with_reducible refine Brn.T rfl ?_ | with_reducible refine Brn.F rfl ?_ | refine Brn.F (by (try simp only [smT]);first | rfl | assumption | fail) ?_ | (refine Bnd.mk (fun hm => ?_);(try simp only [smT] at hm)) | (refine CL.mk (Or.inl ?_);(conv => whnf);refine Cl.is (hi) rfl (by first | exact fun _ => rfl | fail) ?_) | fail)
  all_goals (conv => whnf)
  all_goals exact Ret.is rfl
theorem indexU_T (s : ByteArray) : CallsA Tryz.prog 139 [dsr s,dsr nlB] [] (Is (di (Go.Lib.indexByte s.data.toList 10))) := by
 have h := index0U_T s
 have e : (if s = nlB then 0 else Go.Lib.indexByte s.data.toList 10) = Go.Lib.indexByte s.data.toList 10 := by
  by_cases h : s = nlB
  ·subst h;decide
  ·rw [if_neg h]
 rw [e] at h
 refine callsA_of_vc (T := tt) Tryz.func139 rfl rfl rfl rfl rfl ?_
 repeat' ((conv => whnf);first | refine Gs.id ?_ | (refine CL.mk (Or.inl ?_);(conv => whnf);refine Cl.is (h) rfl (by first | exact fun _ => rfl | fail) ?_) | fail)
 all_goals (conv => whnf)
 all_goals exact Ret.is rfl
theorem containsU_T (s : ByteArray) : CallsA Tryz.prog 96 [dsr s,dsr nlB] [] (Is (db (decide (hasNl s)))) := by
 have h := indexU_T s
 rw [← nl_has]
 refine callsA_of_vc (T := tt) Tryz.func96 rfl rfl rfl rfl rfl ?_
 repeat' ((conv => whnf);first | refine Gs.id ?_ | (refine CL.mk (Or.inl ?_);(conv => whnf);refine Cl.is (h) rfl (by first | exact fun _ => rfl | fail) ?_) | fail)
 all_goals (conv => whnf)
 all_goals exact Ret.is rfl
end Go.Proofs.YtjpaaaecbgmcgaaGreatDoor
namespace Go.Proofs.YtjpaaaecbgmcgaaGreatDoor
open Go.RowKit
set_option maxHeartbeats 4000000 in
theorem possible_T (v : ByteArray) : CallsA Tryz.prog 67 [dsr v] [] (Is (db (possB v))) := by
 have h1 := toList_beq v okB
 have h2 := toList_beq v fuelB
 have h3 := toList_beq v outB
 have h4 := toList_beq v failB
 have q1 := cutPre_T v errB
 have q2 := cutPre_T v failC
 unfold possB isC
 by_cases e1 : v = okB
 ·rw [decide_eq_true e1] at h1 ⊢
  rw [Bool.true_or,Bool.true_or,Bool.true_or,Bool.true_or]
  clear e1 h2 h3 h4
  refine callsA_of_vc (T := tt) Tryz.func67 rfl rfl rfl rfl rfl ?_
  repeat' ((conv => whnf);first | rw [h1] | refine Gs.id ?_ | with_reducible refine Brn.T rfl ?_ | fail)
  all_goals (conv => whnf)
  all_goals exact Ret.is rfl
 rw [decide_eq_false e1] at h1 ⊢
 by_cases e2 : v = fuelB
 ·rw [decide_eq_true e2] at h2 ⊢
  rw [Bool.false_or,Bool.true_or,Bool.true_or,Bool.true_or]
  clear e1 e2 h3 h4
  refine callsA_of_vc (T := tt) Tryz.func67 rfl rfl rfl rfl rfl ?_
  repeat' ((conv => whnf);first | rw [h1] | rw [h2] | refine Gs.id ?_ | with_reducible refine Brn.T rfl ?_ | with_reducible refine Brn.F rfl ?_ | fail)
  all_goals (conv => whnf)
  all_goals exact Ret.is rfl
 rw [decide_eq_false e2] at h2 ⊢
 by_cases e3 : v = outB
 ·rw [decide_eq_true e3] at h3 ⊢
  rw [Bool.false_or,Bool.false_or,Bool.true_or,Bool.true_or]
  clear e1 e2 e3 h4
  refine callsA_of_vc (T := tt) Tryz.func67 rfl rfl rfl rfl rfl ?_
  repeat' ((conv => whnf);first | rw [h1] | rw [h2] | rw [h3] | refine Gs.id ?_ | with_reducible refine Brn.T rfl ?_ | with_reducible refine Brn.F rfl ?_ | fail)
  all_goals (conv => whnf)
  all_goals exact Ret.is rfl
 rw [decide_eq_false e3] at h3 ⊢
 by_cases e4 : v = failB
 ·rw [decide_eq_true e4] at h4 ⊢
  rw [Bool.false_or,Bool.false_or,Bool.false_or,Bool.true_or]
  clear e1 e2 e3 e4
  refine callsA_of_vc (T := tt) Tryz.func67 rfl rfl rfl rfl rfl ?_
  repeat' ((conv => whnf);first | rw [h1] | rw [h2] | rw [h3] | rw [h4] | refine Gs.id ?_ | with_reducible refine Brn.T rfl ?_ | with_reducible refine Brn.F rfl ?_ | fail)
  all_goals (conv => whnf)
  all_goals exact Ret.is rfl
 rw [decide_eq_false e4] at h4 ⊢
 rw [Bool.false_or,Bool.false_or,Bool.false_or,Bool.false_or]
 clear e1 e2 e3 e4
 cases p1 : preB v errB
 ·rw [p1,cutP,p1,if_neg (by simp)] at q1
  rw [if_neg (by simp)]
  cases p2 : preB v failC
  ·rw [p2,cutP,p2,if_neg (by simp)] at q2
   rw [Bool.false_and]
   refine callsA_of_vc (T := tt) Tryz.func67 rfl rfl rfl rfl rfl ?_
   repeat' ((conv => whnf);first | rw [h1] | rw [h2] | rw [h3] | rw [h4] | refine Gs.id ?_ | with_reducible refine Brn.T rfl ?_ | with_reducible refine Brn.F rfl ?_ | (refine CL.mk (Or.inl ?_);(conv => whnf);first | refine Cl.is (q1) rfl (by first | exact fun _ => rfl | fail) ?_ | refine Cl.is (q2) rfl (by first | exact fun _ => rfl | fail) ?_) | fail)
   all_goals (conv => whnf)
   all_goals exact Ret.is rfl
  ·rw [p2,cutP,p2,if_pos rfl,show failC.size = 8 from rfl] at q2
   rw [Bool.true_and]
   generalize v.extract 8 v.size = r at *
   have q3 := containsU_T r
   unfold rsOk
   generalize decide (hasNl r) = x at *
   by_cases hz : r.size ≤ 3984
   ·rw [decide_eq_true hz,Bool.and_true]
    cases x
    all_goals
     refine callsA_of_vc (T := tt) Tryz.func67 rfl rfl rfl rfl rfl ?_
     repeat' ((conv => whnf);first | rw [h1] | rw [h2] | rw [h3] | rw [h4] | refine Gs.id ?_ | with_reducible refine Brn.T rfl ?_ | with_reducible refine Brn.F rfl ?_ | (refine Bnd.mk (fun hm => ?_);(try simp only [smT] at hm)) | (refine CL.mk (Or.inl ?_);(conv => whnf);first | refine Cl.is (q1) rfl (by first | exact fun _ => rfl | fail) ?_ | refine Cl.is (q2) rfl (by first | exact fun _ => rfl | fail) ?_ | refine Cl.is (q3) rfl (by first | exact fun _ => rfl | fail) ?_) | fail)
     all_goals (conv => whnf)
     all_goals first | exact Ret.is rfl | exact Ret.is (by rw [show decide ((r.size : Int) ≤ 3984) = true from decide_eq_true (by omega)];rfl)
   ·rw [decide_eq_false hz,Bool.and_false]
    cases x
    all_goals
     refine callsA_of_vc (T := tt) Tryz.func67 rfl rfl rfl rfl rfl ?_
     repeat' ((conv => whnf);first | rw [h1] | rw [h2] | rw [h3] | rw [h4] | refine Gs.id ?_ | with_reducible refine Brn.T rfl ?_ | with_reducible refine Brn.F rfl ?_ | (refine Bnd.mk (fun hm => ?_);(try simp only [smT] at hm)) | (refine CL.mk (Or.inl ?_);(conv => whnf);first | refine Cl.is (q1) rfl (by first | exact fun _ => rfl | fail) ?_ | refine Cl.is (q2) rfl (by first | exact fun _ => rfl | fail) ?_ | refine Cl.is (q3) rfl (by first | exact fun _ => rfl | fail) ?_) | fail)
     all_goals (conv => whnf)
     all_goals first | exact Ret.is rfl | exact Ret.is (by rw [show decide ((r.size : Int) ≤ 3984) = false from decide_eq_false (by omega)];rfl)
 ·rw [p1,cutP,p1,if_pos rfl,show errB.size = 7 from rfl] at q1
  rw [if_pos rfl]
  clear q2
  generalize v.extract 7 v.size = r at *
  have q3 := containsU_T r
  have q4 := hasPre_T r assC
  have h5 := toList_beq r assB
  unfold lnOk
  generalize decide (hasNl r) = x at *
  generalize preB r assC = y at *
  generalize decide (r = assB) = z at *
  by_cases hz : r.size ≤ 4000
  ·rw [decide_eq_true hz,Bool.and_true]
   cases x <;> cases y <;> cases z
   all_goals
    refine callsA_of_vc (T := tt) Tryz.func67 rfl rfl rfl rfl rfl ?_
    repeat' ((conv => whnf);first | rw [h1] | rw [h2] | rw [h3] | rw [h4] | rw [h5] | refine Gs.id ?_ | with_reducible refine Brn.T rfl ?_ | with_reducible refine Brn.F rfl ?_ | refine Brn.T (by (try simp only [smT]);first | rfl | omega | fail) ?_ | (refine Bnd.mk (fun hm => ?_);(try simp only [smT] at hm)) | (refine CL.mk (Or.inl ?_);(conv => whnf);first | refine Cl.is (q1) rfl (by first | exact fun _ => rfl | fail) ?_ | refine Cl.is (q3) rfl (by first | exact fun _ => rfl | fail) ?_ | refine Cl.is (q4) rfl (by first | exact fun _ => rfl | fail) ?_) | fail)
    all_goals (conv => whnf)
    all_goals first | exact Ret.is rfl | exact Ret.is (by rw [show decide ((r.size : Int) ≤ 4000) = true from decide_eq_true (by omega)];rfl)
  ·rw [decide_eq_false hz,Bool.and_false,Bool.false_and,Bool.false_and]
   cases x
   all_goals
    refine callsA_of_vc (T := tt) Tryz.func67 rfl rfl rfl rfl rfl ?_
    repeat' ((conv => whnf);first | rw [h1] | rw [h2] | rw [h3] | rw [h4] | refine Gs.id ?_ | with_reducible refine Brn.T rfl ?_ | with_reducible refine Brn.F rfl ?_ | refine Brn.F (by (try simp only [smT]);first | rfl | omega | fail) ?_ | (refine Bnd.mk (fun hm => ?_);(try simp only [smT] at hm)) | (refine CL.mk (Or.inl ?_);(conv => whnf);first | refine Cl.is (q1) rfl (by first | exact fun _ => rfl | fail) ?_ | refine Cl.is (q3) rfl (by first | exact fun _ => rfl | fail) ?_ | fail) | fail)
    all_goals (conv => whnf)
    all_goals first | exact Ret.is rfl | exact Ret.is (by rw [show decide ((r.size : Int) ≤ 4000) = false from decide_eq_false (by omega)];rfl)
end Go.Proofs.YtjpaaaecbgmcgaaGreatDoor
namespace Go.Proofs.YtjpaaaecbgmcgaaGreatDoor
open Go.RowKit
abbrev rwV (p : Rp) : List V := [.str p.1,.str p.2]
abbrev rws (l : List Rp) : V := .sl 2 (l.map rwV)
def rix (n : ByteArray) : List Rp → Nat → Int
 | [],_ => -1
 | a :: r,i => if a.1 = n then i else rix n r (i + 1)
theorem rix_some (n : ByteArray) : ∀ (l : List Rp) (i : Nat),(rix n l i = -1 ∧ findM l n = none) ∨ ∃ (k : Nat) (p : Rp),rix n l i = (i + k : Nat) ∧ l[k]? = some p ∧ findM l n = some p.2
 | [],_ => .inl ⟨rfl,rfl⟩
 | a :: r,i => by
  rw [rix,findM,List.find?_cons]
  by_cases h : a.1 = n
  ·rw [if_pos h,decide_eq_true h]
   exact .inr ⟨0,a,rfl,rfl,rfl⟩
  ·rw [if_neg h,decide_eq_false h]
   rcases rix_some n r (i + 1) with ⟨h1,h2⟩ | ⟨k,p,h1,h2,h3⟩
   ·exact .inl ⟨h1,h2⟩
   ·exact .inr ⟨k + 1,p,by rw [h1];congr 1;omega,by simpa using h2,h3⟩
theorem rix_in (n : ByteArray) (l : List Rp) : decide (0 ≤ rix n l 0) = inS n (l.map (·.1)) := by
 rw [← find_mem]
 rcases rix_some n l 0 with ⟨h1,h2⟩ | ⟨k,p,h1,h2,h3⟩
 ·rw [h1,h2];rfl
 ·rw [h1,h3];exact decide_eq_true (by omega)
abbrev fnQ (n : ByteArray) : V := .cl 66 [[.str n]]
theorem sameQ_T (p : Rp) (n : ByteArray) : CallsA Tryz.prog 66 [.a [.u (.str p.1),.u (.str p.2)],.d (.q [.str n] 0)] [] (Is (db (decide (p.1 = n)))) := by
 have e : (p.1.toList == n.toList) = decide (p.1 = n) := toList_beq p.1 n
 rw [← e]
 refine callsA_of_vc (T := tt) Tryz.func66 rfl rfl rfl rfl rfl ?_
 repeat' ((conv => whnf);first | refine Gs.id ?_ | fail)
 all_goals (conv => whnf)
 ·exact Ret.is rfl
theorem rixQ_T (l : List Rp) (n : ByteArray) (hl : l.length ≤ 9000000000) : CallsA Tryz.prog 50 [.d (.u (rws l)),.d (.u (fnQ n))] [] (Is (di (rix n l 0))) := by
 refine callsA_of_vc (T := tt) Tryz.func50 rfl rfl rfl rfl rfl ?_
 repeat' ((conv => whnf);first | refine Gs.id ?_ | (refine Bnd.mk (fun hm => ?_);(try simp only [smT] at hm)) | fail)
 all_goals (conv => whnf)
 refine ⟨⟨Nat,fun i => i ≤ l.length ∧ rix n l 0 = rix n (l.drop i) i,fun i => l.length - i,fun i => ⟨[(0,.d (.u (rws l))),(1,.d (.u (fnQ n))),(7,di l.length),(8,di i)],[]⟩,0,⟨Nat.zero_le _,rfl⟩,⟨[],⟨by (try dsimp only);(repeat (refine LeT.cons rfl (by first | exact LeS.d (by first | exact LeD.u rfl | exact LeD.u (by simp;done) | fail) | fail) ?_));exact LeT.nil,by (try dsimp only);repeat (first | exact LeO.nil | fail)⟩⟩,fun i hi => ?_⟩⟩
 obtain ⟨hi,he⟩ := hi
 dsimp only
 rw [he]
 by_cases h9 : i < l.length
 ·rw [List.drop_eq_getElem_cons h9,rix]
  have hrow : ∀ {K : List V → Prop},K (rwV l[i]) → Ix (l.map rwV) (i : Int) K := fun k => Ix.map rfl h9 k
  generalize l[i] = a at *
  have hn := sameQ_T a n
  obtain ⟨an,am⟩ := a
  dsimp only [rwV] at hn ⊢
  by_cases hx : an = n
  ·rw [decide_eq_true hx] at hn
   rw [if_pos hx]
   repeat' ((conv => whnf);first | refine hrow ?_ | refine Gs.id ?_ | with_reducible refine Brn.T rfl ?_ | refine Brn.T (by (try simp only [smT]);first | rfl | omega | fail) ?_ | (refine Raw.callF [] [] rfl rfl rfl rfl rfl rfl rfl rfl (hn) ?_;rintro _ _ ⟨rfl,rfl⟩;refine Bk.mk rfl rfl ?_))
   all_goals (conv => whnf)
   all_goals exact Ret.is rfl
  ·rw [decide_eq_false hx] at hn
   rw [if_neg hx]
   repeat' ((conv => whnf);first | refine hrow ?_ | refine Gs.id ?_ | with_reducible refine Brn.F rfl ?_ | refine Brn.T (by (try simp only [smT]);first | rfl | omega | fail) ?_ | refine Rng.mk (by (try simp only [smT]);omega) ?_ | (refine Raw.callF [] [] rfl rfl rfl rfl rfl rfl rfl rfl (hn) ?_;rintro _ _ ⟨rfl,rfl⟩;refine Bk.mk rfl rfl ?_))
   all_goals (conv => whnf)
   all_goals exact ⟨i + 1,⟨by omega,rfl⟩,by omega,[],⟨by (try dsimp only);(repeat (refine LeT.cons rfl (by first | exact LeS.d (by first | exact LeD.u rfl | fail) | fail) ?_));exact LeT.nil,by (try dsimp only);repeat (first | exact LeO.nil | fail)⟩⟩
 ·obtain rfl : i = l.length := by omega
  rw [List.drop_length,rix]
  repeat' ((conv => whnf);first | refine Gs.id ?_ | refine Brn.F (by (try simp only [smT]);first | rfl | omega | fail) ?_ | fail)
  all_goals (conv => whnf)
  all_goals exact Ret.is rfl
abbrev fnF (n : ByteArray) : V := .cl 51 [[.str n]]
theorem sameF_T (p : Rp) (n : ByteArray) : CallsA Tryz.prog 51 [.a [.u (.str p.1),.u (.str p.2)],.d (.q [.str n] 0)] [] (Is (db (decide (p.1 = n)))) := by
 have e : (p.1.toList == n.toList) = decide (p.1 = n) := toList_beq p.1 n
 rw [← e]
 refine callsA_of_vc (T := tt) Tryz.func51 rfl rfl rfl rfl rfl ?_
 repeat' ((conv => whnf);first | refine Gs.id ?_ | fail)
 all_goals (conv => whnf)
 ·exact Ret.is rfl
theorem rixF_T (l : List Rp) (n : ByteArray) (hl : l.length ≤ 9000000000) : CallsA Tryz.prog 50 [.d (.u (rws l)),.d (.u (fnF n))] [] (Is (di (rix n l 0))) := by
 refine callsA_of_vc (T := tt) Tryz.func50 rfl rfl rfl rfl rfl ?_
 repeat' ((conv => whnf);first | refine Gs.id ?_ | (refine Bnd.mk (fun hm => ?_);(try simp only [smT] at hm)) | fail)
 all_goals (conv => whnf)
 refine ⟨⟨Nat,fun i => i ≤ l.length ∧ rix n l 0 = rix n (l.drop i) i,fun i => l.length - i,fun i => ⟨[(0,.d (.u (rws l))),(1,.d (.u (fnF n))),(7,di l.length),(8,di i)],[]⟩,0,⟨Nat.zero_le _,rfl⟩,⟨[],⟨by (try dsimp only);(repeat (refine LeT.cons rfl (by first | exact LeS.d (by first | exact LeD.u rfl | exact LeD.u (by simp;done) | fail) | fail) ?_));exact LeT.nil,by (try dsimp only);repeat (first | exact LeO.nil | fail)⟩⟩,fun i hi => ?_⟩⟩
 obtain ⟨hi,he⟩ := hi
 dsimp only
 rw [he]
 by_cases h9 : i < l.length
 ·rw [List.drop_eq_getElem_cons h9,rix]
  have hrow : ∀ {K : List V → Prop},K (rwV l[i]) → Ix (l.map rwV) (i : Int) K := fun k => Ix.map rfl h9 k
  generalize l[i] = a at *
  have hn := sameF_T a n
  obtain ⟨an,am⟩ := a
  dsimp only [rwV] at hn ⊢
  by_cases hx : an = n
  ·rw [decide_eq_true hx] at hn
   rw [if_pos hx]
   repeat' ((conv => whnf);first | refine hrow ?_ | refine Gs.id ?_ | with_reducible refine Brn.T rfl ?_ | refine Brn.T (by (try simp only [smT]);first | rfl | omega | fail) ?_ | (refine Raw.callF [] [] rfl rfl rfl rfl rfl rfl rfl rfl (hn) ?_;rintro _ _ ⟨rfl,rfl⟩;refine Bk.mk rfl rfl ?_))
   all_goals (conv => whnf)
   all_goals exact Ret.is rfl
  ·rw [decide_eq_false hx] at hn
   rw [if_neg hx]
   repeat' ((conv => whnf);first | refine hrow ?_ | refine Gs.id ?_ | with_reducible refine Brn.F rfl ?_ | refine Brn.T (by (try simp only [smT]);first | rfl | omega | fail) ?_ | refine Rng.mk (by (try simp only [smT]);omega) ?_ | (refine Raw.callF [] [] rfl rfl rfl rfl rfl rfl rfl rfl (hn) ?_;rintro _ _ ⟨rfl,rfl⟩;refine Bk.mk rfl rfl ?_))
   all_goals (conv => whnf)
   all_goals exact ⟨i + 1,⟨by omega,rfl⟩,by omega,[],⟨by (try dsimp only);(repeat (refine LeT.cons rfl (by first | exact LeS.d (by first | exact LeD.u rfl | fail) | fail) ?_));exact LeT.nil,by (try dsimp only);repeat (first | exact LeO.nil | fail)⟩⟩
 ·obtain rfl : i = l.length := by omega
  rw [List.drop_length,rix]
  repeat' ((conv => whnf);first | refine Gs.id ?_ | refine Brn.F (by (try simp only [smT]);first | rfl | omega | fail) ?_ | fail)
  all_goals (conv => whnf)
  all_goals exact Ret.is rfl
theorem contQ_T (l : List Rp) (n : ByteArray) (hl : l.length ≤ 9000000000) : CallsA Tryz.prog 65 [.d (.u (rws l)),.d (.u (fnQ n))] [] (Is (db (inS n (l.map (·.1))))) := by
 have h := rixQ_T l n hl
 rw [← rix_in]
 generalize rix n l 0 = k at *
 refine callsA_of_vc (T := tt) Tryz.func65 rfl rfl rfl rfl rfl ?_
 repeat' ((conv => whnf);first | refine Gs.id ?_ | (refine CL.mk (Or.inl ?_);(conv => whnf);refine Cl.is (h) rfl (by first | exact fun _ => rfl | fail) ?_) | fail)
 all_goals (conv => whnf)
 all_goals exact Ret.is rfl
theorem find_T (l : List Rp) (n : ByteArray) (hl : l.length ≤ 9000000000) : CallsA Tryz.prog 31 [.d (.u (rws l)),dsr n] [] (Is (.t [.d (.u (.str ((findM l n).getD emB0))),.d (.u (.bool (findM l n).isSome))])) := by
 have h := rixF_T l n hl
 rcases rix_some n l 0 with ⟨h1,h2⟩ | ⟨k,p,h1,h2,h3⟩
 ·rw [h2]
  rw [h1] at h
  refine callsA_of_vc (T := tt) Tryz.func31 rfl rfl rfl rfl rfl ?_
  repeat' ((conv => whnf);first | refine Gs.go (i := 1) (Ghost.frzB 3 rfl rfl) ?_ | refine Gs.id ?_ | with_reducible refine Brn.T rfl ?_ | (refine CL.mk (Or.inl ?_);(conv => whnf);refine Cl.is (h) rfl (by first | exact fun _ => rfl | fail) ?_) | fail)
  all_goals (conv => whnf)
  all_goals exact Ret.is rfl
 ·rw [h3]
  rw [h1,Nat.zero_add] at h
  have hrow : (l.map rwV)[k]? = some (rwV p) := by rw [List.getElem?_map,h2];rfl
  obtain ⟨pn,pv⟩ := p
  refine callsA_of_vc (T := tt) Tryz.func31 rfl rfl rfl rfl rfl ?_
  repeat' ((conv => whnf);first | refine (Ix.mk ⟨k,rwV (pn,pv),rfl,hrow,?_⟩) | refine Gs.go (i := 1) (Ghost.frzB 3 rfl rfl) ?_ | refine Gs.id ?_ | with_reducible refine Brn.F rfl ?_ | (refine CL.mk (Or.inl ?_);(conv => whnf);refine Cl.is (h) rfl (by first | exact fun _ => rfl | fail) ?_) | fail)
  all_goals (conv => whnf)
  all_goals exact Ret.is rfl
end Go.Proofs.YtjpaaaecbgmcgaaGreatDoor
namespace Go.Proofs.YtjpaaaecbgmcgaaGreatDoor
open Go.RowKit Go.Shelf
def laysN145_ren : Go.Shelf.Ren := ⟨fun | 145 => 64 | 220 => 95 | 219 => 138 | 217 => 151 | 225 => 186 | 224 => 187 | 267 => 188 | 266 => 193 | 314 => 229 | n => n,fun | 9 => 9 | 4 => 4 | 59 => 104 | 3 => 3 | 5 => 5 | 46 => 185 | 146 => 239 | 51 => 183 | n => n,fun | 1 => 0 | n => n⟩
theorem laysN145 : Go.Proofs.Lays.n145 Tryz.prog laysN145_ren := {
 mixed := by kernel_rfl
 f145 := Tryz.func64.trans (congrArg some (by kernel_rfl))
 f217 := Tryz.func151.trans (congrArg some (by kernel_rfl))
 f219 := Tryz.func138.trans (congrArg some (by kernel_rfl))
 f220 := Tryz.func95.trans (congrArg some (by kernel_rfl))
 f224 := Tryz.func187.trans (congrArg some (by kernel_rfl))
 f225 := Tryz.func186.trans (congrArg some (by kernel_rfl))
 f266 := Tryz.func193.trans (congrArg some (by kernel_rfl))
 f267 := Tryz.func188.trans (congrArg some (by kernel_rfl))
 f314 := Tryz.func229.trans (congrArg some (by kernel_rfl))
 t3 := Tryz.underlying3
 a3 := Tryz.isAgg3
 z3 := Tryz.sizeOf3
 v3 := Tryz.zeroValue3
 t4 := Tryz.underlying4
 a4 := Tryz.isAgg4
 z4 := Tryz.sizeOf4
 v4 := Tryz.zeroValue4
 t5 := Tryz.underlying5
 a5 := Tryz.isAgg5
 z5 := Tryz.sizeOf5
 v5 := Tryz.zeroValue5
 t9 := Tryz.underlying9
 a9 := Tryz.isAgg9
 z9 := Tryz.sizeOf9
 v9 := Tryz.zeroValue9
 t46 := Tryz.underlying185
 a46 := Tryz.isAgg185
 z46 := Tryz.sizeOf185
 v46 := Tryz.zeroValue185
 t51 := Tryz.underlying183
 a51 := Tryz.isAgg183
 z51 := Tryz.sizeOf183
 v51 := Tryz.zeroValue183
 t59 := Tryz.underlying104
 a59 := Tryz.isAgg104
 z59 := Tryz.sizeOf104
 v59 := Tryz.zeroValue104
 t146 := Tryz.underlying239
 a146 := Tryz.isAgg239
 z146 := Tryz.sizeOf239
 v146 := Tryz.zeroValue239
 g1 := by kernel_rfl }
theorem cutL_size (s : ByteArray) : (⟨(cutL s).1.toArray⟩ : ByteArray).size ≤ s.size ∧ (⟨(cutL s).2.1.toArray⟩ : ByteArray).size ≤ s.size := by
 rcases Go.Lib.index_spec s.data.toList colB.data.toList with ⟨hi,_⟩ | ⟨i,hi,_,_,_⟩
 ·obtain ⟨e1,e2,_⟩ := Go.Lib.cutB_miss s colB hi
  rw [e1,e2]
  exact ⟨Nat.le_refl _,Nat.zero_le _⟩
 ·obtain ⟨e1,e2,_⟩ := Go.Lib.cutB_hit s colB i hi
  rw [e1,e2,ByteArray.size_extract,ByteArray.size_extract]
  exact ⟨by omega,by omega⟩
structure TabM (zt : Fz) : Prop where
 out : ∃ m : Int,zt.G 0 ∧ zt.w0.cell? ⟨0,0,none⟩ = some (.int .i64 m)
theorem cut_T (s : ByteArray) (hs : s.size < 4294967281) (zt : Fz) (ht : TabM zt) : CallsA Tryz.prog 64 [dsr s,dsr colB] [(907,tbOb zt)] (Iso (.t [.d (.u (.str ⟨(cutL s).1.toArray⟩)),.d (.u (.str ⟨(cutL s).2.1.toArray⟩)),.d (.u (.bool (cutL s).2.2))]) [(907,tbOb zt)]) := by
 refine ⟨⟨_,_,Tryz.func64,rfl,rfl⟩,fun c ρ hp vs w hw hl g => ?_⟩
 match vs,hl with
 | [v0,v1],_ =>
 obtain ⟨v,q1,q2⟩ := g.tm 0 _ rfl
 cases q1
 cases q2 with | d q2 => cases q2 with | u q2 => cases q2 with | str _ hm0 =>
 obtain ⟨v,q1,q2⟩ := g.tm 1 _ rfl
 cases q1
 cases q2 with | d q2 => cases q2 with | u q2 => cases q2 with | str _ _ =>
 obtain ⟨X,hp',rfl,⟨rfl,hmz,_⟩,rfl⟩ := g.ob
 obtain ⟨m,g2,g3⟩ := ht.out
 have e : w.heap[0]? = zt.w0.heap[0]? := (hw.same.block _ (g.gF _ (hmz.g _ g2))).trans (hmz.w _ g2)
 have hmx : w.cell? ⟨0,0,none⟩ = some (.int .i64 m) := (World.cell?_of_block (w := zt.w0) (a := ⟨0,0,none⟩) e).trans g3
 refine (Any.strings_Cut laysN145 s colB m w hs hmx).mono ?_
 rintro e w' ⟨rfl,k,rfl⟩
 obtain ⟨z1,z2⟩ := cutL_size s
 have hb : Below w.heap.size w (w.drewN k) := below_drewN (.refl _ _) _
 refine ⟨_,⟨c.F,c.w,_⟩,.t [.d (.u (.str ⟨(cutL s).1.toArray⟩)),.d (.u (.str ⟨(cutL s).2.1.toArray⟩)),.d (.u (.bool (cutL s).2.2))],_,ρ,c.G,rfl,hw.below hb,⟨fun _ h => h,Same.refl _ _,g.gF,fun _ h => .inl h,.refl _,fun k s' hk => ?_,g.ob⟩,rfl,rfl⟩
 simp only [lk] at hk ⊢
 cases hb : Nat.beq k 0 <;> rw [hb] at hk
 ·cases hk
 ·cases hk
  refine ⟨_,rfl,.t (vs := [.string ⟨(cutL s).1.toArray⟩,.string ⟨(cutL s).2.1.toArray⟩,.bool (cutL s).2.2]) rfl fun j s' v h1 h2 => ?_⟩
  match j,h1,h2 with
  | 0,h1,h2 => cases h1;cases h2;exact .d (.u (.str _ (by omega)))
  | 1,h1,h2 => cases h1;cases h2;exact .d (.u (.str _ (by omega)))
  | 2,h1,h2 => cases h1;cases h2;exact .d (.u (.bool _))
end Go.Proofs.YtjpaaaecbgmcgaaGreatDoor
namespace Go.Proofs.YtjpaaaecbgmcgaaGreatDoor
open Go.RowKit
abbrev nilI (i : Int) : SV := .t [.d (.u .nl),.d (.u (.int .i64 i))]
abbrev ownI (n : Nat) : SV := .t [.d (.ow 933 n),.d (.u (.int .i64 (-1)))]
def readPost (zt : Fz) : Nat ⊕ List Rp → SV → List (Nat × Ob) → Prop
 | .inl i => Iso (nilI i) [(907,tbOb zt)]
 | .inr rs => Iso (ownI rs.length) [(933,.ar 58 2 (rs.map rwV)),(907,tbOb zt)]
def badEnd (l : List ByteArray) (rs : List Rp) : Nat ⊕ List Rp := if l[l.length - 1]?.getD emB0 = (ctM (rs.map (·.2))).line then .inr rs else .inl (l.length - 1)
theorem ct_snoc (acc : List Rp) (p : Rp) : ctM ((acc ++ [p]).map (·.2)) = (ctM (acc.map (·.2))).add p.2 := by rw [List.map_append];exact ctM_snoc _ _
theorem ct_bd (vs : List ByteArray) : (ctM vs).t = vs.length ∧ 0 ≤ (ctM vs).f ∧ (ctM vs).f ≤ vs.length ∧ 0 ≤ (ctM vs).x ∧ (ctM vs).x ≤ vs.length ∧ (ctM vs).f + (ctM vs).x ≤ vs.length := by
 have := ctM_bd vs vs.length (Nat.le_refl _)
 rwa [List.take_length] at this
set_option maxHeartbeats 8000000 in
theorem read_T (l : List ByteArray) (hl : l.length ≤ 9000000000) (hsz : ∀ s ∈ l,s.size < 4294967281) (zt : Fz) (hz : Tab zt) (hmx : TabM zt) :
  CallsA Tryz.prog 49 [.d (.u (strs' l))] [(907,tbOb zt)] (readPost zt (readM l)) := by
 have hln : (strs l).length = l.length := by simp [strs]
 by_cases h0 : l.length = 0
 ·rw [readM,if_pos h0]
  show CallsA _ _ _ _ (Iso (nilI 0) [(907,tbOb zt)])
  refine callsA_of_vcO (T := tt) Tryz.func49 rfl rfl rfl rfl rfl ?_
  repeat' ((conv => whnf);first | refine Gs.id ?_ | refine Brn.T (by (try simp only [smT]);first | rfl | omega | fail) ?_ | (refine Bnd.mk (fun hm => ?_);(try simp only [smT] at hm)) | fail)
  all_goals (conv => whnf)
  all_goals refine RetO.mk ⟨[(907,.k 907)],_,_,(by exact LeS.ts (by repeat (first | exact LeCs.nil | refine LeCs.cons (by first | exact LeC.d (by first | exact LeD.u rfl | fail) | fail) ?_))),(by repeat (first | exact LeO.nil | refine LeO.ab rfl rfl (by repeat (first | exact LeL.nil | fail)) (by first | rfl | fail) ?_ | fail)),rfl,rfl⟩
 have hlt : ((strs l).take (l.length - 1)).length = l.length - 1 := by rw [List.length_take,hln];omega
 have hml : readM l = (match rdM (l.take (l.length - 1)) [] with | .inl i => .inl i | .inr rs => badEnd l rs) := by rw [readM,if_neg h0];rfl
 rw [hml]
 have hlz : (l.take (l.length - 1)).length = l.length - 1 := by rw [List.length_take];omega
 refine callsA_of_vcO (T := tt) Tryz.func49 rfl rfl rfl rfl rfl ?_
 repeat' ((conv => whnf);first | refine Slc.mk ⟨0,l.length - 1,rfl,by rw [hln];omega,by omega,by omega,?_⟩ | refine Gs.id ?_ | refine Brn.F (by (try simp only [smT]);first | rfl | omega | fail) ?_ | (refine Bnd.mk (fun hm => ?_);(try simp only [smT] at hm)) | refine Rng.mk (by (try simp only [smT]);omega) ?_ | fail)
 all_goals (conv => whnf)
 refine ⟨⟨List Rp,fun acc => WfR acc ∧ acc.length ≤ l.length - 1 ∧ rdM (l.take (l.length - 1)) [] = rdM ((l.take (l.length - 1)).drop acc.length) acc,fun acc => l.length - 1 - acc.length,fun acc => ⟨[(0,.d (.u (strs' l))),(4,.d (.p 6 0)),(5,.d (.ow 900 acc.length)),(19,.d (.u (.sl 1 ((strs l).take (l.length - 1))))),(20,di ((l.length - 1 : Nat) : Int)),(21,di acc.length)],[(6,.bx 45 (ctM (acc.map (·.2))).ds),(900,.ar 58 2 (acc.map rwV)),(907,tbOb zt)]⟩,[],⟨.nil,Nat.zero_le _,rfl⟩,⟨[(6,.k 4),(900,.n 2),(907,.k 907)],⟨by (try dsimp only);(repeat (refine LeT.cons rfl (by first | exact LeS.d (by first | exact LeD.u rfl | exact LeD.p rfl | exact LeD.no rfl rfl | exact LeD.u (by simp;done) | fail) | fail) ?_));exact LeT.nil,by (try dsimp only);repeat (first | exact LeO.nil | refine LeO.bx rfl rfl (by repeat (first | exact LeL.nil | refine LeL.cons (by first | exact LeD.u rfl | fail) ?_)) ?_ | refine LeO.ab rfl rfl (by repeat (first | exact LeL.nil | fail)) (by first | rfl | fail) ?_ | refine LeO.no rfl rfl ?_)⟩⟩,fun acc hi => ?_⟩⟩
 obtain ⟨hw,hi,he⟩ := hi
 dsimp only
 rw [he]
 have hbd := ct_bd (acc.map (·.2))
 rw [List.length_map] at hbd
 by_cases h9 : acc.length < l.length - 1
 ·obtain ⟨s,hs0⟩ : ∃ s,(l.take (l.length - 1))[acc.length]? = some s := ⟨_,List.getElem?_eq_getElem (by omega)⟩
  have hrs : ((strs l).take (l.length - 1))[acc.length]? = some [V.str s] := by
   have : (strs l).take (l.length - 1) = strs (l.take (l.length - 1)) := by simp [strs,List.map_take]
   rw [this];unfold strs;rw [List.getElem?_map,hs0];rfl
  have hsm : s ∈ l := List.mem_of_mem_take (List.mem_of_getElem? hs0)
  have hdr : (l.take (l.length - 1)).drop acc.length = s :: (l.take (l.length - 1)).drop (acc.length + 1) := by
   obtain ⟨a,b⟩ := List.getElem?_eq_some_iff.1 hs0
   rw [List.drop_eq_getElem_cons a,b]
  rw [hdr,rdM]
  have hcut := cut_T s (hsz s hsm) zt hmx
  have hzz := cutL_size s
  clear hdr he hs0
  cases hg : cutM s with
  | none =>
   have e0 : goodL (acc.map (·.1)) s = none := by rw [goodL,hg]
   rw [e0]
   dsimp only
   have hno := cut_none hg
   generalize (⟨(cutL s).1.toArray⟩ : ByteArray) = c1 at *
   generalize (⟨(cutL s).2.1.toArray⟩ : ByteArray) = c2 at *
   have hct := contQ_T acc c1 (by omega)
   have hnm := isName_T' c1
   generalize inS c1 (acc.map (·.1)) = b1 at *
   generalize (cutL s).2.2 = b3 at *
   cases b3
   ·clear hno
    repeat' ((conv => whnf);first | refine (Ix.mk ⟨acc.length,[V.str s],rfl,hrs,?_⟩) | refine Gs.go (i := 9) (Ghost.frzB 8 rfl rfl) ?_ | refine Gs.id ?_ | with_reducible refine Brn.T rfl ?_ | refine Brn.T (by (try simp only [smT]);first | rfl | omega | fail) ?_ | (refine CL.mk (Or.inr (Raw.callR (by repeat (first | exact ArgR.nil | refine ArgR.d rfl (by first | exact BorR.u | exact BorR.ar rfl (by first | rfl | (simp;done)) | fail) ?_ | fail)) rfl (hct) ⟨_,rfl,rfl⟩ rfl ?_));refine Bk.mk rfl rfl ?_) | (refine CL.mk (Or.inr (Raw.callI [907] [907] rfl rfl rfl rfl rfl rfl rfl (hcut) ?_));rintro _ _ ⟨rfl,rfl⟩;refine Bk.mk rfl rfl ?_))
    all_goals (conv => whnf)
    all_goals refine RetO.mk ⟨[(907,.k 907)],_,_,(by exact LeS.ts (by repeat (first | exact LeCs.nil | refine LeCs.cons (by first | exact LeC.d (by first | exact LeD.u rfl | fail) | fail) ?_))),(by repeat (first | exact LeO.nil | refine LeO.ab rfl rfl (by repeat (first | exact LeL.nil | fail)) (by first | rfl | fail) ?_ | fail)),rfl,rfl⟩
   ·rw [hno rfl] at hnm
    clear hno
    cases b1
    all_goals
     repeat' ((conv => whnf);first | refine (Ix.mk ⟨acc.length,[V.str s],rfl,hrs,?_⟩) | refine Gs.go (i := 9) (Ghost.frzB 8 rfl rfl) ?_ | refine Gs.id ?_ | with_reducible refine Brn.T rfl ?_ | with_reducible refine Brn.F rfl ?_ | refine Brn.T (by (try simp only [smT]);first | rfl | omega | fail) ?_ | (refine CL.mk (Or.inl ?_);(conv => whnf);refine Cl.is (hnm) rfl (by first | exact fun _ => rfl | fail) ?_) | (refine CL.mk (Or.inr (Raw.callR (by repeat (first | exact ArgR.nil | refine ArgR.d rfl (by first | exact BorR.u | exact BorR.ar rfl (by first | rfl | (simp;done)) | fail) ?_ | fail)) rfl (hct) ⟨_,rfl,rfl⟩ rfl ?_));refine Bk.mk rfl rfl ?_) | (refine CL.mk (Or.inr (Raw.callI [907] [907] rfl rfl rfl rfl rfl rfl rfl (hcut) ?_));rintro _ _ ⟨rfl,rfl⟩;refine Bk.mk rfl rfl ?_))
     all_goals (conv => whnf)
     all_goals refine RetO.mk ⟨[(907,.k 907)],_,_,(by exact LeS.ts (by repeat (first | exact LeCs.nil | refine LeCs.cons (by first | exact LeC.d (by first | exact LeD.u rfl | fail) | fail) ?_))),(by repeat (first | exact LeO.nil | refine LeO.ab rfl rfl (by repeat (first | exact LeL.nil | fail)) (by first | rfl | fail) ?_ | fail)),rfl,rfl⟩
  | some p =>
   obtain ⟨f1,f2,f3⟩ := cut_some hg
   rw [f1,f2,f3] at hcut
   rw [f1,f2] at hzz
   clear f1 f2 f3
   obtain ⟨n,v⟩ := p
   dsimp only at hcut hzz
   have hct := contQ_T acc n (by omega)
   have hnm := isName_T' n
   have hps := possible_T v
   have hgd : goodL (acc.map (·.1)) s = if (nameB n && !inS n (acc.map (·.1)) && possB v) = true then some (n,v) else none := by rw [goodL,hg]
   have hwf : (nameB n && !inS n (acc.map (·.1)) && possB v) = true → WfR (acc ++ [(n,v)]) := fun h => hw.snoc (by rw [hgd,if_pos h])
   rw [hgd]
   clear hgd hg
   generalize hb1 : nameB n = b1 at *
   generalize hb2 : inS n (acc.map (·.1)) = b2 at *
   generalize hb3 : possB v = b3 at *
   by_cases hall : b1 = true ∧ b2 = false ∧ b3 = true
   ·obtain ⟨rfl,rfl,rfl⟩ := hall
    rw [if_pos (show (true && !false && true) = true from rfl)]
    dsimp only
    have hwf := hwf rfl
    have hnz := nameB_size' hb1
    have hvz := poss_size hb3
    have hct2 := ct_snoc acc (n,v)
    clear hb1 hb2 hb3
    generalize ctM (acc.map (·.2)) = cc at *
    repeat' ((conv => whnf);first | refine (Ix.mk ⟨acc.length,[V.str s],rfl,hrs,?_⟩) | refine Gs.go (i := 9) (Ghost.frzB 8 rfl rfl) ?_ | refine Gs.id ?_ | with_reducible refine Brn.F rfl ?_ | refine Brn.T (by (try simp only [smT]);first | rfl | omega | fail) ?_ | refine Rng.mk (by (try simp only [smT]);omega) ?_ | refine Apd.mk (by first | rfl | simp) (by first | rfl | fail) (by (try simp only [smT]);first | omega | fail) (by unfold maxLen;first | (simp;omega) | fail) ?_ | (refine CL.mk (Or.inl ?_);(conv => whnf);first | refine Cl.is (hnm) rfl (by first | exact fun _ => rfl | fail) ?_ | refine Cl.is (hps) rfl (by first | exact fun _ => rfl | fail) ?_) | (refine CL.mk (Or.inr (Raw.callR (by repeat (first | exact ArgR.nil | refine ArgR.d rfl (by first | exact BorR.u | exact BorR.ar rfl (by first | rfl | (simp;done)) | fail) ?_ | fail)) rfl (hct) ⟨_,rfl,rfl⟩ rfl ?_));refine Bk.mk rfl rfl ?_) | (refine CL.mk (Or.inr (Raw.callI [907] [907] rfl rfl rfl rfl rfl rfl rfl (hcut) ?_));rintro _ _ ⟨rfl,rfl⟩;refine Bk.mk rfl rfl ?_) | (refine CL.mk (Or.inr (Raw.callFP (x := .func _) [6] [6] [] rfl rfl rfl rfl rfl rfl rfl rfl rfl (cadd_P cc v (by omega) (by omega) (by omega)) ?_));rintro _ _ ⟨rfl,rfl⟩;refine BkP.mk rfl rfl ?_))
    all_goals (conv => whnf)
    all_goals exact ⟨acc ++ [(n,v)],⟨hwf,by simp;omega,by rw [List.length_append];rfl⟩,by simp;omega,[(6,.k 6),(900,.k 58),(907,.k 907)],by (rw [hct2];exact ⟨by (try dsimp only);(repeat (refine LeT.cons rfl (by first | exact LeS.d (by first | exact LeD.u rfl | exact LeD.p rfl | exact LeD.ow rfl (by simp [rwV]) | exact LeD.u (by simp [rwV];done) | fail) | fail) ?_));exact LeT.nil,by (try dsimp only);repeat (first | exact LeO.nil | refine LeO.bx rfl rfl (by repeat (first | exact LeL.nil | refine LeL.cons (by first | exact LeD.u rfl | fail) ?_)) ?_ | refine LeO.ar rfl rfl (by first | rfl | simp [rwV]) ?_ | refine LeO.ab rfl rfl (by repeat (first | exact LeL.nil | fail)) (by first | rfl | fail) ?_ | fail)⟩)⟩
   ·have e0 : ¬ (b1 && !b2 && b3) = true := fun h => hall (by simpa [and_assoc] using h)
    rw [if_neg e0]
    dsimp only
    clear hwf hb1 hb2 hb3
    cases b1 <;> cases b2 <;> cases b3
    all_goals first
     | (exfalso;exact hall ⟨rfl,rfl,rfl⟩)
     | (
      clear hall e0
      repeat' ((conv => whnf);first | refine (Ix.mk ⟨acc.length,[V.str s],rfl,hrs,?_⟩) | refine Gs.go (i := 9) (Ghost.frzB 8 rfl rfl) ?_ | refine Gs.id ?_ | with_reducible refine Brn.T rfl ?_ | with_reducible refine Brn.F rfl ?_ | refine Brn.T (by (try simp only [smT]);first | rfl | omega | fail) ?_ | (refine CL.mk (Or.inl ?_);(conv => whnf);first | refine Cl.is (hnm) rfl (by first | exact fun _ => rfl | fail) ?_ | refine Cl.is (hps) rfl (by first | exact fun _ => rfl | fail) ?_) | (refine CL.mk (Or.inr (Raw.callR (by repeat (first | exact ArgR.nil | refine ArgR.d rfl (by first | exact BorR.u | exact BorR.ar rfl (by first | rfl | (simp;done)) | fail) ?_ | fail)) rfl (hct) ⟨_,rfl,rfl⟩ rfl ?_));refine Bk.mk rfl rfl ?_) | (refine CL.mk (Or.inr (Raw.callI [907] [907] rfl rfl rfl rfl rfl rfl rfl (hcut) ?_));rintro _ _ ⟨rfl,rfl⟩;refine Bk.mk rfl rfl ?_))
      all_goals (conv => whnf)
      all_goals refine RetO.mk ⟨[(907,.k 907)],_,_,(by exact LeS.ts (by repeat (first | exact LeCs.nil | refine LeCs.cons (by first | exact LeC.d (by first | exact LeD.u rfl | fail) | fail) ?_))),(by repeat (first | exact LeO.nil | refine LeO.ab rfl rfl (by repeat (first | exact LeL.nil | fail)) (by first | rfl | fail) ?_ | fail)),rfl,rfl⟩)
 ·have hae : acc.length = l.length - 1 := by omega
  have hdr : (l.take (l.length - 1)).drop acc.length = [] := List.drop_eq_nil_of_le (by omega)
  rw [hdr,rdM]
  dsimp only
  obtain ⟨z,hz0⟩ : ∃ z,l[l.length - 1]? = some z := ⟨_,List.getElem?_eq_getElem (by omega)⟩
  have hrz : (strs l)[l.length - 1]? = some [V.str z] := by unfold strs;rw [List.getElem?_map,hz0];rfl
  have hcl := cline_T (ctM (acc.map (·.2))) (by omega) (by omega) (by omega) zt hz
  unfold badEnd
  rw [hz0,Option.getD_some]
  generalize hln2 : (ctM (acc.map (·.2))).line = ln at *
  have hzl := toList_beq z ln
  clear hdr he hz0
  by_cases hq : z = ln
  ·rw [decide_eq_true hq] at hzl
   rw [if_pos hq]
   clear hq
   repeat' ((conv => whnf);first | refine (Ix.mk ⟨l.length - 1,[V.str z],by omega,hrz,?_⟩) | rw [hzl] | refine Drw.ghost (i := 15) (Ghost.frzB 6 rfl rfl) ?_ | refine Gs.id ?_ | with_reducible refine Brn.F rfl ?_ | refine Brn.F (by (try simp only [smT]);first | rfl | omega | fail) ?_ | (refine Bnd.mk (fun hm => ?_);(try simp only [smT] at hm)) | refine Rng.mk (by (try simp only [smT]);omega) ?_ | refine Drw.ofT (T := tt) (i := 15) [7] [0,1,2,3,4,5,6,8] (OF.fst 0 (OF.fst 1 (OF.fst 2 (OF.fst 3 (OF.fst 4 (OF.fst 5 (OF.fst 6 (OF.alt 7 (OF.fst 8 OF.nil) OF.nil)))))))) (by kernel_rfl) ?_ | (refine CL.mk (Or.inr (Raw.callI [907] [907] rfl rfl rfl rfl rfl rfl rfl (hcl) ?_));rintro _ _ ⟨rfl,rfl⟩;refine Bk.mk rfl rfl ?_))
   all_goals (conv => whnf)
   all_goals refine RetO.mk ⟨[(933,.k 900),(907,.k 907)],_,_,(by exact LeS.ts (by repeat (first | exact LeCs.nil | refine LeCs.cons (by first | exact LeC.d (by first | exact LeD.u rfl | exact LeD.ow rfl rfl | fail) | fail) ?_))),(by repeat (first | exact LeO.nil | refine LeO.ar rfl rfl (by first | rfl | fail) ?_ | refine LeO.ab rfl rfl (by repeat (first | exact LeL.nil | fail)) (by first | rfl | fail) ?_ | fail)),rfl,rfl⟩
  ·rw [decide_eq_false hq] at hzl
   rw [if_neg hq]
   have hcast : ((l.length - 1 : Nat) : Int) = (l.length : Int) - 1 := by omega
   have hpost : readPost zt (.inl (l.length - 1)) = Iso (nilI ((l.length : Int) - 1)) [(907,tbOb zt)] := by rw [← hcast];rfl
   rw [hpost]
   clear hq hpost
   repeat' ((conv => whnf);first | refine (Ix.mk ⟨l.length - 1,[V.str z],by omega,hrz,?_⟩) | rw [hzl] | refine Drw.ghost (i := 15) (Ghost.frzB 6 rfl rfl) ?_ | refine Gs.id ?_ | with_reducible refine Brn.T rfl ?_ | refine Brn.F (by (try simp only [smT]);first | rfl | omega | fail) ?_ | (refine Bnd.mk (fun hm => ?_);(try simp only [smT] at hm)) | refine Rng.mk (by (try simp only [smT]);omega) ?_ | refine Drw.ofT (T := tt) (i := 15) [7] [0,1,2,3,4,5,6,8] (OF.fst 0 (OF.fst 1 (OF.fst 2 (OF.fst 3 (OF.fst 4 (OF.fst 5 (OF.fst 6 (OF.alt 7 (OF.fst 8 OF.nil) OF.nil)))))))) (by kernel_rfl) ?_ | (refine CL.mk (Or.inr (Raw.callI [907] [907] rfl rfl rfl rfl rfl rfl rfl (hcl) ?_));rintro _ _ ⟨rfl,rfl⟩;refine Bk.mk rfl rfl ?_))
   all_goals (conv => whnf)
   all_goals refine RetO.mk ⟨[(907,.k 907)],_,_,(by exact LeS.ts (by repeat (first | exact LeCs.nil | refine LeCs.cons (by first | exact LeC.d (by first | exact LeD.u rfl | exact LeD.u (by simp;done) | fail) | fail) ?_))),(by repeat (first | exact LeO.nil | refine LeO.ab rfl rfl (by repeat (first | exact LeL.nil | fail)) (by first | rfl | fail) ?_ | fail)),rfl,rfl⟩
end Go.Proofs.YtjpaaaecbgmcgaaGreatDoor
