/-
  Part 1 of the proofs of ureport_holds, ucompare_holds, ureports_holds: laws and contracts that they need.
-/
import Derived.Test.YtjpaaaecbgmcgaaGreatDoorRows
import Derived.ProofKit
import Derived.Carry
import Derived.SizedLaws
import Derived.WalkKit
import Derived.WalkSpells
import Derived.WalkLawsBesides
import Derived.Deep.QuietTactic
import Derived.BigQuiet
import Derived.Lib.Hide
import Derived.Deep.AppendLies
import Derived.Deep.Draws
import Derived.Laws.OwnMore
import Derived.Maps.AppendAt
import Derived.RegionTactic
import Derived.OwnWalk
import Derived.RangeFuncIn
import Derived.OrdersIn
import Derived.TacticsIn
import Derived.Deep.LoopGhost
import Derived.Deep.RegionHeld
import Derived.IntWalk
set_option linter.unusedVariables false
set_option linter.unusedSimpArgs false
namespace Go.Proofs.YtjpaaaecbgmcgaaGreatDoor
open Go.ChangeShapes Go.WideShapes Go.ChangeAt Go.RowKit
section
variable {H : Type} {enc : TypeId × Value → H} {P : Program}
theorem trodAll_stays (hl : laidOutB P = true) {W W' : World} {sp' : Nat → Bool} : ∀ {ts : List TypeId} {vs : List Value} {ds : List (DataW H)} {ps : List MemPlace},(∀ t ∈ ts,P.readableRec t = true ∧ t < P.types.size) →
  DataW.TrodAll enc P W 0 (fun _ => true) true ts vs ds ps → (∀ p ∈ ps,W.sameAt W' p) → (∀ p ∈ ps,sp' p.block = true) → DataW.TrodAll enc P W' 0 sp' true ts vs ds ps
 | [],[],[],_,_,h,_,_ => h
 | _ :: _,_ :: _,_ :: _,_,hT,⟨p,q,h1,h2,e⟩,hm,hs =>
  ⟨p,q,WideElems.Trod_stays hl (hT _ (List.mem_cons.2 (Or.inl rfl))).1 (hT _ (List.mem_cons.2 (Or.inl rfl))).2 h1 (fun x hx => hm x (by rw [e];exact List.mem_append_left _ hx)) (fun x hx => hs x (by rw [e];exact List.mem_append_left _ hx)),
   trodAll_stays hl (fun t ht => hT t (List.mem_cons.2 (Or.inr ht))) h2 (fun x hx => hm x (by rw [e];exact List.mem_append_right _ hx)) (fun x hx => hs x (by rw [e];exact List.mem_append_right _ hx)),e⟩
 | [],[],_ :: _,_,_,h,_,_ => h.elim
 | [],_ :: _,_,_,_,h,_,_ => h.elim
 | _ :: _,[],_,_,_,h,_,_ => h.elim
 | _ :: _,_ :: _,[],_,_,h,_,_ => h.elim
def paramsRead (P : Program) (fn : Func) : Bool := fn.params.toList.all fun t => P.readableRec t && decide (t < P.types.size)
theorem post_of_below {f : Func} {s : ChangeSpec} {apart fresh handsOn again : Bool} {W W' : World} {args : Array Value} {ds : List (DataW H)} {before : List MemPlace} {tb : TypeId}
  (hl : laidOutB P = true) (hT : paramsRead P f = true) (hres : f.resultTypes = #[tb]) (htb : P.underlying tb = some .bool) (hvars : s.vars = [])
  (hsp : s.fn H ds = { results := [.lit (.bool true)],args := ds })
  (hW : DataW.Whole enc P f.params.toList s.vars apart W args.toList ds [] before) (hb : Below W.heap.size W W') :
  s.post enc P f apart fresh handsOn again W args (.bool true) W' := by
 have hT' : ∀ t ∈ f.params.toList,P.readableRec t = true ∧ t < P.types.size := fun t ht => by
  have := List.all_eq_true.1 hT t ht
  simpa using this
 have hlt := hW.lt
 have hW' := hW
 obtain ⟨p,q,hA,hV,he,hz,hn⟩ := hW
 have hq : q = [] := by
  rw [hvars] at hV
  exact (trodVars_none hV).2
 subst hq
 rw [List.append_nil] at he
 subst he
 have hR : ∀ (b : Nat) (sp : Nat → Bool) (hd : Bool),DataW.TrodAll enc P W' b sp hd f.resultTypes.toList ((Value.bool true).resultList f.resultTypes.size) (s.fn H (ds ++ [])).results [] := by
  intro b sp hd
  rw [List.append_nil,hsp,hres]
  exact trodAll_mk1 (shut_bool htb _)
 have hG : ∀ sp : Nat → Bool,(∀ p' ∈ before,sp p'.block = true) → DataW.TrodAll enc P W' 0 sp true f.params.toList args.toList (s.fn H (ds ++ [])).args before := by
  intro sp h
  rw [List.append_nil,hsp]
  exact trodAll_stays hl hT' hA (fun x hx => hb.same (hlt x hx)) h
 have hU : ∀ sp : Nat → Bool,DataW.TrodVars enc P W' sp s.vars (s.fn H (ds ++ [])).vars [] := by
  intro sp
  rw [hvars,List.append_nil,hsp]
  rfl
 refine ⟨ds,[],before,[],before,[],hW',hR _ _ _,hG _ (fun x hx => by simpa using hlt x hx),hU _,hb.frame _,fun _ => ?_⟩
 refine ⟨ok_one hres rfl (okWide_bool_mk htb _),_,_,([] ++ before) ++ [],⟨[] ++ before,[],trodAll_append (hG _ (fun _ _ => rfl)) (hR _ _ _),hU _,rfl,?_,?_⟩,?_⟩
 ·intro b off hp
  have hp' := by simpa using hp
  rw [hb.frozen (hlt _ hp')]
  exact hz b off hp'
 ·intro ha
  simpa using hn ha
 ·intro x hx _
  simpa using hx
end
end Go.Proofs.YtjpaaaecbgmcgaaGreatDoor
namespace Go.Proofs.YtjpaaaecbgmcgaaGreatDoor
theorem bulk_oneS {H : Type} (d : DataW H) : 1 ≤ Rows.uptoBulk d := by
 cases d with
 | lit l => cases l <;> simp [Rows.uptoBulk]
 | nil => simp [Rows.uptoBulk]
 | ptr d => simp [Rows.uptoBulk]
 | slice elems spare => simp [Rows.uptoBulk]
 | agg parts => simp [Rows.uptoBulk]
 | iface t d => simp [Rows.uptoBulk]
 | map entries => simp [Rows.uptoBulk]
 | held h => simp [Rows.uptoBulk]
theorem bulk_lenS {H : Type} : ∀ (l : List (DataW H)),l.length ≤ Rows.uptoBulkAll l
 | [] => by simp [Rows.uptoBulkAll]
 | x :: r => by have := bulk_oneS x;have := bulk_lenS r;simp only [Rows.uptoBulkAll,List.length_cons];omega
theorem bulk_entryS {H : Type} (x : Lit × DataW H) : Rows.uptoBulk x.2 + 1 ≤ Rows.uptoBulkEntry x := by
 obtain ⟨l,d⟩ := x
 cases l <;> simp [Rows.uptoBulkEntry] <;> omega
theorem bulk_entriesS {H : Type} : ∀ (l : List (Lit × DataW H)),l.length ≤ Rows.uptoBulkEntries l
 | [] => by simp [Rows.uptoBulkEntries]
 | x :: r => by have := bulk_entryS x;have := bulk_entriesS r;simp only [Rows.uptoBulkEntries,List.length_cons];omega
theorem bulk_memS {H : Type} {d : DataW H} {l : List (DataW H)} (h : d ∈ l) : Rows.uptoBulk d ≤ Rows.uptoBulkAll l := by
 induction l with
 | nil => cases h
 | cons x r ih =>
  simp only [Rows.uptoBulkAll]
  rcases List.mem_cons.1 h with rfl | h
  ·omega
  ·have := ih h;omega
theorem le_of_mulS {m a b C : Nat} (h : m ≤ a * C) (hab : a ≤ b) : m ≤ b * C := Nat.le_trans h (Nat.mul_le_mul_right C hab)
def closedTS (P : Program) (S : List Nat) : Bool := S.all fun t => decide (P.bytesOf t ≤ 128) && match P.underlying t with
 | some (.slice e) => decide (e ∈ S)
 | some (.pointer e) => decide (e ∈ S)
 | some (.array _ e) => decide (e ∈ S)
 | some (.map k e) => decide (k ∈ S) && decide (e ∈ S)
 | some (.struct fs) => (fs.toList.map (·.type)).all fun e => decide (e ∈ S)
 | _ => true
theorem closed_atS {P : Program} {S : List Nat} (hP : closedTS P S = true) {t : TypeId} (h : t ∈ S) : P.bytesOf t ≤ 128 ∧ (∀ e,P.underlying t = some (.slice e) → e ∈ S) ∧ (∀ e,P.underlying t = some (.pointer e) → e ∈ S) ∧ (∀ n e,P.underlying t = some (.array n e) → e ∈ S) ∧ (∀ k e,P.underlying t = some (.map k e) → k ∈ S ∧ e ∈ S) ∧ (∀ fs,P.underlying t = some (.struct fs) → ∀ e ∈ fs.toList.map (·.type),e ∈ S) := by
 have h1 := List.all_eq_true.1 hP t h
 rw [Bool.and_eq_true] at h1
 obtain ⟨h1,h2⟩ := h1
 refine ⟨of_decide_eq_true h1,fun e q => ?_,fun e q => ?_,fun n e q => ?_,fun k e q => ?_,fun fs q => ?_⟩
 ·rw [q] at h2;exact of_decide_eq_true h2
 ·rw [q] at h2;exact of_decide_eq_true h2
 ·rw [q] at h2;exact of_decide_eq_true h2
 ·rw [q] at h2
  rw [Bool.and_eq_true] at h2
  exact ⟨of_decide_eq_true h2.1,of_decide_eq_true h2.2⟩
 ·rw [q] at h2
  exact fun e he => of_decide_eq_true (List.all_eq_true.1 h2 e he)
theorem one_CS {C : Nat} (hC : C = 256) : 1 ≤ C := by rw [hC];decide
theorem two_CS {P : Program} {S : List Nat} {C : Nat} (hC : C = 256) (hP : closedTS P S = true) {e k : TypeId} (h : e ∈ S) (h' : k ∈ S) : P.bytesOf e + P.bytesOf k ≤ C := by
 have h1 := (closed_atS hP h).1
 have h2 := (closed_atS hP h').1
 rw [hC]
 exact Nat.add_le_add h1 h2
mutual
theorem wbS {H : Type} {P : Program} {S : List Nat} {C : Nat} (hC : C = 256) (hP : closedTS P S = true) : ∀ (d : DataW H) (t : TypeId),t ∈ S → ∀ m ∈ d.weights P t,m ≤ Rows.uptoBulk d * C
 | .lit l,t,hlt,m,h => by
  cases l with
  | string b =>
   simp only [DataW.weights,List.mem_singleton] at h
   subst h
   simp only [Rows.uptoBulk]
   exact Nat.le_trans (Nat.le_succ _) (Nat.le_trans (Nat.le_of_eq (Nat.mul_one _).symm) (Nat.mul_le_mul_left _ (one_CS hC)))
  | _ => simp [DataW.weights] at h
 | .nil,t,hlt,m,h => by simp [DataW.weights] at h
 | .ptr d,t,hlt,m,h => by
  simp only [DataW.weights] at h
  simp only [Rows.uptoBulk]
  split at h
  ·rename_i e q;exact le_of_mulS (wbS hC hP d _ ((closed_atS hP hlt).2.2.1 e q) m h) (by omega)
  ·cases h
 | .slice es sp,t,hlt,m,h => by
  simp only [DataW.weights] at h
  simp only [Rows.uptoBulk]
  split at h
  ·rename_i e q
   have he := (closed_atS hP hlt).2.1 e q
   rcases List.mem_cons.1 h with rfl | h
   ·have h1 := bulk_lenS es
    have h2 := bulk_lenS sp
    exact le_of_mulS (Nat.mul_le_mul (show es.length + sp.length ≤ Rows.uptoBulkAll es + Rows.uptoBulkAll sp by omega) (Nat.le_trans (Nat.le_add_right _ _) (two_CS hC hP he he))) (by omega)
   ·rcases List.mem_append.1 h with h | h
    ·exact le_of_mulS (wbAllS hC hP es e he m h) (by omega)
    ·exact le_of_mulS (wbAllS hC hP sp e he m h) (by omega)
  ·cases h
 | .agg ps,t,hlt,m,h => by
  simp only [DataW.weights] at h
  simp only [Rows.uptoBulk]
  split at h
  ·rename_i fs q;exact le_of_mulS (wbEachS hC hP ps _ ((closed_atS hP hlt).2.2.2.2.2 fs q) m h) (by omega)
  ·rename_i n e q;exact le_of_mulS (wbAllS hC hP ps _ ((closed_atS hP hlt).2.2.2.1 n e q) m h) (by omega)
  ·cases h
 | .iface n d,t,hlt,m,h => by simp [DataW.weights] at h
 | .map es,t,hlt,m,h => by
  simp only [DataW.weights] at h
  simp only [Rows.uptoBulk]
  split at h
  ·rename_i k e q
   obtain ⟨hk,he⟩ := (closed_atS hP hlt).2.2.2.2.1 k e q
   rcases List.mem_cons.1 h with rfl | h
   ·exact le_of_mulS (Nat.mul_le_mul (bulk_entriesS es) (two_CS hC hP hk he)) (by omega)
   ·exact le_of_mulS (wbEntriesS hC hP es e he m h) (by omega)
  ·cases h
 | .held x,t,hlt,m,h => by simp [DataW.weights] at h
theorem wbAllS {H : Type} {P : Program} {S : List Nat} {C : Nat} (hC : C = 256) (hP : closedTS P S = true) : ∀ (l : List (DataW H)) (t : TypeId),t ∈ S → ∀ m ∈ DataW.weightsAll P t l,m ≤ Rows.uptoBulkAll l * C
 | [],t,hlt,m,h => by simp [DataW.weightsAll] at h
 | d :: r,t,hlt,m,h => by
  simp only [DataW.weightsAll,List.mem_append] at h
  simp only [Rows.uptoBulkAll]
  rcases h with h | h
  ·exact le_of_mulS (wbS hC hP d t (by first | exact hlt | exact hlt _ (by simp)) m h) (by omega)
  ·exact le_of_mulS (wbAllS hC hP r t hlt m h) (by omega)
theorem wbEachS {H : Type} {P : Program} {S : List Nat} {C : Nat} (hC : C = 256) (hP : closedTS P S = true) : ∀ (l : List (DataW H)) (ts : List TypeId),(∀ t ∈ ts,t ∈ S) → ∀ m ∈ DataW.weightsEach P ts l,m ≤ Rows.uptoBulkAll l * C
 | [],ts,hlt,m,h => by cases ts <;> simp [DataW.weightsEach] at h
 | d :: r,[],hlt,m,h => by simp [DataW.weightsEach] at h
 | d :: r,t :: ts,hlt,m,h => by
  simp only [DataW.weightsEach,List.mem_append] at h
  simp only [Rows.uptoBulkAll]
  rcases h with h | h
  ·exact le_of_mulS (wbS hC hP d t (by first | exact hlt | exact hlt _ (by simp)) m h) (by omega)
  ·exact le_of_mulS (wbEachS hC hP r ts (fun t ht => hlt t (by simp [ht])) m h) (by omega)
theorem wbEntriesS {H : Type} {P : Program} {S : List Nat} {C : Nat} (hC : C = 256) (hP : closedTS P S = true) : ∀ (l : List (Lit × DataW H)) (t : TypeId),t ∈ S → ∀ m ∈ DataW.weightsEntries P t l,m ≤ Rows.uptoBulkEntries l * C
 | [],t,hlt,m,h => by simp [DataW.weightsEntries] at h
 | x :: r,t,hlt,m,h => by
  simp only [DataW.weightsEntries,List.mem_append] at h
  simp only [Rows.uptoBulkEntries]
  rcases h with h | h
  ·exact le_of_mulS (wbEntryS hC hP x t hlt m h) (by omega)
  ·exact le_of_mulS (wbEntriesS hC hP r t hlt m h) (by omega)
theorem wbEntryS {H : Type} {P : Program} {S : List Nat} {C : Nat} (hC : C = 256) (hP : closedTS P S = true) : ∀ (x : Lit × DataW H) (t : TypeId),t ∈ S → ∀ m ∈ DataW.weightsEntry P t x,m ≤ Rows.uptoBulkEntry x * C
 | (l,d),t,hlt,m,h => by
  have hb := wbS hC hP d t hlt
  cases l with
  | string b =>
   simp only [DataW.weightsEntry,List.mem_cons] at h
   simp only [Rows.uptoBulkEntry]
   rcases h with rfl | h
   ·exact le_of_mulS (a := b.length) (Nat.le_trans (Nat.le_of_eq (Nat.mul_one _).symm) (Nat.mul_le_mul_left _ (one_CS hC))) (by omega)
   ·exact le_of_mulS (hb m h) (by omega)
  | _ =>
   simp only [DataW.weightsEntry] at h
   simp only [Rows.uptoBulkEntry]
   exact le_of_mulS (hb m h) (by omega)
end
theorem bulk_weightsS {H : Type} {P : Program} {S : List Nat} {C : Nat} (hC : C = 256) (hP : closedTS P S = true) {ds : List (DataW H)} {d : DataW H} {t : TypeId} (h : Rows.uptoBulkAll ds ≤ 1048576) (hlt : t ∈ S) (hd : d ∈ ds) {m : Nat} (hm : m ∈ d.weights P t) : m ≤ 4294967280 :=
 Nat.le_trans (wbS hC hP d t hlt m hm) (Nat.le_trans (Nat.mul_le_mul (Nat.le_trans (bulk_memS hd) h) (Nat.le_of_eq hC)) (by decide))
end Go.Proofs.YtjpaaaecbgmcgaaGreatDoor
namespace Go.Proofs.YtjpaaaecbgmcgaaGreatDoor
open Go.RowKit
theorem block_of_add (a : Addr) (n : Nat) : (a.add n).block = a.block := by unfold Addr.add;split <;> rfl
theorem add_of_add (a : Addr) (i j : Nat) : (a.add i).add j = a.add (i + j) := by
 unfold Addr.add
 by_cases hi : i = 0 <;> by_cases hj : j = 0 <;> simp [hi,hj,Nat.add_assoc]
def Rd (w : World) (A : Option Addr) (xs : List Value) : Prop :=
 0 < xs.length → ∃ b o,A = some ⟨b,o,none⟩ ∧ b < w.heap.size ∧ ∀ j u,xs[j]? = some u → w.cell? ⟨b,o + j,none⟩ = some u
section
variable {w w' : World} {A : Option Addr} {xs : List Value}
theorem Rd.nil : Rd w A [] := fun h => absurd h (by simp)
theorem Rd.of_own {base size n c : Nat} {e : TypeId} (h : w.ownsRow base e size (.slice A n c) n xs) : Rd w A xs := fun hn => by
 have hn' : 0 < n := by
  rcases Nat.eq_zero_or_pos n with h0 | h0
  ·subst h0;have := h.1;omega
  ·exact h0
 obtain ⟨g,cap,hv,_,hlt⟩ := h.form hn'
 have hA : A = some ⟨g,0,none⟩ := by injection hv
 subst hA
 refine ⟨g,0,rfl,hlt,fun j u hu => ?_⟩
 have := h.cells (g := g) rfl j u hu
 rw [Nat.zero_add]
 unfold Addr.add at this
 split at this
 ·rename_i h0;subst h0;exact this
 ·simpa using this
end
section
variable {w w' : World} {ok ok' : Nat → Prop} {A : Option Addr} {xs : List Value}
end
/-! Blocks known whole -/
section
variable {w w' : World} {g : Nat} {t : TypeId} {cs : Array Value}
end
/-! Rows of records of m cells each -/
def rows {α : Type} (f : α → List Value) (xs : List α) : List Value := xs.flatMap f
section
variable {α : Type} {f : α → List Value} {m : Nat}
end
end Go.Proofs.YtjpaaaecbgmcgaaGreatDoor
namespace Go.Proofs.YtjpaaaecbgmcgaaGreatDoor
open Go.RowKit
structure SliceTy (P : Program) (t e : TypeId) (size bytes : Nat) : Prop where
 ht : P.underlying t = some (.slice e)
 hi : ∃ i z,P.info? e = some i ∧ i.zero = some z ∧ i.size = size ∧ i.bytes = bytes ∧ z.cells.size = size
 hsz : 0 < size
section
variable {P : Program} {w : World} {base : Nat} {t e : TypeId} {size bytes : Nat} {A : Option Addr} {n c : Nat} {xs : List Value}
theorem own_form {v : Value} {k : Nat} {ys : List Value} (h : w.ownsRow base e size v k ys) : ∃ A' c',v = .slice A' k c' ∧ k ≤ c' ∧ c' ≤ maxLen := by
 rcases h.2 with ⟨rfl,rfl⟩ | ⟨g,cap,cur,rfl,_,_,h1,h2,_⟩
 ·exact ⟨none,0,rfl,Nat.le_refl _,Nat.zero_le _⟩
 ·exact ⟨_,_,rfl,h1,h2⟩
theorem run_app (ST : SliceTy P t e size bytes) (ty : TypeId) (hown : w.ownsRow base e size (.slice A n c) n xs)
  {B : Option Addr} {m d : Nat} {news : List Value} (hr : Rd w B news) (hl : news.length = m * size) (h1 : ∀ u ∈ news,u.oneCell' = true)
  (h63 : n + m ≤ maxLen) (hbytes : (n + m) * bytes ≤ 140737488355328) (hbase : base ≤ w.heap.size) :
  ∃ A' c' w',(Builtin.append_ #[t,t] ty #[.slice A n c,.slice B m d]).run P w = .ok (.slice A' (n + m) c') w' ∧ w'.ownsRow base e size (.slice A' (n + m) c') (n + m) (xs ++ news) ∧
   w.grownBy w' (Value.slice A n c).ownBlock ∧ ((Value.slice A' (n + m) c').ownBlock = (Value.slice A n c).ownBlock ∨ (Value.slice A' (n + m) c').ownBlock = some w.heap.size) := by
 obtain ⟨ht,⟨i,z,hi,hz,hsize,hby,hzs⟩,hsz⟩ := ST
 rcases B with _ | ad
 ·have hn : news = [] := by
   rcases news with _ | ⟨x,l⟩
   ·rfl
   ·obtain ⟨b,o,h,_⟩ := hr (by simp)
    cases h
  subst hn
  have hm : m = 0 := by
   rcases Nat.eq_zero_or_pos m with h0 | h0
   ·exact h0
   ·have := Nat.mul_pos h0 hsz;simp at hl;omega
  subst hm
  refine ⟨A,c,w,?_,by simpa using hown,World.grownBy.refl w _,.inl rfl⟩
  rcases hown.2 with ⟨hv,rfl⟩ | ⟨g,cap,cur,hv,_,_,hnc,_⟩
  ·injection hv with h1 h2 h3
   subst h1 h3
   simp [Builtin.append_,run_underlying ht,sizeOf,typeInfo,hi,Builtin.lenOf,Builtin.firstCells]
  ·injection hv with h1 h2 h3
   subst h1 h3
   simp [Builtin.append_,run_underlying ht,sizeOf,typeInfo,hi,Builtin.lenOf,Builtin.firstCells,hnc,storeCells]
 ·have hcells : ∀ j u,news[j]? = some u → w.cell? (ad.add j) = some u := by
   intro j u hu
   obtain ⟨b,o,h,_,hc⟩ := hr (by rcases news with _ | ⟨x,l⟩;(· simp at hu);(· exact Nat.succ_pos _))
   injection h with h
   subst h
   have := hc j u hu
   unfold Addr.add
   split
   ·rename_i h0;subst h0;exact this
   ·exact this
  obtain ⟨v',w',hrun,h2,h3,_,h5⟩ := run_append_own_at (P := P) w base t ty e i z size bytes ht hi hz hsize hby hzs hsz _ n xs hown ad m d news hl hcells h1 h63 hbytes hbase
  obtain ⟨A',c',rfl,_⟩ := own_form h2
  exact ⟨A',c',w',hrun,h2,h3,h5⟩
end
end Go.Proofs.YtjpaaaecbgmcgaaGreatDoor
namespace Go.Proofs.YtjpaaaecbgmcgaaGreatDoor
def RF (ro : Option Nat) : Fence := { Fence.wide with round := ro }
theorem calls_RF {ro : Option Nat} {n : Nat} {P : Program} {f : FuncId} {args : Array Value} {w : World} {R : Ending → World → Prop} (h : Calls P f args w R) : CallsIn (RF ro) n P f args w R :=
 callsIn_wide (n := n).2 h
theorem rows_RF {ro : Option Nat} {n : Nat} {P : Program} {row : String} {args : Array Value} {w : World} {R : Value → World → Prop} (h : Rows P row args w R) : RowsIn (RF ro) n P row args w R :=
 fun c cs _ => let ⟨v,w',r,s⟩ := h c cs;⟨v,w',r,stepsIn_wide.2 s⟩
def noDf (o : Oper) : Bool := match o.op with
 | .defer _ => false
 | _ => true
theorem noDf_ne {o : Oper} (h : noDf o = true) (c : Call) : o.op ≠ .defer c := fun e => by simp [noDf,e] at h
theorem oper_RF {P : Program} {o : Oper} (hn : noDf o = true) {a : Act} {w : World} {next : Act → World → Prop} {Q : Exit → Act → World → Prop} (h : o.wp P a w next Q) (ro : Option Nat) : o.wpIn (RF ro) 0 P a w next Q := by
 refine ⟨fun f _ => trivial,?_⟩
 rw [Oper.semAt_eq _ _ _ (noDf_ne hn)]
 unfold Oper.wp at h
 generalize (execOp a.eval o).run P w = r at h ⊢
 cases r with
 | ok x w' => cases x <;> first | exact h | exact ⟨fun h0 => (by cases h0),calls_RF h⟩ | exact ⟨fun h0 => (by cases h0),rows_RF h⟩ | exact False.elim h
 | halt x w' => cases x <;> first | exact h | exact False.elim h
def Ow (P : Program) (o : Oper) (a : Act) (w : World) (next : Act → World → Prop) (Q : Exit → Act → World → Prop) : Prop := o.wp P a w next Q ∨ ∀ ro,o.wpIn (RF ro) 0 P a w next Q
def Lw (P : Program) (ops : Array Oper) (Q : Exit → Act → World → Prop) : List Oper → Act → World → Prop
 | [],a,w => Q .normal a w
 | o :: rest,a,w => if Region.wanted o (yielded ops a.tmps) = true then Ow P o a w (Lw P ops Q rest) Q else Lw P ops Q rest (a.put o.dst undef) w
theorem Lw_step {P : Program} {ops : Array Oper} {Q : Exit → Act → World → Prop} {o : Oper} {rest : List Oper} {a : Act} {w : World} (h : ∀ K : Act → World → Prop,(∀ a w,Lw P ops Q rest a w → K a w) → if Region.wanted o (yielded ops a.tmps) = true then o.wp P a w K Q else K (a.put o.dst undef) w) : Lw P ops Q (o :: rest) a w := by
 have := h _ fun _ _ h => h
 unfold Lw
 split
 ·rename_i hw;rw [if_pos hw] at this;exact .inl this
 ·rename_i hw;rw [if_neg hw] at this;exact this
theorem Lw_plain {P : Program} {ops : Array Oper} {Q : Exit → Act → World → Prop} {o : Oper} {rest : List Oper} {a : Act} {w : World} (hg : o.guard = none) (h : ∀ K : Act → World → Prop,(∀ a w,Lw P ops Q rest a w → K a w) → o.wp P a w K Q) : Lw P ops Q (o :: rest) a w :=
 Lw_step fun K hK => by simp only [Region.wanted,hg,if_true];exact h K hK
theorem Lw_in {P : Program} {ops : Array Oper} {Q : Exit → Act → World → Prop} {o : Oper} {rest : List Oper} {a : Act} {w : World} (hg : o.guard = none) (h : ∀ ro,o.wpIn (RF ro) 0 P a w (Lw P ops Q rest) Q) : Lw P ops Q (o :: rest) a w := by
 unfold Lw
 rw [if_pos (by simp [Region.wanted,hg])]
 exact .inr h
theorem list_RF {P : Program} {ops : Array Oper} {Q : Exit → Act → World → Prop} (ro : Option Nat) : ∀ (l : List Oper),l.all noDf = true → ∀ (a : Act) (w : World),Lw P ops Q l a w → wpListIn (RF ro) 0 P ops Q l a w
 | [],_,_,_,h => h
 | o :: r,hn,a,w,h => by
  rw [List.all_cons,Bool.and_eq_true] at hn
  unfold wpListIn
  unfold Lw at h
  split
  ·rename_i hw
   rw [if_pos hw] at h
   exact Oper.wpIn_mono (fun a w h => list_RF ro r hn.2 a w h) (h.elim (fun h => oper_RF hn.1 h ro) fun h => h ro)
  ·rename_i hw
   rw [if_neg hw] at h
   exact ⟨fun f _ => trivial,list_RF ro r hn.2 _ w h⟩
theorem any_RF {P : Program} {ops : Array Oper} {Q : Exit → Act → World → Prop} {md : Region.Mode} (ro : Option Nat) (hq : ¬ LetsOut Q) (hn : ops.toList.all noDf = true) : ∀ (fuel : Nat) (listed : Array Bool) (a : Act) (w : World),wpAny P md ops Q fuel listed a w → wpAnyIn (RF ro) 0 P md ops Q fuel listed a w
 | 0,_,_,_,h => h
 | fuel + 1,listed,a,w,h => ⟨h.1,fun i hi => by
  have h2 := h.2 i hi
  unfold wpOpIn
  unfold wpOp at h2
  split
  ·rename_i ho;rw [ho] at h2;exact any_RF ro hq hn fuel _ a w h2
  ·rename_i o ho
   rw [ho] at h2
   simp only at h2
   have hno : noDf o = true := List.all_eq_true.1 hn o (by
    have := Array.mem_of_getElem? ho
    simpa using this)
   split
   ·rename_i hw
    rw [if_pos hw] at h2
    exact Oper.wpIn_mono (fun a w h => any_RF ro hq hn fuel _ a w h) (oper_RF hno (h2.resolve_right fun h3 => hq h3.2) ro)
   ·rename_i hw
    rw [if_neg hw] at h2
    exact ⟨fun f _ => trivial,any_RF ro hq hn fuel _ _ w h2⟩⟩
structure Nt where
 n : Nat
 d : List Deferred
instance : Coe Nat Nt := ⟨fun n => ⟨n,[]⟩⟩
instance : CoeOut Nt Nat := ⟨Nt.n⟩
def Cw (P : Program) (c : Code) (Q : Exit → Act → World → Prop) (a : Act) (w : World) : Prop := ∀ ro,c.wpIn (RF ro) 0 P Q a w
section
variable {P : Program} {Q Q' : Exit → Act → World → Prop} {a : Act} {w : World}
theorem Cw.wp {c : Code} (h : Cw P c Q a w) : c.wp P Q a w := wpIn_wide.1 (h none)
theorem Cw.mono {c : Code} (h : Cw P c Q a w) (hq : ∀ e a w,Q e a w → Q' e a w) : Cw P c Q' a w := fun ro => wpIn_mono (h ro) hq
theorem Cw.skip (h : Q .normal a w) : Cw P .skip Q a w := fun _ => wpIn_skip h
theorem Cw.label {l : Nat} (h : Q .normal a w) : Cw P (.label l) Q a w := fun _ => wpIn_label h
theorem Cw.exit {i : Nat} (h : Q (.exit i) a w) : Cw P (.exit i) Q a w := fun _ => wpIn_exit h
theorem Cw.ret (h : Q .ret a w) : Cw P .ret Q a w := fun _ => wpIn_ret h
theorem Cw.seq {x y : Code} (h : Cw P x (Exit.then (Cw P y Q) Q) a w) : Cw P (.seq x y) Q a w := fun ro =>
 wpIn_seq (wpIn_mono (h ro) fun e a w hq => by cases e <;> first | exact hq | exact hq ro)
theorem Cw.block {i : Nat} {c : Code} (h : Cw P c (Exit.inBlock i Q) a w) : Cw P (.block i c) Q a w := fun ro => wpIn_block (h ro)
theorem Cw.cond {c : Operand} {x y : Code} {t : Bool} (hc : a.eval c = .bool t) (h1 : t = true → Cw P x Q a w) (h2 : t = false → Cw P y Q a w) : Cw P (.cond c x y) Q a w := fun ro =>
 wpIn_cond_split hc (fun e => h1 e ro) (fun e => h2 e ro)
theorem Cw.loop_ghost {c : Code} (I : Nat → Act → World → Prop) (n₀ : Nat) (h₀ : I n₀ a w)
  (round : ∀ n a w,I n a w → Cw P c (Exit.then (fun a' w' => ∃ n',n' < n ∧ I n' a' w') Q) a w) : Cw P (.loop c) Q a w := fun ro => by
 refine wpIn_loop (fun a w => ∃ n,I n a w) (fun a w => leastOf (fun n => I n a w)) ⟨n₀,h₀⟩ ?_
 intro a w hI
 refine wpIn_mono (round _ a w (leastOf_spec hI).1 ro) ?_
 intro e a' w' hq
 cases e with
 | normal =>
  obtain ⟨n',hlt,hI'⟩ := hq
  exact show (∃ n,I n a' w') ∧ leastOf (fun n => I n a' w') < leastOf (fun n => I n a w) from ⟨⟨n',hI'⟩,Nat.lt_of_le_of_lt ((leastOf_spec ⟨n',hI'⟩).2 n' hI') hlt⟩
 | exit id => exact hq
 | goto l => exact hq
 | ret => exact hq
 | panic ch => exact hq
 | outgrown => exact hq
theorem Cw.region_lit {id : Nat} {l : List Oper} (hn : l.all noDf = true) (h : Lw P l.toArray Q l a w) : Cw P (.region id l.toArray false) Q a w := fun ro =>
 wpIn_region_lit (list_RF ro l hn a w h)
theorem Cw.region_any {id : Nat} {ops : Array Oper} (hq : ¬ LetsOut Q) (hm : P.follows .mixedOrders = true) (hn : ops.toList.all noDf = true)
  (h : wpAny P .any ops Q ops.size (Array.replicate ops.size false) a { w with drawn := w.drawn + 1 }) : Cw P (.region id ops true) Q a w := fun ro =>
 wpIn_region_any hm (any_RF ro hq hn _ _ _ _ h)
end
end Go.Proofs.YtjpaaaecbgmcgaaGreatDoor
/-
 A walk over named blocks,of no program: slots by number,own blocks by name,all else frozen.
-/
namespace Go.Proofs.YtjpaaaecbgmcgaaGreatDoor
open Go.RowKit
def lk {α : Type} (n : Nat) : List (Nat × α) → Option α
 | [] => none
 | (k,v) :: r => bif Nat.beq n k then some v else lk n r
def nth {α : Type} : List α → Nat → Option α
 | [],_ => none
 | x :: _,0 => some x
 | _ :: l,n + 1 => nth l n
theorem nth_eq {α : Type} : ∀ (l : List α) (n : Nat),nth l n = l[n]?
 | [],_ => by simp [nth]
 | x :: l,0 => by simp [nth]
 | x :: l,n + 1 => by simp [nth,nth_eq l n]
theorem lk_mem {α : Type} {n : Nat} : ∀ {l : List (Nat × α)} {v : α},lk n l = some v → (n,v) ∈ l
 | [],_,h => by simp [lk] at h
 | (k,u) :: r,v,h => by
  simp only [lk] at h
  cases hb : Nat.beq n k
  ·rw [hb] at h;exact List.mem_cons_of_mem _ (lk_mem h)
  ·rw [hb] at h
   simp only [cond_true,Option.some.injEq] at h
   rw [Nat.eq_of_beq_eq_true hb,h];exact List.mem_cons_self
structure Same (F : Nat → Prop) (w w' : World) : Prop where
 os : w'.os = w.os
 tape : w'.tape = w.tape
 output : w'.output = w.output
 size : w.heap.size ≤ w'.heap.size
 block : ∀ k,F k → w'.heap[k]? = w.heap[k]?
theorem Same.refl (F : Nat → Prop) (w : World) : Same F w w := ⟨rfl,rfl,rfl,Nat.le_refl _,fun _ _ => rfl⟩
theorem Same.trans {F : Nat → Prop} {a b c : World} (h : Same F a b) (k : Same F b c) : Same F a c :=
 ⟨k.os.trans h.os,k.tape.trans h.tape,k.output.trans h.output,Nat.le_trans h.size k.size,fun i hi => (k.block i hi).trans (h.block i hi)⟩
theorem Same.mono {F F' : Nat → Prop} {w w' : World} (h : Same F w w') (hF : ∀ b,F' b → F b) : Same F' w w' := ⟨h.os,h.tape,h.output,h.size,fun k hk => h.block k (hF k hk)⟩
theorem Same.of_below {F : Nat → Prop} {B : Nat} {w w' : World} (h : Below B w w') (hF : ∀ b,F b → b < B) : Same F w w' := ⟨h.os,h.tape,h.output,h.size,fun k hk => h.block k (hF k hk)⟩
theorem Same.below {B : Nat} {w w' : World} (h : Same (· < B) w w') : Below B w w' := ⟨h.os,h.tape,h.output,h.size,fun k hk => h.block k hk⟩
theorem Same.cell {F : Nat → Prop} {w w' : World} (h : Same F w w') {p : Addr} (hp : F p.block) : w'.cell? p = w.cell? p := World.cell?_of_block (w := w) (h.block p.block hp)
inductive Tot where
 | n (k : Nat)
 | m (es : List (Value × Value))
 | l (r : Loop)
 | x (o : Obj)
instance : Coe Nat Tot := ⟨.n⟩
structure Hb where
 ty : TypeId
 cs : List Value
 tot : Tot
structure Hs where
 F : Nat → Prop
 w0 : World
 hp : List (Nat × Hb)
structure Stm (arr : Array MapEntry) (clock : Nat) : Prop where
 lt : ∀ n ∈ arr.toList.map (·.born),n < clock
 nd : (arr.toList.map (·.born)).Nodup
theorem Stm.nil (clock : Nat) : Stm #[] clock := ⟨by simp,by simp⟩
theorem Stm.push {arr : Array MapEntry} {clock : Nat} (h : Stm arr clock) (u v : Value) : Stm (arr.push { key := u,val := v,born := clock }) (clock + 1) := by
 refine ⟨fun n hn => ?_,?_⟩
 ·simp only [Array.toList_push,List.map_append,List.mem_append,List.map_cons,List.map_nil,List.mem_singleton] at hn
  rcases hn with hn | rfl
  ·exact Nat.lt_succ_of_lt (h.lt n hn)
  ·exact Nat.lt_succ_self _
 ·simp only [Array.toList_push,List.map_append,List.map_cons,List.map_nil]
  refine List.nodup_append.2 ⟨h.nd,by simp,fun a ha b hb => ?_⟩
  simp only [List.mem_singleton] at hb
  subst hb
  exact Nat.ne_of_lt (h.lt a ha)
theorem Stm.modify {arr : Array MapEntry} {clock : Nat} (h : Stm arr clock) (j : Nat) (f : MapEntry → MapEntry) (hf : ∀ e,(f e).born = e.born) : Stm (arr.modify j f) clock := by
 have : (arr.modify j f).toList.map (·.born) = arr.toList.map (·.born) := by
  apply List.ext_getElem?
  intro n
  simp only [List.getElem?_map,Array.getElem?_toList,Array.getElem?_modify]
  split
  ·cases arr[n]? <;> simp [hf]
  ·rfl
 exact ⟨by rw [this];exact h.lt,by rw [this];exact h.nd⟩
def HasB (w : World) (b : Nat) (x : Hb) : Prop := match x.tot with
 | .n k => ∃ junk : List Value,w.heap[b]? = some (.cells (x.cs ++ junk).toArray x.ty (0,0)) ∧ x.cs.length + junk.length = k
 | .m es => x.cs = [] ∧ ∃ (arr : Array MapEntry) (clock : Nat),w.heap[b]? = some (.map arr clock) ∧ arr.toList.map (fun e => (e.key,e.val)) = es ∧ Stm arr clock
 | .l r => x.cs = [] ∧ w.heap[b]? = some (.loop r)
 | .x o => x.cs = [] ∧ w.heap[b]? = some o ∧ ∀ i,w.frozen? ⟨b,i,none⟩ = false
theorem HasB.or {w : World} {b : Nat} {x : Hb} (h : HasB w b x) : (∃ k junk,x.tot = .n k ∧ w.heap[b]? = some (.cells (x.cs ++ junk).toArray x.ty (0,0)) ∧ x.cs.length + junk.length = k) ∨ (x.cs = [] ∧ (∃ y,w.heap[b]? = some y) ∧ (∀ o,w.frozen? ⟨b,o,none⟩ = false) ∧ ∀ y : Hb,y.cs = [] → y.tot = x.tot → HasB w b y) := by
 unfold HasB at h
 split at h
 ·rename_i k e;obtain ⟨junk,h1,h2⟩ := h;exact .inl ⟨k,junk,e,h1,h2⟩
 ·rename_i es e
  obtain ⟨h0,arr,clock,h1,h2⟩ := h
  exact .inr ⟨h0,⟨_,h1⟩,fun o => by simp [World.frozen?,h1],fun y q1 q2 => by unfold HasB;rw [q2,e];exact ⟨q1,arr,clock,h1,h2⟩⟩
 ·rename_i r e
  obtain ⟨h0,h1⟩ := h
  exact .inr ⟨h0,⟨_,h1⟩,fun o => by simp [World.frozen?,h1],fun y q1 q2 => by unfold HasB;rw [q2,e];exact ⟨q1,h1⟩⟩
 ·rename_i o e
  obtain ⟨h0,h1,h2⟩ := h
  exact .inr ⟨h0,⟨_,h1⟩,h2,fun y q1 q2 => by unfold HasB;rw [q2,e];exact ⟨q1,h1,h2⟩⟩
structure Hp (h : Hs) (w : World) : Prop where
 same : Same h.F h.w0 w
 inF : ∀ b,h.F b → b < h.w0.heap.size
 blk : ∀ b x,(b,x) ∈ h.hp → HasB w b x
 nd : (h.hp.map Prod.fst).Nodup
 out : ∀ b x,(b,x) ∈ h.hp → ¬ h.F b
structure Slt (nt : Nt) (tm : List (Nat × Value)) (a : Act) : Prop where
 df : a.defers = nt.d
 sz : a.tmps.size = nt
 tm : ∀ k v,lk k tm = some v → a.tmps[k]? = some v
def ev (tm : List (Nat × Value)) : Operand → Option Value
 | .tmp t => lk t tm
 | .const v => some v
 | .global g => some (.pointer (some ⟨g,0,none⟩))
 | .func f => some (.func (.func f) #[] #[])
theorem Slt.ev {nt : Nt} {tm : List (Nat × Value)} {a : Act} (h : Slt nt tm a) {x : Operand} {v : Value} (hx : Go.Proofs.YtjpaaaecbgmcgaaGreatDoor.ev tm x = some v) : a.eval x = v := by
 cases x with
 | tmp t => have := h.tm t v hx;simp [Act.eval,this]
 | const u => simpa [Go.Proofs.YtjpaaaecbgmcgaaGreatDoor.ev,Act.eval] using hx
 | global g => simpa [Go.Proofs.YtjpaaaecbgmcgaaGreatDoor.ev,Act.eval] using hx
 | func f => simpa [Go.Proofs.YtjpaaaecbgmcgaaGreatDoor.ev,Act.eval] using hx
theorem Slt.put {nt : Nt} {tm : List (Nat × Value)} {a : Act} (h : Slt nt tm a) {d : Nat} (hd : d < nt) (v : Value) : Slt nt ((d,v) :: tm) (a.put (some d) v) := by
 refine ⟨h.df,by simp [Act.put,h.sz],fun k u hk => ?_⟩
 simp only [lk] at hk
 cases hb : Nat.beq k d
 ·rw [hb] at hk
  have hne : d ≠ k := fun e => by rw [e,Nat.beq_refl] at hb;cases hb
  simp only [Act.put,Array.getElem?_setIfInBounds_ne hne]
  exact h.tm k u hk
 ·rw [hb] at hk
  have := Nat.eq_of_beq_eq_true hb
  subst this
  simp only [cond_true,Option.some.injEq] at hk
  subst hk
  simp [Act.put,h.sz,hd]
section
variable {P : Program} {nt : Nt} {ops : Array Oper} {Q : Exit → Act → World → Prop} {tm : List (Nat × Value)} {h : Hs}
structure AWc (P : Program) (nt : Nt) (Q : Exit → Act → World → Prop) (c : Code) (tm : List (Nat × Value)) (h : Hs) : Prop where
 out : ∀ a w,Slt nt tm a → Hp h w → Cw P c Q a w
structure AWl (P : Program) (nt : Nt) (ops : Array Oper) (Q : Exit → Act → World → Prop) (l : List Oper) (tm : List (Nat × Value)) (h : Hs) : Prop where
 out : ∀ a w,Slt nt tm a → Hp h w → Lw P ops Q l a w
structure AWq (nt : Nt) (Q : Exit → Act → World → Prop) (e : Exit) (tm : List (Nat × Value)) (h : Hs) : Prop where
 out : ∀ a w,Slt nt tm a → Hp h w → Q e a w
theorem AWc.seq {x y : Code} (k : AWc P nt (Exit.then (Cw P y Q) Q) x tm h) : AWc P nt Q (.seq x y) tm h := ⟨fun a w ha hw => Cw.seq (k.out a w ha hw)⟩
theorem AWc.skip (k : AWq nt Q .normal tm h) : AWc P nt Q .skip tm h := ⟨fun a w ha hw => Cw.skip (k.out a w ha hw)⟩
theorem AWc.label {l : Nat} (k : AWq nt Q .normal tm h) : AWc P nt Q (.label l) tm h := ⟨fun a w ha hw => Cw.label (k.out a w ha hw)⟩
theorem AWc.exit {i : Nat} (k : AWq nt Q (.exit i) tm h) : AWc P nt Q (.exit i) tm h := ⟨fun a w ha hw => Cw.exit (k.out a w ha hw)⟩
theorem AWc.ret (k : AWq nt Q .ret tm h) : AWc P nt Q .ret tm h := ⟨fun a w ha hw => Cw.ret (k.out a w ha hw)⟩
theorem AWc.block {i : Nat} {c : Code} (k : AWc P nt (Exit.inBlock i Q) c tm h) : AWc P nt Q (.block i c) tm h := ⟨fun a w ha hw => Cw.block (k.out a w ha hw)⟩
theorem AWc.cond {c : Operand} {x y : Code} {b : Bool} (hc : ev tm c = some (.bool b)) (k1 : b = true → AWc P nt Q x tm h) (k2 : b = false → AWc P nt Q y tm h) : AWc P nt Q (.cond c x y) tm h :=
 ⟨fun a w ha hw => Cw.cond (ha.ev hc) (fun e => (k1 e).out a w ha hw) (fun e => (k2 e).out a w ha hw)⟩
theorem AWc.condT {c : Operand} {x y : Code} {b : Bool} (hc : ev tm c = some (.bool b)) (hb : b = true) (k : AWc P nt Q x tm h) : AWc P nt Q (.cond c x y) tm h :=
 AWc.cond hc (fun _ => k) (fun e => by rw [e] at hb;cases hb)
theorem AWc.condF {c : Operand} {x y : Code} {b : Bool} (hc : ev tm c = some (.bool b)) (hb : b = false) (k : AWc P nt Q y tm h) : AWc P nt Q (.cond c x y) tm h :=
 AWc.cond hc (fun e => by rw [e] at hb;cases hb) (fun _ => k)
theorem AWc.region {i : Nat} {l : List Oper} (hn : l.all noDf = true) (k : AWl P nt l.toArray Q l tm h) : AWc P nt Q (.region i l.toArray false) tm h := ⟨fun a w ha hw => Cw.region_lit hn (k.out a w ha hw)⟩
theorem AWl.nil (k : AWq nt Q .normal tm h) : AWl P nt ops Q [] tm h := ⟨fun a w ha hw => k.out a w ha hw⟩
theorem AWq.then_ {y : Code} {Q' : Exit → Act → World → Prop} (k : AWc P nt Q y tm h) : AWq nt (Exit.then (Cw P y Q) Q') .normal tm h := ⟨k.out⟩
theorem AWq.pass_exit {K : Act → World → Prop} {i : Nat} (k : AWq nt Q (.exit i) tm h) : AWq nt (Exit.then K Q) (.exit i) tm h := ⟨k.out⟩
theorem AWq.pass_ret {K : Act → World → Prop} (k : AWq nt Q .ret tm h) : AWq nt (Exit.then K Q) .ret tm h := ⟨k.out⟩
theorem AWq.blk {i : Nat} (k : AWq nt Q .normal tm h) : AWq nt (Exit.inBlock i Q) .normal tm h := ⟨k.out⟩
theorem AWq.blk_ret {i : Nat} (k : AWq nt Q .ret tm h) : AWq nt (Exit.inBlock i Q) .ret tm h := ⟨k.out⟩
theorem AWq.blk_hit {i : Nat} (k : AWq nt Q .normal tm h) : AWq nt (Exit.inBlock i Q) (.exit i) tm h := ⟨fun a w ha hw => by
 have := k.out a w ha hw;simpa [Exit.inBlock] using this⟩
theorem AWq.blk_miss {i j : Nat} (hne : (Nat.beq j i) = false) (k : AWq nt Q (.exit j) tm h) : AWq nt (Exit.inBlock i Q) (.exit j) tm h := ⟨fun a w ha hw => by
 have := k.out a w ha hw
 have hji : ¬ j = i := fun e => by rw [e,Nat.beq_refl] at hne;cases hne
 simpa [Exit.inBlock,hji] using this⟩
inductive SubT (tm : List (Nat × Value)) : List (Nat × Value) → Prop
 | nil : SubT tm []
 | cons {k : Nat} {v : Value} {l : List (Nat × Value)} : lk k tm = some v → SubT tm l → SubT tm ((k,v) :: l)
theorem SubT.lk {tm l : List (Nat × Value)} (s : SubT tm l) {k : Nat} {v : Value} (hk : Go.Proofs.YtjpaaaecbgmcgaaGreatDoor.lk k l = some v) : Go.Proofs.YtjpaaaecbgmcgaaGreatDoor.lk k tm = some v := by
 induction s with
 | nil => cases hk
 | @cons k' v' l h0 _ ih =>
  simp only [Go.Proofs.YtjpaaaecbgmcgaaGreatDoor.lk] at hk
  cases hb : Nat.beq k k'
  ·rw [hb] at hk;exact ih hk
  ·rw [hb] at hk
   simp only [cond_true,Option.some.injEq] at hk
   rw [Nat.eq_of_beq_eq_true hb,← hk];exact h0
theorem Slt.sub {a : Act} {tm' : List (Nat × Value)} (ha : Slt nt tm a) (s : SubT tm tm') : Slt nt tm' a := ⟨ha.df,ha.sz,fun k v hk => ha.tm k v (s.lk hk)⟩
theorem Hp.sub {w : World} {F : Nat → Prop} {w0 : World} {hp hp' : List (Nat × Hb)} (hw : Hp ⟨F,w0,hp⟩ w) (s : hp'.Sublist hp) : Hp ⟨F,w0,hp'⟩ w :=
 ⟨hw.same,hw.inF,fun b x hx => hw.blk b x (s.subset hx),(s.map _).nodup hw.nd,fun b x hx => hw.out b x (s.subset hx)⟩
def Rnd {ι : Type} (nt : Nt) (Φ : ι → Prop) (m : ι → Nat) (tS : ι → List (Nat × Value)) (hS : ι → Hs) (n : Nat) (a : Act) (w : World) : Prop := ∃ y,Φ y ∧ m y < n ∧ Slt nt (tS y) a ∧ Hp (hS y) w
theorem AWc.loop {ι : Type} {c : Code} (Φ : ι → Prop) (m : ι → Nat) (tS : ι → List (Nat × Value)) (hS : ι → Hs) (x0 : ι) (h0 : Φ x0)
  (k : ∀ x,Φ x → AWc P nt (Exit.then (Rnd nt Φ m tS hS (m x)) Q) c (tS x) (hS x)) : AWc P nt Q (.loop c) (tS x0) (hS x0) := ⟨fun a w ha hw => by
 refine Cw.loop_ghost (fun n a w => ∃ y,Φ y ∧ m y = n ∧ Slt nt (tS y) a ∧ Hp (hS y) w) (m x0) ⟨x0,h0,rfl,ha,hw⟩ ?_
 rintro n a w ⟨y,hy,rfl,ha,hw⟩
 refine Cw.mono ((k y hy).out a w ha hw) ?_
 intro e a' w' hq
 cases e <;> first | exact hq | (obtain ⟨z,hz,hlt,h1,h2⟩ := hq;exact ⟨m z,hlt,z,hz,rfl,h1,h2⟩)⟩
theorem AWq.round {ι : Type} {Φ : ι → Prop} {m : ι → Nat} {tS : ι → List (Nat × Value)} {hS : ι → Hs} {n : Nat} (y : ι) (hy : Φ y) (hm : m y < n) (s : SubT tm (tS y)) (hh : ∀ w,Hp h w → Hp (hS y) w) :
  AWq nt (Exit.then (Rnd nt Φ m tS hS n) Q) .normal tm h := ⟨fun _ w ha hw => ⟨y,hy,hm,ha.sub s,hh w hw⟩⟩
end
end Go.Proofs.YtjpaaaecbgmcgaaGreatDoor
/-
 A walk over named blocks: types by a table;operations that only yield a value.
-/
namespace Go.Proofs.YtjpaaaecbgmcgaaGreatDoor
open Go.RowKit
inductive Tk where
 | st (fs : List (Nat × TypeId))
 | ar (n : Nat) (e : TypeId)
 | sl (e : TypeId)
 | mp (k e : TypeId)
 | in_ (k : IntKind)
 | bo
 | sr
 | pt (e : TypeId)
 | ot
def Tk.agg : Tk → Bool
 | .st _ | .ar _ _ => true
 | _ => false
structure Ty where
 k : Tk
 size : Nat
 bytes : Nat
 zero : List Value
def KOk (P : Program) (t : TypeId) : Tk → Prop
 | .st fs => ∃ fields,P.underlying t = some (.struct fields) ∧ fields.toList.map (fun f => (f.offset,f.type)) = fs
 | .ar n e => P.underlying t = some (.array n e)
 | .sl e => P.underlying t = some (.slice e)
 | .mp k e => P.underlying t = some (.map k e)
 | .in_ k => P.underlying t = some (.int k)
 | .bo => P.underlying t = some .bool
 | .sr => P.underlying t = some .string
 | .pt e => P.underlying t = some (.pointer e)
 | .ot => ∃ d,P.underlying t = some d ∧ (∀ f,d ≠ .struct f) ∧ (∀ n e,d ≠ .array n e)
structure TyOk (P : Program) (t : TypeId) (i : Ty) : Prop where
 info : ∃ f z,P.info? t = some f ∧ f.size = i.size ∧ f.bytes = i.bytes ∧ f.zero = some z ∧ z.cells.toList = i.zero
 kind : KOk P t i.k
class Tys (P : Program) (T : outParam (List (Nat × Ty))) : Prop where
 ok : ∀ t i,lk t T = some i → TyOk P t i
 mo : P.follows .mixedOrders = true
section
variable {P : Program} {t : TypeId} {i : Ty} (w : World)
theorem TyOk.run_size (h : TyOk P t i) : (sizeOf t).run P w = .ok i.size w := by
 obtain ⟨f,z,h1,h2,_⟩ := h.info
 simp [sizeOf,typeInfo,h1,h2]
theorem TyOk.run_zero (h : TyOk P t i) : ∃ z,(zeroValue t).run P w = .ok z w ∧ z.cells.toList = i.zero := by
 obtain ⟨f,z,h1,_,_,h4,h5⟩ := h.info
 exact ⟨z,by simp [zeroValue,typeInfo,h1,h4],h5⟩
theorem TyOk.run_isAgg (h : TyOk P t i) : (isAgg t).run P w = .ok i.k.agg w := by
 have hk := h.kind
 obtain ⟨k,s,b,z⟩ := i
 cases k <;> simp only [KOk] at hk
 case st fs => obtain ⟨f,h1,_⟩ := hk;simp [isAgg,run_underlying h1,Tk.agg]
 case ot =>
  obtain ⟨d,h1,h2,h3⟩ := hk
  cases d <;> first | (exact absurd rfl (h2 _)) | (exact absurd rfl (h3 _ _)) | simp [isAgg,run_underlying h1,Tk.agg]
 all_goals simp [isAgg,run_underlying hk,Tk.agg]
end
structure CellA (h : Hs) (b o : Nat) (v : Value) : Prop where
 out : ∀ w,Hp h w → w.cell? ⟨b,o,none⟩ = some v
structure CellsA (h : Hs) (b o : Nat) (vs : List Value) : Prop where
 out : ∀ w,Hp h w → ∀ j u,vs[j]? = some u → w.cell? ⟨b,o + j,none⟩ = some u
inductive MemB (b : Nat) (x : Hb) : List (Nat × Hb) → Prop
 | here {r : List (Nat × Hb)} : MemB b x ((b,x) :: r)
 | there {p : Nat × Hb} {r : List (Nat × Hb)} : MemB b x r → MemB b x (p :: r)
 | skip {l r : List (Nat × Hb)} : MemB b x r → MemB b x (l ++ r)
theorem MemB.mem {b : Nat} {x : Hb} {r : List (Nat × Hb)} (m : MemB b x r) : (b,x) ∈ r := by
 induction m with
 | here => exact List.mem_cons_self
 | there _ ih => exact List.mem_cons_of_mem _ ih
 | skip _ ih => exact List.mem_append_right _ ih
theorem HasB.cell {w : World} {b o : Nat} {x : Hb} {v : Value} (hb : HasB w b x) (hv : x.cs[o]? = some v) : w.cell? ⟨b,o,none⟩ = some v := by
 rcases hb.or with ⟨k,junk,_,h1,_⟩ | ⟨h0,_⟩
 case inr => rw [h0] at hv;simp at hv
 have hlt : o < x.cs.length := by
  rcases Nat.lt_or_ge o x.cs.length with h | h
  ·exact h
  ·rw [List.getElem?_eq_none h] at hv;cases hv
 simp only [World.cell?,h1]
 simp only [Option.isSome_none,Bool.false_eq_true,if_false,List.getElem?_toArray]
 rw [List.getElem?_append_left hlt];exact hv
theorem HasB.frozen {w : World} {b o : Nat} {x : Hb} (hb : HasB w b x) : w.frozen? ⟨b,o,none⟩ = false := by
 rcases hb.or with ⟨k,junk,_,h1,_⟩ | ⟨_,_,h1,_⟩
 ·simp [World.frozen?,h1]
 ·exact h1 o
theorem CellA.own {F : Nat → Prop} {w0 : World} {hp : List (Nat × Hb)} {b o : Nat} {x : Hb} {v : Value} (m : MemB b x hp) (hv : nth x.cs o = some v) : CellA ⟨F,w0,hp⟩ b o v :=
 ⟨fun w hw => (hw.blk b x m.mem).cell (by rw [← nth_eq];exact hv)⟩
theorem CellA.frz {F : Nat → Prop} {w0 : World} {hp : List (Nat × Hb)} {b o : Nat} {v : Value} (hF : F b) (hc : w0.cell? ⟨b,o,none⟩ = some v) : CellA ⟨F,w0,hp⟩ b o v :=
 ⟨fun _ hw => (hw.same.cell (p := ⟨b,o,none⟩) hF).trans hc⟩
theorem CellsA.own {F : Nat → Prop} {w0 : World} {hp : List (Nat × Hb)} {b o : Nat} {x : Hb} {vs : List Value} (m : MemB b x hp) (hv : ∀ j u,vs[j]? = some u → x.cs[o + j]? = some u) : CellsA ⟨F,w0,hp⟩ b o vs :=
 ⟨fun w hw j u hu => (hw.blk b x m.mem).cell (hv j u hu)⟩
def cut {α : Type} : List α → Nat → Nat → List α
 | _,_,0 => []
 | [],_,_ => []
 | x :: l,0,n + 1 => x :: cut l 0 n
 | _ :: l,o + 1,n => cut l o n
theorem run_loadCells {P : Program} {w : World} {b : Nat} : ∀ (vs : List Value) (o i : Nat) (acc : Array Value),(∀ j u,vs[j]? = some u → w.cell? ⟨b,o + i + j,none⟩ = some u) →
  (loadCellsFrom ⟨b,o,none⟩ i vs.length acc).run P w = .ok (acc ++ vs.toArray) w
 | [],o,i,acc,_ => by simp [loadCellsFrom]
 | v :: vs,o,i,acc,hc => by
  have h0 := hc 0 v rfl
  have hadd : (⟨b,o,none⟩ : Addr).add i = ⟨b,o + i,none⟩ := by unfold Addr.add;split <;> simp_all
  have ih := run_loadCells (P := P) (w := w) (b := b) vs o (i + 1) (acc.push v) (fun j u hu => by have := hc (j + 1) u (by simpa using hu);rwa [show o + i + (j + 1) = o + (i + 1) + j by omega] at this)
  simp only [Nat.add_zero] at h0
  simp only [List.length_cons,loadCellsFrom,Sem.run_bind,run_load,hadd,h0,Result.andThen_ok,ih]
  simp
section
variable {P : Program} {T : List (Nat × Ty)} [hT : Tys P T] {nt : Nt} {tm : List (Nat × Value)} {h : Hs} {d : Option Tmp} {ty : TypeId} {pos : String} {af : Array Edge} {gd : Option (Nat × Bool)}
structure Yd (P : Program) (nt : Nt) (o : Oper) (tm : List (Nat × Value)) (h : Hs) (v : Value) : Prop where
 out : ∀ a w,Slt nt tm a → Hp h w → (execOp a.eval o).run P w = .ok (.value v) w
theorem Yd.move {x : Operand} {v : Value} (hx : ev tm x = some v) : Yd P nt ⟨d,.move x,ty,pos,af,gd⟩ tm h v := ⟨fun a w ha _ => by simp [execOp,ha.ev hx]⟩
theorem Yd.assign {x : Operand} {v : Value} (hx : ev tm x = some v) : Yd P nt ⟨d,.assign x,ty,pos,af,gd⟩ tm h v := ⟨fun a w ha _ => by simp [execOp,ha.ev hx]⟩
theorem Yd.pickT {c x y : Operand} {b : Bool} {v : Value} (hc : ev tm c = some (.bool b)) (hb : b = true) (hx : ev tm x = some v) : Yd P nt ⟨d,.pick c x y,ty,pos,af,gd⟩ tm h v :=
 ⟨fun a w ha _ => by simp [execOp,ha.ev hc,ha.ev hx,asBool,hb]⟩
theorem Yd.pickF {c x y : Operand} {b : Bool} {v : Value} (hc : ev tm c = some (.bool b)) (hb : b = false) (hx : ev tm y = some v) : Yd P nt ⟨d,.pick c x y,ty,pos,af,gd⟩ tm h v :=
 ⟨fun a w ha _ => by simp [execOp,ha.ev hc,ha.ev hx,asBool,hb]⟩
theorem Yd.load1 {t : TypeId} {x : Operand} {b o : Nat} {i : Ty} {v : Value} (hx : ev tm x = some (.pointer (some ⟨b,o,none⟩))) (ht : lk t T = some i) (hk : i.k.agg = false) (hc : CellA h b o v) : Yd P nt ⟨d,.load t x,ty,pos,af,gd⟩ tm h v :=
 ⟨fun a w ha hw => by simp [execOp,Instr.loadAt,Instr.sureAddr,loadVar,ha.ev hx,(hT.ok t i ht).run_isAgg,hk,hc.out w hw]⟩
theorem Yd.loadn {t : TypeId} {x : Operand} {b o : Nat} {i : Ty} {vs : List Value} (hx : ev tm x = some (.pointer (some ⟨b,o,none⟩))) (ht : lk t T = some i) (hk : i.k.agg = true) (hc : CellsA h b o vs) (hn : i.size = vs.length) : Yd P nt ⟨d,.load t x,ty,pos,af,gd⟩ tm h (.agg vs.toArray) :=
 ⟨fun a w ha hw => by
  have := run_loadCells (P := P) (w := w) (b := b) vs o 0 #[] (fun j u hu => by simpa using hc.out w hw j u hu)
  simp [execOp,Instr.loadAt,Instr.sureAddr,loadVar,ha.ev hx,(hT.ok t i ht).run_isAgg,hk,(hT.ok t i ht).run_size,hn,loadCells,this]⟩
theorem Yd.nilCheck {x : Operand} {a0 : Addr} (hx : ev tm x = some (.pointer (some a0))) : Yd P nt ⟨d,.nilCheck x,ty,pos,af,gd⟩ tm h (.pointer (some a0)) := ⟨fun a w ha _ => by simp [execOp,ha.ev hx]⟩
theorem Yd.fieldAddr {s f : Nat} {x : Operand} {b o off ft : Nat} {i j : Ty} {fs : List (Nat × TypeId)} (hx : ev tm x = some (.pointer (some ⟨b,o,none⟩))) (ht : lk s T = some i) (hk : i.k = .st fs) (hf : nth fs f = some (off,ft)) (hj : lk ft T = some j) (hz : Nat.beq j.size 0 = false) :
  Yd P nt ⟨d,.fieldAddr s x f,ty,pos,af,gd⟩ tm h (.pointer (some ⟨b,o + off,none⟩)) :=
 ⟨fun a w ha hw => by
  have h1 := (hT.ok s i ht).kind
  rw [hk] at h1
  obtain ⟨fields,h2,h3⟩ := h1
  rw [nth_eq,← h3,List.getElem?_map] at hf
  cases hfj : fields.toList[f]? with
  | none => rw [hfj] at hf;cases hf
  | some fl =>
   rw [hfj] at hf
   simp only [Option.map_some,Option.some.injEq,Prod.mk.injEq] at hf
   obtain ⟨rfl,rfl⟩ := hf
   have hfa : fields[f]? = some fl := by simpa using hfj
   have hne : ¬ j.size = 0 := fun e => by rw [e] at hz;cases hz
   have hadd : (⟨b,o,none⟩ : Addr).add fl.offset = ⟨b,o + fl.offset,none⟩ := by unfold Addr.add;split <;> simp_all
   simp [execOp,Instr.fieldAt,Instr.sureAddr,fieldPlace,ha.ev hx,run_underlying h2,hfa,(hT.ok _ j hj).run_size,hne,hadd]⟩
theorem Yd.indexAddr {t e : Nat} {x ix : Operand} {b o n c : Nat} {k : IntKind} {z : Int} {i : Ty} {jk : Tk} {js jb : Nat} {jz : List Value} (hx : ev tm x = some (.slice (some ⟨b,o,none⟩) n c)) (hix : ev tm ix = some (.int k z)) (ht : lk t T = some i) (hk : i.k = .sl e) (hj : lk e T = some ⟨jk,js,jb,jz⟩) (h0 : 0 ≤ z) (hz : z < (n : Int)) :
  Yd P nt ⟨d,.indexAddr t x ix,ty,pos,af,gd⟩ tm h (.pointer (some ⟨b,o + z.toNat * js,none⟩)) :=
 ⟨fun a w ha hw => by
  have h1 := (hT.ok t i ht).kind
  rw [hk] at h1
  have h1 : P.underlying t = some (.slice e) := h1
  have hadd : (⟨b,o,none⟩ : Addr).add (z.toNat * js) = ⟨b,o + z.toNat * js,none⟩ := by unfold Addr.add;split <;> simp_all
  simp [execOp,Instr.indexAt,asIntOf,ha.ev hx,ha.ev hix,run_underlying h1,(hT.ok e _ hj).run_size,h0,hz,hadd]⟩
theorem Yd.indexNat {t e : Nat} {x ix : Operand} {b o n c m : Nat} {k : IntKind} {i : Ty} {jk : Tk} {js jb : Nat} {jz : List Value} (hx : ev tm x = some (.slice (some ⟨b,o,none⟩) n c)) (hix : ev tm ix = some (.int k (m : Int))) (ht : lk t T = some i) (hk : i.k = .sl e) (hj : lk e T = some ⟨jk,js,jb,jz⟩) (hz : m < n) :
  Yd P nt ⟨d,.indexAddr t x ix,ty,pos,af,gd⟩ tm h (.pointer (some ⟨b,o + m * js,none⟩)) := by
 have := Yd.indexAddr (P := P) (T := T) (nt := nt) (h := h) (d := d) (ty := ty) (pos := pos) (af := af) (gd := gd) hx hix ht hk hj (by omega) (by omega)
 simpa using this
theorem Yd.extract {x : Operand} {m : Nat} {vs : Array Value} {v : Value} (hx : ev tm x = some (.tuple vs)) (hm : nth vs.toList m = some v) : Yd P nt ⟨d,.extract x m,ty,pos,af,gd⟩ tm h v :=
 ⟨fun a w ha _ => by
  rw [nth_eq] at hm
  have hm : vs[m]? = some v := by simpa using hm
  simp [execOp,Instr.extract,ha.ev hx,hm]⟩
theorem Yd.field1 {s f : Nat} {x : Operand} {off ft : Nat} {i j : Ty} {fs : List (Nat × TypeId)} {cs : Array Value} {v : Value} (hx : ev tm x = some (.agg cs)) (ht : lk s T = some i) (hk : i.k = .st fs) (hf : nth fs f = some (off,ft)) (hj : lk ft T = some j) (hg : j.k.agg = false) (hv : nth cs.toList off = some v) :
  Yd P nt ⟨d,.field s x f,ty,pos,af,gd⟩ tm h v :=
 ⟨fun a w ha hw => by
  have h1 := (hT.ok s i ht).kind
  rw [hk] at h1
  obtain ⟨fields,h2,h3⟩ := h1
  rw [nth_eq,← h3,List.getElem?_map] at hf
  cases hfj : fields.toList[f]? with
  | none => rw [hfj] at hf;cases hf
  | some fl =>
   rw [hfj] at hf
   simp only [Option.map_some,Option.some.injEq,Prod.mk.injEq] at hf
   obtain ⟨rfl,rfl⟩ := hf
   have hfa : fields[f]? = some fl := by simpa using hfj
   rw [nth_eq] at hv
   have hv : cs[fl.offset]? = some v := by simpa using hv
   simp [execOp,Instr.field,part,asAgg,ha.ev hx,run_underlying h2,hfa,(hT.ok _ j hj).run_isAgg,hg,hv]⟩
theorem Yd.len {x : Operand} {t e : Nat} {p : Option Addr} {n c : Nat} {i : Ty} (hx : ev tm x = some (.slice p n c)) (ht : lk t T = some i) (hk : i.k = .sl e) : Yd P nt ⟨d,.call ⟨.builtin .len,#[x],#[t]⟩,ty,pos,af,gd⟩ tm h (.int .i64 (n : Int)) :=
 ⟨fun a w ha _ => by
  have h1 := (hT.ok t i ht).kind
  rw [hk] at h1
  have h1 : P.underlying t = some (.slice e) := h1
  simp [execOp,resolve,invoke,builtin,Builtin.len_,ha.ev hx,run_underlying h1,goInt]⟩
theorem Yd.lenStr {x : Operand} {t : Nat} {s : ByteArray} {i : Ty} (hx : ev tm x = some (.string s)) (ht : lk t T = some i) (hk : i.k = .sr) : Yd P nt ⟨d,.call ⟨.builtin .len,#[x],#[t]⟩,ty,pos,af,gd⟩ tm h (.int .i64 (s.size : Int)) :=
 ⟨fun a w ha _ => by
  have h1 := (hT.ok t i ht).kind
  rw [hk] at h1
  have h1 : P.underlying t = some .string := h1
  simp [execOp,resolve,invoke,builtin,Builtin.len_,ha.ev hx,run_underlying h1,goInt]⟩
theorem Yd.not {x : Operand} {t : Nat} {b : Bool} (hx : ev tm x = some (.bool b)) : Yd P nt ⟨d,.unOp .not t x,ty,pos,af,gd⟩ tm h (.bool (!b)) := ⟨fun a w ha _ => by simp [execOp,Op.unary,ha.ev hx]⟩
theorem Yd.neg {x : Operand} {t : Nat} {n : Int} (hx : ev tm x = some (.int .i64 n)) (hr : -9223372036854775807 ≤ n ∧ n ≤ 9223372036854775807) : Yd P nt ⟨d,.unOp .neg t x,ty,pos,af,gd⟩ tm h (.int .i64 (-n)) := ⟨fun a w ha _ => by
 have := IntWalk.i64_in (-n) (by omega)
 simp [execOp,Op.unary,Op.intArith,ha.ev hx,this]⟩
section
variable {x y : Operand} {t u : Nat} {m n : Int} {k : IntKind}
theorem Yd.add (hx : ev tm x = some (.int .i64 m)) (hy : ev tm y = some (.int .i64 n)) (hr : -9223372036854775808 ≤ m + n ∧ m + n ≤ 9223372036854775807) : Yd P nt ⟨d,.binOp .add t x y u,ty,pos,af,gd⟩ tm h (.int .i64 (m + n)) := ⟨fun a w ha _ => by
 simp [execOp,eqGuard,binOp,Op.intArith,ha.ev hx,ha.ev hy,IntWalk.i64_in _ hr]⟩
theorem Yd.sub (hx : ev tm x = some (.int .i64 m)) (hy : ev tm y = some (.int .i64 n)) (hr : -9223372036854775808 ≤ m - n ∧ m - n ≤ 9223372036854775807) : Yd P nt ⟨d,.binOp .sub t x y u,ty,pos,af,gd⟩ tm h (.int .i64 (m - n)) := ⟨fun a w ha _ => by
 simp [execOp,eqGuard,binOp,Op.intArith,ha.ev hx,ha.ev hy,IntWalk.i64_in _ hr]⟩
theorem Yd.mul (hx : ev tm x = some (.int .i64 m)) (hy : ev tm y = some (.int .i64 n)) (hr : -9223372036854775808 ≤ m * n ∧ m * n ≤ 9223372036854775807) : Yd P nt ⟨d,.binOp .mul t x y u,ty,pos,af,gd⟩ tm h (.int .i64 (m * n)) := ⟨fun a w ha _ => by
 simp [execOp,eqGuard,binOp,Op.intArith,ha.ev hx,ha.ev hy,IntWalk.i64_in _ hr]⟩
theorem Yd.eql (hx : ev tm x = some (.int k m)) (hy : ev tm y = some (.int k n)) : Yd P nt ⟨d,.binOp .eql t x y u,ty,pos,af,gd⟩ tm h (.bool (m == n)) := ⟨fun a w ha _ => by
 simp [execOp,eqGuard,binOp,Op.intCmp,ha.ev hx,ha.ev hy]⟩
theorem Yd.neq (hx : ev tm x = some (.int k m)) (hy : ev tm y = some (.int k n)) : Yd P nt ⟨d,.binOp .neq t x y u,ty,pos,af,gd⟩ tm h (.bool (m != n)) := ⟨fun a w ha _ => by
 simp [execOp,eqGuard,binOp,Op.intCmp,ha.ev hx,ha.ev hy]⟩
theorem Yd.lss (hx : ev tm x = some (.int k m)) (hy : ev tm y = some (.int k n)) : Yd P nt ⟨d,.binOp .lss t x y u,ty,pos,af,gd⟩ tm h (.bool (decide (m < n))) := ⟨fun a w ha _ => by
 simp [execOp,eqGuard,binOp,Op.intCmp,ha.ev hx,ha.ev hy]⟩
theorem Yd.leq (hx : ev tm x = some (.int k m)) (hy : ev tm y = some (.int k n)) : Yd P nt ⟨d,.binOp .leq t x y u,ty,pos,af,gd⟩ tm h (.bool (decide (m ≤ n))) := ⟨fun a w ha _ => by
 simp [execOp,eqGuard,binOp,Op.intCmp,ha.ev hx,ha.ev hy]⟩
theorem Yd.gtr (hx : ev tm x = some (.int k m)) (hy : ev tm y = some (.int k n)) : Yd P nt ⟨d,.binOp .gtr t x y u,ty,pos,af,gd⟩ tm h (.bool (decide (n < m))) := ⟨fun a w ha _ => by
 simp [execOp,eqGuard,binOp,Op.intCmp,ha.ev hx,ha.ev hy]⟩
theorem Yd.geq (hx : ev tm x = some (.int k m)) (hy : ev tm y = some (.int k n)) : Yd P nt ⟨d,.binOp .geq t x y u,ty,pos,af,gd⟩ tm h (.bool (decide (n ≤ m))) := ⟨fun a w ha _ => by
 simp [execOp,eqGuard,binOp,Op.intCmp,ha.ev hx,ha.ev hy]⟩
end
end
end Go.Proofs.YtjpaaaecbgmcgaaGreatDoor
/-
 A walk over named blocks: operations that make or write memory;calls;what is handed back.
-/
namespace Go.Proofs.YtjpaaaecbgmcgaaGreatDoor
open Go.RowKit
theorem HasB.lt {w : World} {b : Nat} {x : Hb} (hb : HasB w b x) : b < w.heap.size := by
 rcases Nat.lt_or_ge b w.heap.size with h | h
 ·exact h
 ·rcases hb.or with ⟨k,junk,_,h1,_⟩ | ⟨_,⟨_,h1⟩,_,_⟩ <;> (rw [Array.getElem?_eq_none h] at h1;cases h1)
theorem HasB.of_block {w w' : World} {b : Nat} {x : Hb} (hb : HasB w b x) (e : w'.heap[b]? = w.heap[b]?) : HasB w' b x := by
 unfold HasB at hb ⊢
 split at hb
 ·obtain ⟨junk,h1,h2⟩ := hb
  exact ⟨junk,e.trans h1,h2⟩
 ·obtain ⟨h0,arr,clock,h1,h2⟩ := hb
  exact ⟨h0,arr,clock,e.trans h1,h2⟩
 ·exact ⟨hb.1,e.trans hb.2⟩
 ·exact ⟨hb.1,e.trans hb.2.1,fun i => by have := hb.2.2 i;simp only [World.frozen?] at this ⊢;rw [e];exact this⟩
section
variable {h : Hs} {w w' : World}
theorem Hp.keep (hw : Hp h w) (hs : Same h.F w w') (hb : ∀ b x,(b,x) ∈ h.hp → w'.heap[b]? = w.heap[b]?) : Hp h w' :=
 ⟨hw.same.trans hs,hw.inF,fun b x hx => (hw.blk b x hx).of_block (hb b x hx),hw.nd,hw.out⟩
theorem Hp.below (hw : Hp h w) (hb : Below w.heap.size w w') : Hp h w' :=
 hw.keep (Same.of_below hb fun b hF => Nat.lt_of_lt_of_le (hw.inF b hF) hw.same.size) fun b x hx => hb.block b (hw.blk b x hx).lt
theorem Hp.drawn (hw : Hp h w) (n : Nat) : Hp h { w with drawn := n } := hw.keep ⟨rfl,rfl,rfl,Nat.le_refl _,fun _ _ => rfl⟩ fun _ _ _ => rfl
theorem Hp.Flt (hw : Hp h w) {b : Nat} (hF : h.F b) : b < w.heap.size := Nat.lt_of_lt_of_le (hw.inF b hF) hw.same.size
theorem Hp.add {F : Nat → Prop} {w0 : World} {hp : List (Nat × Hb)} (hw : Hp ⟨F,w0,hp⟩ w) (hk : Below w.heap.size w w') {b : Nat} {x : Hb} (hge : w.heap.size ≤ b) (hb : HasB w' b x) : Hp ⟨F,w0,(b,x) :: hp⟩ w' := by
 have h1 := hw.below hk
 refine ⟨h1.same,h1.inF,?_,?_,?_⟩
 ·intro c y hy
  rcases List.mem_cons.1 hy with e | hy
  ·injection e with e1 e2;subst e1 e2;exact hb
  ·exact h1.blk c y hy
 ·simp only [List.map_cons,List.nodup_cons]
  refine ⟨fun hm => ?_,h1.nd⟩
  obtain ⟨⟨c,y⟩,hy,rfl⟩ := List.mem_map.1 hm
  exact absurd (hw.blk c y hy).lt (by simpa using hge)
 ·intro c y hy
  rcases List.mem_cons.1 hy with e | hy
  ·injection e with e1 e2;subst e1 e2
   exact fun hF => absurd (hw.Flt hF) (by omega)
  ·exact h1.out c y hy
theorem Hp.alloc {F : Nat → Prop} {w0 : World} {hp : List (Nat × Hb)} (hw : Hp ⟨F,w0,hp⟩ w) (t : TypeId) (cs : Array Value) : Hp ⟨F,w0,(w.heap.size,⟨t,cs.toList,cs.toList.length⟩) :: hp⟩ (w.alloc (.cells cs t)) :=
 hw.add ((Below.refl _ _).alloc (Nat.le_refl _) _) (Nat.le_refl _) ⟨[],by rw [heap_alloc_new];simp,by simp⟩
end
inductive UpdB (b : Nat) (x y : Hb) : List (Nat × Hb) → List (Nat × Hb) → Prop
 | here {r : List (Nat × Hb)} : UpdB b x y ((b,x) :: r) ((b,y) :: r)
 | there {p : Nat × Hb} {r r' : List (Nat × Hb)} : UpdB b x y r r' → UpdB b x y (p :: r) (p :: r')
 | skip {l r r' : List (Nat × Hb)} : UpdB b x y r r' → UpdB b x y (l ++ r) (l ++ r')
theorem UpdB.mem {b : Nat} {x y : Hb} {r r' : List (Nat × Hb)} (u : UpdB b x y r r') : (b,x) ∈ r := by
 induction u with
 | here => exact List.mem_cons_self
 | there _ ih => exact List.mem_cons_of_mem _ ih
 | skip _ ih => exact List.mem_append_right _ ih
theorem UpdB.keys {b : Nat} {x y : Hb} {r r' : List (Nat × Hb)} (u : UpdB b x y r r') : r'.map Prod.fst = r.map Prod.fst := by
 induction u with
 | here => rfl
 | there _ ih => simp [ih]
 | skip _ ih => simp [ih]
theorem UpdB.cases {b : Nat} {x y : Hb} {r r' : List (Nat × Hb)} (u : UpdB b x y r r') (hn : (r.map Prod.fst).Nodup) : ∀ c z,(c,z) ∈ r' → (c = b ∧ z = y) ∨ (c ≠ b ∧ (c,z) ∈ r) := by
 induction u with
 | here =>
  intro c z hz
  simp only [List.map_cons,List.nodup_cons] at hn
  rcases List.mem_cons.1 hz with e | hz
  ·injection e with e1 e2;exact .inl ⟨e1,e2⟩
  ·exact .inr ⟨fun e => hn.1 (e ▸ List.mem_map_of_mem hz),List.mem_cons_of_mem _ hz⟩
 | @there p r r' u ih =>
  intro c z hz
  simp only [List.map_cons,List.nodup_cons] at hn
  rcases List.mem_cons.1 hz with e | hz
  ·subst e
   exact .inr ⟨fun e => hn.1 (by have := List.mem_map_of_mem (f := Prod.fst) u.mem;simpa [e] using this),List.mem_cons_self⟩
  ·rcases ih hn.2 c z hz with h | ⟨h1,h2⟩
   ·exact .inl h
   ·exact .inr ⟨h1,List.mem_cons_of_mem _ h2⟩
 | @skip l r r' u ih =>
  intro c z hz
  rw [List.map_append,List.nodup_append] at hn
  rcases List.mem_append.1 hz with hz | hz
  ·refine .inr ⟨fun e => ?_,List.mem_append_left _ hz⟩
   have h1 : c ∈ l.map Prod.fst := List.mem_map_of_mem (f := Prod.fst) hz
   have h2 : b ∈ r.map Prod.fst := List.mem_map_of_mem (f := Prod.fst) u.mem
   exact hn.2.2 c h1 b h2 e
  ·rcases ih hn.2.1 c z hz with h | ⟨h1,h2⟩
   ·exact .inl h
   ·exact .inr ⟨h1,List.mem_append_right _ h2⟩
theorem Hp.upd {F : Nat → Prop} {w0 w w' : World} {hp hp' : List (Nat × Hb)} {b : Nat} {x y : Hb} (hw : Hp ⟨F,w0,hp⟩ w) (u : UpdB b x y hp hp') (hg : Same (· ≠ b) w w') (hb : HasB w' b y) : Hp ⟨F,w0,hp'⟩ w' := by
 refine ⟨hw.same.trans (hg.mono fun c hF e => ?_),hw.inF,?_,by rw [u.keys];exact hw.nd,?_⟩
 ·subst e;exact hw.out _ _ u.mem hF
 ·intro c z hz
  rcases u.cases hw.nd c z hz with ⟨rfl,rfl⟩ | ⟨h1,h2⟩
  ·exact hb
  ·exact (hw.blk c z h2).of_block (hg.block c h1)
 ·intro c z hz
  rcases u.cases hw.nd c z hz with ⟨rfl,rfl⟩ | ⟨h1,h2⟩
  ·exact hw.out _ _ u.mem
  ·exact hw.out c z h2
def spl : List Value → Nat → List Value → List Value
 | cs,_,[] => cs
 | [],_,_ => []
 | _ :: cs,0,v :: vs => v :: spl cs 0 vs
 | c :: cs,o + 1,vs => c :: spl cs o vs
theorem spl_nil (cs : List Value) (o : Nat) : spl cs o [] = cs := by cases cs <;> cases o <;> rfl
theorem spl_cons : ∀ (cs : List Value) (o : Nat) (v : Value) (vs : List Value),spl cs o (v :: vs) = spl (cs.set o v) (o + 1) vs
 | [],o,v,vs => by cases vs <;> simp [spl]
 | c :: cs,0,v,vs => by cases vs <;> simp [spl,spl_nil]
 | c :: cs,o + 1,v,vs => by
  have := spl_cons cs o v vs
  cases vs with
  | nil => simp only [spl_nil] at this;simp [spl,this]
  | cons u us => simp only [spl,List.set_cons_succ,this]
theorem spl_length : ∀ (vs cs : List Value) (o : Nat),(spl cs o vs).length = cs.length
 | [],cs,o => by rw [spl_nil]
 | v :: vs,cs,o => by rw [spl_cons,spl_length vs];simp
theorem run_storeCells {P : Program} {b : Nat} {t : TypeId} : ∀ (vs cs : List Value) (w : World) (junk : List Value) (o i : Nat),w.heap[b]? = some (.cells (cs ++ junk).toArray t (0,0)) → o + i + vs.length ≤ cs.length → (vs.all Value.oneCell') = true →
  ∃ w',(storeCells ⟨b,o,none⟩ vs i).run P w = .ok () w' ∧ Same (· ≠ b) w w' ∧ w'.heap[b]? = some (.cells (spl cs (o + i) vs ++ junk).toArray t (0,0))
 | [],cs,w,junk,o,i,hh,_,_ => ⟨w,by simp [storeCells],Same.refl _ _,by rw [spl_nil];exact hh⟩
 | v :: vs,cs,w,junk,o,i,hh,hl,ho => by
  simp only [List.length_cons] at hl
  simp only [List.all_cons,Bool.and_eq_true] at ho
  have hadd : (⟨b,o,none⟩ : Addr).add i = ⟨b,o + i,none⟩ := by unfold Addr.add;split <;> simp_all
  have hb : HasB w b ⟨t,cs,cs.length + junk.length⟩ := ⟨junk,hh,rfl⟩
  have hc : w.cell? ⟨b,o + i,none⟩ = some (cs[o + i]'(by omega)) := hb.cell (o := o + i) (List.getElem?_eq_getElem (by dsimp only;omega))
  have hf := hb.frozen (o := o + i)
  have hset : (w.setCell ⟨b,o + i,none⟩ v).heap[b]? = some (.cells (cs.set (o + i) v ++ junk).toArray t (0,0)) := by
   simp only [World.setCell,Array.getElem?_modify,hh,if_true,Option.map_some,Option.isSome_none,Bool.false_eq_true,if_false]
   rw [List.setIfInBounds_toArray,List.set_append_left _ _ (by omega)]
  obtain ⟨w',h1,h2,h3⟩ := run_storeCells (P := P) (b := b) (t := t) vs (cs.set (o + i) v) (w.setCell ⟨b,o + i,none⟩ v) junk o (i + 1) hset (by simp;omega) ho.2
  refine ⟨w',?_,?_,?_⟩
  ·simp only [storeCells,Sem.run_bind,hadd,run_store P w _ v .plain ho.1,hc,hf,Bool.false_eq_true,if_false,Result.andThen_ok,h1]
  ·exact Same.trans (b := w.setCell ⟨b,o + i,none⟩ v) ⟨rfl,rfl,rfl,by simp [World.setCell],fun k hk => Below.heap_setCell w ⟨b,o + i,none⟩ v k hk⟩ h2
  ·rw [h3,spl_cons,Nat.add_assoc]
def vcells : Value → List Value
 | .agg cs => cs.toList
 | .bool b => [.bool b]
 | .int k n => [.int k n]
 | .float k n => [.float k n]
 | .complex k a b => [.complex k a b]
 | .string s => [.string s]
 | .pointer a => [.pointer a]
 | .slice a n c => [.slice a n c]
 | .map r => [.map r]
 | .chan r => [.chan r]
 | .func f a b => [.func f a b]
 | .nilFunc => [.nilFunc]
 | .iface t v => [.iface t v]
 | .nilIface => [.nilIface]
 | .tuple vs => [.tuple vs]
theorem vcells_eq (v : Value) : v.cells.toList = vcells v := by cases v <;> rfl
inductive ArgsL (tm : List (Nat × Value)) : List Operand → List Value → Prop
 | nil : ArgsL tm [] []
 | cons {x : Operand} {v : Value} {l : List Operand} {r : List Value} : ev tm x = some v → ArgsL tm l r → ArgsL tm (x :: l) (v :: r)
theorem ArgsL.eq {nt : Nt} {tm : List (Nat × Value)} {a : Act} (ha : Slt nt tm a) {l : List Operand} {r : List Value} (p : ArgsL tm l r) : l.map a.eval = r := by
 induction p with
 | nil => rfl
 | cons hx _ ih => simp [ha.ev hx,ih]
section
variable {P : Program} {T : List (Nat × Ty)} [hT : Tys P T] {nt : Nt} {ops : Array Oper} {Q : Exit → Act → World → Prop} {tm : List (Nat × Value)} {h : Hs} {ty : TypeId} {pos : String} {af : Array Edge} {gd : Option (Nat × Bool)}
variable {F : Nat → Prop} {w0 : World} {hp : List (Nat × Hb)}
structure OpS (P : Program) (nt : Nt) (Q : Exit → Act → World → Prop) (o : Oper) (tm : List (Nat × Value)) (h : Hs) (K : List (Nat × Value) → Hs → Prop) : Prop where
 out : ∀ a w,Slt nt tm a → Hp h w → o.wp P a w (fun a' w' => ∃ tm' h',Slt nt tm' a' ∧ Hp h' w' ∧ K tm' h') Q
theorem AWl.step {d : Option Tmp} {op : Op} {rest : List Oper} (k : OpS P nt Q ⟨d,op,ty,pos,af,none⟩ tm h (AWl P nt ops Q rest)) : AWl P nt ops Q (⟨d,op,ty,pos,af,none⟩ :: rest) tm h :=
 ⟨fun a w ha hw => Lw_plain rfl fun _ hK => Oper.wp_mono (fun a' w' ⟨_,_,h1,h2,h3⟩ => hK a' w' (h3.out a' w' h1 h2)) (k.out a w ha hw)⟩
theorem yielded_of {j t : Nat} {b : Bool} {a : Act} (ha : Slt nt tm a) (hj : (ops[j]?).bind (·.dst) = some t) (hb : lk t tm = some (.bool b)) : yielded ops a.tmps j = some b := by
 simp [yielded,hj,ha.tm t _ hb]
theorem AWl.stepT {d : Option Tmp} {op : Op} {rest : List Oper} {j t : Nat} {want b : Bool} (hj : (ops[j]?).bind (·.dst) = some t) (hb : lk t tm = some (.bool b)) (hw : b = want) (k : OpS P nt Q ⟨d,op,ty,pos,af,some (j,want)⟩ tm h (AWl P nt ops Q rest)) : AWl P nt ops Q (⟨d,op,ty,pos,af,some (j,want)⟩ :: rest) tm h :=
 ⟨fun a w ha hw' => Lw_step fun K hK => by
  have : Region.wanted ⟨d,op,ty,pos,af,some (j,want)⟩ (yielded ops a.tmps) = true := by simp [Region.wanted,yielded_of ha hj hb,hw]
  rw [if_pos this]
  exact Oper.wp_mono (fun a' w' ⟨_,_,h1,h2,h3⟩ => hK a' w' (h3.out a' w' h1 h2)) (k.out a w ha hw')⟩
theorem AWl.stepF {d : Tmp} {op : Op} {rest : List Oper} {j t : Nat} {want b : Bool} (hj : (ops[j]?).bind (·.dst) = some t) (hb : lk t tm = some (.bool b)) (hw : b = !want) (hd : Nat.blt d nt = true) (k : AWl P nt ops Q rest ((d,undef) :: tm) h) : AWl P nt ops Q (⟨some d,op,ty,pos,af,some (j,want)⟩ :: rest) tm h :=
 ⟨fun a w ha hw' => Lw_step fun K hK => by
  have : ¬ Region.wanted ⟨some d,op,ty,pos,af,some (j,want)⟩ (yielded ops a.tmps) = true := by
   simp [Region.wanted,yielded_of ha hj hb,hw]
  rw [if_neg this]
  exact hK _ _ (k.out _ w (ha.put (by simpa using hd) _) hw')⟩
theorem AWl.stepF' {op : Op} {rest : List Oper} {j t : Nat} {want b : Bool} (hj : (ops[j]?).bind (·.dst) = some t) (hb : lk t tm = some (.bool b)) (hw : b = !want) (k : AWl P nt ops Q rest tm h) : AWl P nt ops Q (⟨none,op,ty,pos,af,some (j,want)⟩ :: rest) tm h :=
 ⟨fun a w ha hw' => Lw_step fun K hK => by
  have : ¬ Region.wanted ⟨none,op,ty,pos,af,some (j,want)⟩ (yielded ops a.tmps) = true := by
   simp [Region.wanted,yielded_of ha hj hb,hw]
  rw [if_neg this]
  exact hK _ _ (k.out _ w ha hw')⟩
theorem OpS.yd {d : Tmp} {op : Op} {v : Value} {K : List (Nat × Value) → Hs → Prop} (y : Yd P nt ⟨some d,op,ty,pos,af,gd⟩ tm h v) (hd : Nat.blt d nt = true) (k : K ((d,v) :: tm) h) : OpS P nt Q ⟨some d,op,ty,pos,af,gd⟩ tm h K :=
 ⟨fun a w ha hw => by
  unfold Oper.wp
  rw [y.out a w ha hw]
  exact ⟨_,h,ha.put (by simpa using hd) v,hw,k⟩⟩
theorem OpS.of_run {d : Tmp} {op : Op} {K : List (Nat × Value) → Hs → Prop} (hd : Nat.blt d nt = true)
  (y : ∀ a w,Slt nt tm a → Hp h w → ∃ v w' h',(execOp a.eval ⟨some d,op,ty,pos,af,gd⟩).run P w = .ok (.value v) w' ∧ Hp h' w' ∧ K ((d,v) :: tm) h') : OpS P nt Q ⟨some d,op,ty,pos,af,gd⟩ tm h K :=
 ⟨fun a w ha hw => by
  obtain ⟨v,w',h',h1,h2,h3⟩ := y a w ha hw
  unfold Oper.wp
  rw [h1]
  exact ⟨_,h',ha.put (by simpa using hd) v,h2,h3⟩⟩
theorem OpS.box {d : Tmp} {t : TypeId} {x : Operand} {v : Value} {K : List (Nat × Value) → Hs → Prop} (hx : ev tm x = some v) (hd : Nat.blt d nt = true)
  (k : ∀ b,K ((d,.pointer (some ⟨b,0,none⟩)) :: tm) ⟨F,w0,(b,⟨t,vcells v,(vcells v).length⟩) :: hp⟩) : OpS P nt Q ⟨some d,.box t x,ty,pos,af,gd⟩ tm ⟨F,w0,hp⟩ K :=
 .of_run hd fun a w ha hw => by
  refine ⟨_,_,_,?_,by have := hw.alloc t v.cells;rw [vcells_eq] at this;exact this,k _⟩
  simp [execOp,Instr.box,newVar,newRow,ha.ev hx]
theorem OpS.alloc {d : Tmp} {t : TypeId} {ik : Tk} {is ib : Nat} {iz : List Value} {K : List (Nat × Value) → Hs → Prop} (ht : lk t T = some ⟨ik,is,ib,iz⟩) (hd : Nat.blt d nt = true)
  (k : ∀ b,K ((d,.pointer (some ⟨b,0,none⟩)) :: tm) ⟨F,w0,(b,⟨t,iz,iz.length⟩) :: hp⟩) : OpS P nt Q ⟨some d,.alloc t,ty,pos,af,gd⟩ tm ⟨F,w0,hp⟩ K :=
 .of_run hd fun a w ha hw => by
  obtain ⟨z,hz1,hz2⟩ := (hT.ok t _ ht).run_zero w
  refine ⟨_,_,_,?_,by have := hw.alloc t z.cells;rw [hz2] at this;exact this,k _⟩
  simp [execOp,Instr.alloc,newVar,newRow,hz1]
theorem OpS.store {t : TypeId} {x y : Operand} {b o : Nat} {v : Value} {i : Ty} {z : Hb} {cs' : List Value} {hp' : List (Nat × Hb)} {K : List (Nat × Value) → Hs → Prop} (hx : ev tm x = some (.pointer (some ⟨b,o,none⟩))) (hy : ev tm y = some v) (ht : lk t T = some i)
  (u : UpdB b z ⟨z.ty,cs',z.tot⟩ hp hp') (hn : (vcells v).length = i.size) (h1 : (vcells v).all Value.oneCell' = true) (hl : Nat.ble (o + i.size) z.cs.length = true) (hcs : spl z.cs o (vcells v) = cs') (k : K tm ⟨F,w0,hp'⟩) :
  OpS P nt Q ⟨none,.store t x y,ty,pos,af,gd⟩ tm ⟨F,w0,hp⟩ K :=
 ⟨fun a w ha hw => by
  have hsz : v.cells.size = i.size := by rw [← hn,← vcells_eq];simp
  rcases (hw.blk b z u.mem).or with ⟨tk,junk,htk,hh,hj⟩ | ⟨h0,_,_,q1⟩
  case inr =>
   have hz : (vcells v).length = 0 := by rw [hn];rw [h0] at hl;simp at hl;exact hl.2
   have hv : vcells v = [] := List.eq_nil_of_length_eq_zero hz
   have hrun : (execOp a.eval ⟨none,.store t x y,ty,pos,af,gd⟩).run P w = .ok .skip w := by
    simp [execOp,Instr.storeAt,Instr.sureAddr,storeVar,ha.ev hx,ha.ev hy,(hT.ok t i ht).run_size,hsz,vcells_eq,hv,storeCells]
   unfold Oper.wp
   rw [hrun]
   refine ⟨tm,_,ha,hw.upd u (Same.refl _ _) ?_,k⟩
   rw [hv,spl_nil,h0] at hcs
   exact q1 _ hcs.symm rfl
  obtain ⟨w',e1,e2,e3⟩ := run_storeCells (P := P) (vcells v) z.cs w junk o 0 hh (by rw [hn];simpa using hl) h1
  have hrun : (execOp a.eval ⟨none,.store t x y,ty,pos,af,gd⟩).run P w = .ok .skip w' := by
   simp [execOp,Instr.storeAt,Instr.sureAddr,storeVar,ha.ev hx,ha.ev hy,(hT.ok t i ht).run_size,hsz,vcells_eq,e1]
  unfold Oper.wp
  rw [hrun]
  refine ⟨tm,_,ha,hw.upd u e2 ?_,k⟩
  unfold HasB
  dsimp only
  rw [htk]
  refine ⟨junk,?_,?_⟩
  ·rw [e3,← hcs];rfl
  ·simp only [← hcs,spl_length];exact hj⟩
theorem OpS.call {d : Tmp} {f : FuncId} {fn : Func} {c : Code} {xs : List Operand} {ts : Array TypeId} {vs : List Value} {K : List (Nat × Value) → Hs → Prop} (M : Value → Hs → Prop) (hf : P.funcs[f]? = some fn) (hb : fn.body = some c) (hnm : (fn.name == "runtime.NumGoroutine") = false) (hx : ArgsL tm xs vs) (hd : Nat.blt d nt = true)
  (hC : ∀ w,Hp h w → Calls P f vs.toArray w fun e w' => ∃ v h',e = .returned v ∧ Hp h' w' ∧ M v h') (k : ∀ v h',M v h' → K ((d,v) :: tm) h') : OpS P nt Q ⟨some d,.call ⟨.value (.func f),xs.toArray,ts⟩,ty,pos,af,gd⟩ tm h K :=
 ⟨fun a w ha hw => by
  have hargs : xs.toArray.map a.eval = vs.toArray := by rw [List.map_toArray,hx.eq ha]
  have hrun : (execOp a.eval ⟨some d,.call ⟨.value (.func f),xs.toArray,ts⟩,ty,pos,af,gd⟩).run P w = .ok (.enter f vs.toArray) w := by
   have hnm' : ¬ fn.name = "runtime.NumGoroutine" := by simpa using hnm
   simp only [execOp,resolve,Sem.run_bind,hargs,Deferred.ofValue,Act.eval,invoke,callFunc]
   simp [hf,hb,hnm']
  unfold Oper.wp
  rw [hrun]
  refine (hC w hw).mono ?_
  rintro e w' ⟨v,h',rfl,h1,h2⟩
  exact ⟨_,h',ha.put (by simpa using hd) v,h1,k v h' h2⟩⟩
theorem OpS.call0 {f : FuncId} {fn : Func} {c : Code} {xs : List Operand} {ts : Array TypeId} {vs : List Value} {K : List (Nat × Value) → Hs → Prop} (M : Value → Hs → Prop) (hf : P.funcs[f]? = some fn) (hb : fn.body = some c) (hnm : (fn.name == "runtime.NumGoroutine") = false) (hx : ArgsL tm xs vs)
  (hC : ∀ w,Hp h w → Calls P f vs.toArray w fun e w' => ∃ v h',e = .returned v ∧ Hp h' w' ∧ M v h') (k : ∀ v h',M v h' → K tm h') : OpS P nt Q ⟨none,.call ⟨.value (.func f),xs.toArray,ts⟩,ty,pos,af,gd⟩ tm h K :=
 ⟨fun a w ha hw => by
  have hargs : xs.toArray.map a.eval = vs.toArray := by rw [List.map_toArray,hx.eq ha]
  have hrun : (execOp a.eval ⟨none,.call ⟨.value (.func f),xs.toArray,ts⟩,ty,pos,af,gd⟩).run P w = .ok (.enter f vs.toArray) w := by
   have hnm' : ¬ fn.name = "runtime.NumGoroutine" := by simpa using hnm
   simp only [execOp,resolve,Sem.run_bind,hargs,Deferred.ofValue,Act.eval,invoke,callFunc]
   simp [hf,hb,hnm']
  unfold Oper.wp
  rw [hrun]
  refine (hC w hw).mono ?_
  rintro e w' ⟨v,h',rfl,h1,h2⟩
  exact ⟨_,h',ha,h1,k v h' h2⟩⟩
end
end Go.Proofs.YtjpaaaecbgmcgaaGreatDoor
/-
 A walk over named blocks: regions that draw their order;entering and leaving a function.
-/
namespace Go.Proofs.YtjpaaaecbgmcgaaGreatDoor
open Go.RowKit
class PanicOk (Q : Exit → Act → World → Prop) : Prop where
 ok : ∀ c (a : Act) d v w,Q (.panic c) (a.put d v) w → Q (.panic c) a w
 no : ¬ LetsOut Q
class NoOut (R : Ending → World → Prop) : Prop where
 no : ∀ w,¬ R .outgrown w
instance {P : Program} {fn : Func} {R : Ending → World → Prop} [q : NoOut R] : PanicOk (bodyPost P fn R) := ⟨fun c a d v w hq => by
 cases d <;> exact hq,fun ⟨_,w,h⟩ => q.no w h⟩
instance {K : Act → World → Prop} {Q : Exit → Act → World → Prop} [q : PanicOk Q] : PanicOk (Exit.then K Q) := ⟨fun c a d v w hq => q.ok c a d v w hq,fun ⟨a,w,h⟩ => q.no ⟨a,w,h⟩⟩
instance {i : Nat} {Q : Exit → Act → World → Prop} [q : PanicOk Q] : PanicOk (Exit.inBlock i Q) := ⟨fun c a d v w hq => q.ok c a d v w hq,fun ⟨a,w,h⟩ => q.no ⟨a,w,h⟩⟩
section
variable {P : Program} {ops : Array Oper} {Q : Exit → Act → World → Prop} {md : Region.Mode} {S : World → Prop} {late : List Nat}
def waits (md : Region.Mode) (ops : Array Oper) : Nat → Nat → Nat → Bool
 | 0,_,_ => false
 | n + 1,j,i => match ops[j]? with
  | none => false
  | some o => o.after.toList.any fun e => Region.binds md e && (e.on == i || waits md ops n e.on i)
def DepsIn (md : Region.Mode) (listed : Array Bool) (o : Oper) : Prop := ∀ e ∈ o.after,Region.binds md e = true → listed.getD e.on false = true
def DC (md : Region.Mode) (ops : Array Oper) (listed : Array Bool) : Prop := ∀ j o,ops[j]? = some o → listed.getD j false = true → DepsIn md listed o
theorem waits_listed {listed : Array Bool} (hd : DC md ops listed) {i : Nat} : ∀ (n j : Nat) (o : Oper),ops[j]? = some o → DepsIn md listed o → waits md ops n j i = true → listed.getD i false = true
 | 0,_,_,_,_,h => by simp [waits] at h
 | n + 1,j,o,ho,hdep,h => by
  simp only [waits,ho,List.any_eq_true,Bool.and_eq_true,Bool.or_eq_true,beq_iff_eq] at h
  obtain ⟨e,he,hb,h⟩ := h
  have hl := hdep e (by simpa using he) hb
  rcases h with rfl | h
  ·exact hl
  ·cases hk : ops[e.on]? with
   | none => cases n <;> simp [waits,hk] at h
   | some o' => exact waits_listed hd n e.on o' hk (hd _ _ hk hl) h
theorem getD_set_false {listed : Array Bool} {i k : Nat} (h : listed.getD k false = true) : (listed.setIfInBounds i true).getD k false = true := by
 by_cases hik : i = k
 ·subst hik
  have hlt : i < listed.size := by
   rcases Nat.lt_or_ge i listed.size with h' | h'
   ·exact h'
   ·simp [Array.getElem?_eq_none h'] at h
  simp [hlt]
 ·rw [getD_set_ne false hik];exact h
theorem DC.set {listed : Array Bool} (hd : DC md ops listed) {i : Nat} {oi : Oper} (hi : ops[i]? = some oi) (hdep : DepsIn md listed oi) : DC md ops (listed.setIfInBounds i true) := by
 intro j o ho hj e he hb
 by_cases hij : i = j
 ·subst hij
  rw [hi] at ho;injection ho with ho;subst ho
  exact getD_set_false (hdep e he hb)
 ·rw [getD_set_ne false hij] at hj
  exact getD_set_false (hd j o ho hj e he hb)
theorem DC.start : DC md ops (Array.replicate ops.size false) := fun j o _ hj => by
 rcases Nat.lt_or_ge j ops.size with h | h <;> simp [h] at hj
def wpAnyG (P : Program) (md : Region.Mode) (ops : Array Oper) (Q : Exit → Act → World → Prop) (S : World → Prop) (late : List Nat) : Nat → Array Bool → Act → World → Prop
 | 0,listed,a,w => Region.ready md ops listed = [] ∧ Q .normal a w
 | fuel + 1,listed,a,w =>
  (Region.ready md ops listed = [] → Q .normal a w) ∧
  ∀ i ∈ Region.ready md ops listed,wpOp P ops Q i (fun a' w' => (late.contains i = false → S w') ∧ wpAnyG P md ops Q S late fuel (listed.setIfInBounds i true) a' w') a w
theorem wpAny_of_G : ∀ (fuel : Nat) (listed : Array Bool) (a : Act) (w : World),wpAnyG P md ops Q S late fuel listed a w → wpAny P md ops Q fuel listed a w
 | 0,_,_,_,h => h
 | fuel + 1,_,_,_,h => ⟨h.1,fun i hi => wpOp_mono (fun a' w' h' => wpAny_of_G fuel _ a' w' h'.2) (h.2 i hi)⟩
theorem wpAnyG_first {i : Nat} {oi : Oper} {v : Value} (hi : ops[i]? = some oi) (hsel : ∀ (j : Nat) (o : Oper) cs b,ops[j]? = some o → o.op ≠ .select cs b)
  (hQ : ∀ c a w,Q (.panic c) (a.put oi.dst v) w → Q (.panic c) a w) {n : Nat} (hlate : ∀ j,late.contains j = true → waits md ops n j i = true) :
  ∀ (fuel : Nat) (listed : Array Bool) (a : Act) (w : World),DC md ops listed →
   (∀ j oj,ops[j]? = some oj → j ≠ i → listed.getD j true = false → (∀ e ∈ oj.after,Region.binds md e = true → e.on ≠ i) → oi.apart ops oj = true) →
   i ∈ Region.ready md ops listed → YieldsIf P ops S oi v a → S w →
   wpAnyG P md ops Q S late fuel (listed.setIfInBounds i true) (a.put oi.dst v) w → wpAnyG P md ops Q S late (fuel + 1) listed a w := by
 intro fuel
 induction fuel with
 | zero =>
  intro listed a w _ _ hr hy hS H
  refine ⟨fun h => (by rw [h] at hr;cases hr),fun j hj => ?_⟩
  by_cases hji : j = i
  ·subst hji;exact hy.wpOp hi hS ⟨fun _ => hS,H⟩
  ·have := ready_mono hj hji
   rw [H.1] at this
   cases this
 | succ fuel ih =>
  intro listed a w hdc hfree hr hy hS H
  refine ⟨fun h => (by rw [h] at hr;cases hr),fun j hj => ?_⟩
  by_cases hji : j = i
  ·subst hji;exact hy.wpOp hi hS ⟨fun _ => hS,H⟩
  ·have h1 := H.2 j (ready_mono hj hji)
   obtain ⟨hjun,oj,hoj,hall⟩ := mem_ready.1 hj
   have hiun : listed.getD i false ≠ true := fun h' => by
    have h0 := (mem_ready.1 hr).1
    rcases Nat.lt_or_ge i listed.size with h2 | h2
    ·simp [h2] at h0 h';rw [h0] at h';cases h'
    ·simp [Array.getElem?_eq_none h2] at h'
   have hnl : late.contains j = false := by
    cases hc : late.contains j
    ·rfl
    ·exact absurd (waits_listed hdc n j oj hoj hall (hlate j hc)) hiun
   have hnot : ∀ e ∈ oj.after,Region.binds md e = true → e.on ≠ i := fun e he hb heq => hiun (heq ▸ hall e he hb)
   have h2 := wpOp_putIf hoj (hfree j oj hoj hji hjun hnot) (fun cs b => hsel i oi cs b hi) (fun cs b => hsel j oj cs b hoj) hQ hy h1
   have hfree' : ∀ k ok,ops[k]? = some ok → k ≠ i → (listed.setIfInBounds j true).getD k true = false →
     (∀ e ∈ ok.after,Region.binds md e = true → e.on ≠ i) → oi.apart ops ok = true := fun k ok hk hki hun hno => by
    refine hfree k ok hk hki ?_ hno
    by_cases hjk : j = k
    ·subst hjk;exact hjun
    ·rw [getD_set_ne true hjk] at hun;exact hun
   refine wpOp_mono (fun a' w' h3 => ⟨h3.2.1,ih (listed.setIfInBounds j true) a' w' (hdc.set hoj hall) hfree' (ready_mono hr (Ne.symm hji)) h3.1 (h3.2.1 hnl) ?_⟩) h2
   rw [Array.setIfInBounds_comm _ _ hji]
   exact h3.2.2
end
section
variable {P : Program} {T : List (Nat × Ty)} [hT : Tys P T] {nt : Nt} {ops : Array Oper} {Q : Exit → Act → World → Prop} {tm : List (Nat × Value)} {h h0 : Hs} {late : List Nat} {fuel : Nat} {listed : Array Bool} {todo mem : List Nat}
def regOk (ops : Array Oper) (listed : Array Bool) (late : List Nat) (i : Nat) : Bool := Region.noSelect ops && (Region.free .any ops listed i && ((Region.ready .any ops listed).contains i && late.all fun j => waits .any ops ops.size j i))
section
variable {P : Program} {nt : Nt} {ops : Array Oper} {Q : Exit → Act → World → Prop} [PanicOk Q] {tm : List (Nat × Value)} {h h0 : Hs} {late : List Nat} {fuel : Nat} {listed : Array Bool} {todo mem : List Nat} {d : Tmp} {op : Op} {ty : TypeId} {pos : String} {af : Array Edge} {v : Value} {j t : Nat} {want b : Bool}
end
end
/-! Entering and leaving -/
section
variable {P : Program} {T : List (Nat × Ty)} [hT : Tys P T] {nt : Nt} {tm : List (Nat × Value)} {h : Hs} {fn : Func} {R : Ending → World → Prop}
def slots : Nat → List Value → List (Nat × Value)
 | _,[] => []
 | n,v :: vs => (n,v) :: slots (n + 1) vs
theorem slots_lk : ∀ (vs : List Value) (n k : Nat) (v : Value),lk k (slots n vs) = some v → n ≤ k ∧ vs[k - n]? = some v
 | [],n,k,v,h => by simp [slots,lk] at h
 | u :: us,n,k,v,h => by
  simp only [slots,lk] at h
  cases hb : Nat.beq k n
  ·rw [hb] at h
   obtain ⟨h1,h2⟩ := slots_lk us (n + 1) k v h
   refine ⟨by omega,?_⟩
   rw [show k - n = (k - (n + 1)) + 1 by omega];simpa using h2
  ·rw [hb] at h
   have := Nat.eq_of_beq_eq_true hb
   subst this
   simpa using h
theorem Hp.init (w : World) : Hp ⟨(· < w.heap.size),w,[]⟩ w := ⟨Same.refl _ _,fun _ h => h,fun _ _ h => (by cases h),by simp,fun _ _ h => (by cases h)⟩
theorem calls_of_AW {f : FuncId} {c : Code} {vs : List Value} {w : World} (hf : P.funcs[f]? = some fn) (hb : fn.body = some c) (hn : fn.ntmps = nt.n) (hd : nt.d = []) (hv : Nat.ble vs.length nt = true) (hw : Hp h w) (k : AWc P nt (bodyPost P fn R) c (slots 0 vs) h) : Calls P f vs.toArray w R := by
 have hle : vs.length ≤ nt := by simpa using hv
 refine calls_of_wp hf hb (k.out _ w ⟨hd.symm,?_,?_⟩ hw).wp
 ·simp [hn];omega
 ·intro j v hj
  obtain ⟨_,h2⟩ := slots_lk vs 0 j v hj
  have hlt : j < vs.length := by
   rcases Nat.lt_or_ge j vs.length with h' | h'
   ·exact h'
   ·rw [Nat.sub_zero,List.getElem?_eq_none h'] at h2;cases h2
  rw [Nat.sub_zero] at h2
  simp [hlt,hn] at h2 ⊢
  rw [← h2]
  simp [Array.getElem?_append,hlt]
def resRun (tmps : Array Value) : ResultVar → Sem Value
 | .tmp t => pure (tmps.getD t undef)
 | .cell c t => do loadVar t (← asAddr (tmps.getD c undef))
theorem results_eq (fn : Func) (tmps : Array Value) : results fn tmps = (do let vs ← fn.results.mapM (resRun tmps);pure (if h : vs.size = 1 then vs[0] else .tuple vs)) := by
 unfold results
 congr 2
structure Res (P : Program) (nt : Nt) (tm : List (Nat × Value)) (h : Hs) (r : ResultVar) (v : Value) : Prop where
 out : ∀ (a : Act) w,Slt nt tm a → Hp h w → (resRun a.tmps r).run P w = .ok v w
theorem Res.tmp {t : Tmp} {v : Value} (ht : lk t tm = some v) : Res P nt tm h (.tmp t) v := ⟨fun a w ha _ => by
 have := ha.tm t v ht
 simp [resRun,this]⟩
theorem Res.cell {c : Tmp} {t : TypeId} {b o : Nat} {i : Ty} {vs : List Value} (hc : lk c tm = some (.pointer (some ⟨b,o,none⟩))) (ht : lk t T = some i) (hk : i.k.agg = true) (hcs : CellsA h b o vs) (hn : i.size = vs.length) : Res P nt tm h (.cell c t) (.agg vs.toArray) := ⟨fun a w ha hw => by
 have := ha.tm c _ hc
 have h2 := run_loadCells (P := P) (w := w) (b := b) vs o 0 #[] (fun j u hu => by simpa using hcs.out w hw j u hu)
 simp [resRun,this,asAddr,loadVar,(hT.ok t i ht).run_isAgg,hk,(hT.ok t i ht).run_size,hn,loadCells,h2]⟩
theorem Res.cell1 {c : Tmp} {t : TypeId} {b o : Nat} {i : Ty} {v : Value} (hc : lk c tm = some (.pointer (some ⟨b,o,none⟩))) (ht : lk t T = some i) (hk : i.k.agg = false) (hcs : CellA h b o v) : Res P nt tm h (.cell c t) v := ⟨fun a w ha hw => by
 have := ha.tm c _ hc
 simp [resRun,this,asAddr,loadVar,(hT.ok t i ht).run_isAgg,hk,hcs.out w hw]⟩
end
end Go.Proofs.YtjpaaaecbgmcgaaGreatDoor
/-
 A walk over named blocks: build,buildSlice,append,slice expressions.
-/
namespace Go.Proofs.YtjpaaaecbgmcgaaGreatDoor
open Go.RowKit
theorem fold_spl : ∀ (vs : List Value) (cells : Array Value) (off k : Nat),((vs.zipIdx k).foldl (fun cs (p : Value × Nat) => cs.setIfInBounds (off + p.2) p.1) cells).toList = spl cells.toList (off + k) vs
 | [],cells,off,k => by simp [spl_nil]
 | v :: vs,cells,off,k => by
  rw [List.zipIdx_cons,List.foldl_cons,fold_spl vs,spl_cons]
  simp [Nat.add_assoc]
def fillV (place : Nat → Option (Nat × Nat)) : List Value → List (Nat × Value) → Option (List Value)
 | cs,[] => some cs
 | cs,(i,v) :: r => match place i with
  | none => none
  | some (off,size) => bif Nat.beq (vcells v).length size && Nat.ble (off + (vcells v).length) cs.length then fillV place (spl cs off (vcells v)) r else none
theorem fill_eq (place : Nat → Option (Nat × Nat)) : ∀ (l : List (Nat × Value)) (cells : Array Value) (cs : List Value),fillV place cells.toList l = some cs → Instr.fill place cells l = some cs.toArray
 | [],cells,cs,h => by simp [fillV] at h;simp [Instr.fill,← h]
 | (i,v) :: r,cells,cs,h => by
  simp only [fillV] at h
  simp only [Instr.fill]
  cases hp : place i with
  | none => simp [hp] at h
  | some q =>
   obtain ⟨off,size⟩ := q
   simp only [hp] at h ⊢
   cases hb : (Nat.beq (vcells v).length size && Nat.ble (off + (vcells v).length) cells.toList.length)
   ·rw [hb] at h;simp at h
   ·rw [hb] at h
    simp only [cond_true] at h
    simp only [Bool.and_eq_true,Nat.beq_eq_true_eq,Nat.ble_eq] at hb
    have hsz : v.cells.size = (vcells v).length := by rw [← vcells_eq];simp
    rw [if_neg (by rw [hsz];simp;simp at hb;omega)]
    refine fill_eq place r _ cs ?_
    rw [← h]
    have := fold_spl v.cells.toList cells off 0
    rw [← vcells_eq]
    rw [← Array.foldl_toList,Array.toList_zipIdx]
    rw [this,Nat.add_zero]
inductive PartsL (tm : List (Nat × Value)) : List (Nat × Operand) → List (Nat × Value) → Prop
 | nil : PartsL tm [] []
 | cons {i : Nat} {x : Operand} {v : Value} {l : List (Nat × Operand)} {r : List (Nat × Value)} : ev tm x = some v → PartsL tm l r → PartsL tm ((i,x) :: l) ((i,v) :: r)
theorem PartsL.eq {nt : Nt} {tm : List (Nat × Value)} {a : Act} (ha : Slt nt tm a) {l : List (Nat × Operand)} {r : List (Nat × Value)} (p : PartsL tm l r) : l.map (fun q => (q.1,a.eval q.2)) = r := by
 induction p with
 | nil => rfl
 | cons hx _ ih => simp [ha.ev hx,ih]
def szs (T : List (Nat × Ty)) : List (Nat × TypeId) → Option (List (Nat × Nat))
 | [] => some []
 | (off,t) :: r => match lk t T,szs T r with
  | some i,some l => some ((off,i.size) :: l)
  | _,_ => none
theorem szs_run {P : Program} {T : List (Nat × Ty)} [hT : Tys P T] (w : World) : ∀ (fields : List Field) (ps : List (Nat × Nat)),szs T (fields.map fun f => (f.offset,f.type)) = some ps →
  (fields.mapM (fun f => do pure (f.offset,← sizeOf f.type) : Field → Sem (Nat × Nat))).run P w = .ok ps w
 | [],ps,h => by simp [szs] at h;simp [← h]
 | f :: fs,ps,h => by
  simp only [List.map_cons,szs] at h
  cases h1 : lk f.type T with
  | none => simp [h1] at h
  | some i =>
   cases h2 : szs T (fs.map fun f => (f.offset,f.type)) with
   | none => simp [h1,h2] at h
   | some l =>
    simp only [h1,h2,Option.some.injEq] at h
    have := szs_run (P := P) w fs l h2
    rw [List.mapM_cons,← h]
    simp only [Sem.run_bind,(hT.ok _ _ h1).run_size,Result.andThen_ok,Sem.run_pure,this]
section
variable {P : Program} {T : List (Nat × Ty)} [hT : Tys P T] {nt : Nt} {ops : Array Oper} {Q : Exit → Act → World → Prop} {tm : List (Nat × Value)} {h : Hs} {ty : TypeId} {pos : String} {af : Array Edge} {gd : Option (Nat × Bool)}
variable {F : Nat → Prop} {w0 : World} {hp : List (Nat × Hb)}
theorem Yd.build {d : Option Tmp} {t : TypeId} {parts : List (Nat × Operand)} {vs : List (Nat × Value)} {i : Ty} {fs : List (Nat × TypeId)} {ps : List (Nat × Nat)} {cs : List Value} (ht : lk t T = some i) (hk : i.k = .st fs) (hs : szs T fs = some ps) (hv : PartsL tm parts vs) (hf : fillV (nth ps) i.zero vs = some cs) :
  Yd P nt ⟨d,.build t parts.toArray,ty,pos,af,gd⟩ tm h (.agg cs.toArray) := ⟨fun a w ha _ => by
 have h1 := (hT.ok t i ht).kind
 rw [hk] at h1
 obtain ⟨fields,h2,h3⟩ := h1
 obtain ⟨z,hz1,hz2⟩ := (hT.ok t i ht).run_zero w
 rw [← h3] at hs
 have hm := szs_run (P := P) w fields.toList ps hs
 have hpl : (parts.toArray.map fun (q : Nat × Operand) => (q.1,a.eval q.2)) = vs.toArray := by rw [List.map_toArray,hv.eq ha]
 have hfill : Instr.fill (ps.toArray[·]?) z.cells vs = some cs.toArray := by
  refine fill_eq _ vs z.cells cs ?_
  rw [hz2,← hf]
  congr 1
  funext j
  simp [nth_eq]
 have hm' : (fields.mapM (fun f => do pure (f.offset,← sizeOf f.type) : Field → Sem (Nat × Nat))).run P w = .ok ps.toArray w := by
  rw [Array.mapM_eq_mapM_toList]
  simp only [map_eq_pure_bind,Sem.run_bind,hm,Result.andThen_ok,Sem.run_pure]
 have hpl' : (parts.toArray.map fun x => match x with | (j,x) => (j,a.eval x)) = vs.toArray := hpl
 simp only [execOp,Instr.build,Sem.run_bind,hz1,Result.andThen_ok,run_underlying h2,hm',hpl',hfill,Sem.run_pure]⟩
theorem OpS.buildSlice {d : Tmp} {t e : TypeId} {n : Nat} {parts : List (Nat × Operand)} {vs : List (Nat × Value)} {i j : Ty} {cs : List Value} {K : List (Nat × Value) → Hs → Prop} (ht : lk t T = some i) (hk : i.k = .sl e) (hj : lk e T = some j) (hn : Nat.ble (n * j.size) 16777216 = true) (hv : PartsL tm parts vs)
  (hf : fillV (fun m => some (m * j.size,j.size)) ((List.range (n * j.size)).map fun m => j.zero[m % j.zero.length]!) vs = some cs) (hd : Nat.blt d nt = true)
  (k : ∀ b,K ((d,.slice (some ⟨b,0,none⟩) n n) :: tm) ⟨F,w0,(b,⟨e,cs,cs.length⟩) :: hp⟩) : OpS P nt Q ⟨some d,.buildSlice t n parts.toArray,ty,pos,af,gd⟩ tm ⟨F,w0,hp⟩ K :=
 .of_run hd fun a w ha hw => by
  have h1 := (hT.ok t i ht).kind
  rw [hk] at h1
  have h1 : P.underlying t = some (.slice e) := h1
  obtain ⟨z,hz1,hz2⟩ := (hT.ok e j hj).run_zero w
  have hpl : (parts.toArray.map fun (q : Nat × Operand) => (q.1,a.eval q.2)) = vs.toArray := by rw [List.map_toArray,hv.eq ha]
  have hfill : Instr.fill (fun m => some (m * j.size,j.size)) ((Array.range (n * j.size)).map ((if n * j.size = 0 then #[] else z.cells)[· % (if n * j.size = 0 then (#[] : Array Value) else z.cells).size]!)) vs = some cs.toArray := by
   refine fill_eq _ vs _ cs ?_
   rw [← hf]
   congr 1
   by_cases h0 : n * j.size = 0
   ·simp [h0]
   ·simp only [h0,if_false,Array.toList_map,Array.toList_range]
    refine List.map_congr_left fun m _ => ?_
    rw [← hz2]
    simp only [getElem!_def,Array.length_toList,Array.getElem?_toList]
  refine ⟨_,_,_,?_,hw.alloc e cs.toArray,by simpa using k _⟩
  have hle : ¬ n * j.size > 2 ^ 24 := by simp at hn;omega
  have hpl' : (parts.toArray.map fun x => match x with | (j,x) => (j,a.eval x)) = vs.toArray := hpl
  by_cases h0 : n * j.size = 0
  ·simp only [h0,if_true] at hfill hle
   simp only [execOp,Instr.buildSlice,Sem.run_bind,run_underlying h1,Result.andThen_ok,(hT.ok e j hj).run_size,h0,hle,if_true,if_false,Sem.run_pure,hpl',hfill]
   simp [newRow]
  ·simp only [h0,if_false] at hfill
   simp only [execOp,Instr.buildSlice,Sem.run_bind,run_underlying h1,Result.andThen_ok,(hT.ok e j hj).run_size,h0,hle,if_false,Sem.run_pure,hz1,hpl',hfill]
   simp [newRow]
structure SrcA (h : Hs) (B : Option Addr) (news : List Value) : Prop where
 out : ∀ w,Hp h w → Rd w B news
theorem SrcA.nil {B : Option Addr} : SrcA h B [] := ⟨fun _ _ => Rd.nil⟩
inductive RemB (b : Nat) (x : Hb) : List (Nat × Hb) → List (Nat × Hb) → Prop
 | here {r : List (Nat × Hb)} : RemB b x ((b,x) :: r) r
 | there {p : Nat × Hb} {r r' : List (Nat × Hb)} : RemB b x r r' → RemB b x (p :: r) (p :: r')
theorem RemB.mem {b : Nat} {x : Hb} {r r' : List (Nat × Hb)} (u : RemB b x r r') : (b,x) ∈ r := by
 induction u with
 | here => exact List.mem_cons_self
 | there _ ih => exact List.mem_cons_of_mem _ ih
theorem RemB.sub {b : Nat} {x : Hb} {r r' : List (Nat × Hb)} (u : RemB b x r r') : r'.Sublist r := by
 induction u with
 | here => exact List.sublist_cons_self _ _
 | there _ ih => exact ih.cons_cons _
theorem RemB.ne {b : Nat} {x : Hb} {r r' : List (Nat × Hb)} (u : RemB b x r r') (hn : (r.map Prod.fst).Nodup) : ∀ c z,(c,z) ∈ r' → c ≠ b := by
 induction u with
 | here =>
  intro c z hz e
  simp only [List.map_cons,List.nodup_cons] at hn
  exact hn.1 (e ▸ List.mem_map_of_mem hz)
 | @there p r r' u ih =>
  intro c z hz
  simp only [List.map_cons,List.nodup_cons] at hn
  rcases List.mem_cons.1 hz with e | hz
  ·subst e
   exact fun e => hn.1 (by have := List.mem_map_of_mem (f := Prod.fst) u.mem;simpa [e] using this)
  ·exact ih hn.2 c z hz
theorem TyOk.slice {t e : TypeId} {i j : Ty} (ht : lk t T = some i) (hk : i.k = .sl e) (hj : lk e T = some j) (hz : j.zero.length = j.size) (hp : 0 < j.size) : SliceTy P t e j.size j.bytes := by
 have h1 := (hT.ok t i ht).kind
 rw [hk] at h1
 obtain ⟨f,z,h2,h3,h4,h5,h6⟩ := (hT.ok e j hj).info
 exact ⟨h1,⟨f,z,h2,h5,h3,h4,by rw [← hz,← h6];simp⟩,hp⟩
theorem Hp.grow {w w' : World} {hp' : List (Nat × Hb)} {b g : Nat} {x y : Hb} (hw : Hp ⟨F,w0,hp⟩ w) (u : RemB b x hp hp') (hg : w.grownBy w' (some b)) (hat : g = b ∨ g = w.heap.size) (hb : HasB w' g y) : Hp ⟨F,w0,(g,y) :: hp'⟩ w' := by
 have hk : ∀ c z,(c,z) ∈ hp' → c ≠ b := u.ne hw.nd
 have hnF : ¬ F b := hw.out b x u.mem
 refine ⟨hw.same.trans ⟨hg.os,hg.tape,hg.output,hg.size,fun c hc => hg.block c (hw.Flt hc) (fun e => hnF (by injection e with e;exact e ▸ hc))⟩,hw.inF,?_,?_,?_⟩
 ·intro c z hz
  rcases List.mem_cons.1 hz with e | hz
  ·injection e with e1 e2;subst e1 e2;exact hb
  ·have := hw.blk c z (u.sub.subset hz)
   exact this.of_block (hg.block c this.lt (fun e => hk c z hz (by injection e)))
 ·simp only [List.map_cons,List.nodup_cons]
  refine ⟨fun hm => ?_,(u.sub.map _).nodup hw.nd⟩
  obtain ⟨⟨c,z⟩,hz,e⟩ := List.mem_map.1 hm
  simp only at e
  subst e
  rcases hat with e | e
  ·exact hk _ _ hz e
  ·exact absurd (hw.blk c z (u.sub.subset hz)).lt (by omega)
 ·intro c z hz
  rcases List.mem_cons.1 hz with e | hz
  ·injection e with e1 e2
   subst e1 e2
   rcases hat with e | e
   ·rw [e];exact hnF
   ·exact fun hF => absurd (hw.Flt hF) (by omega)
  ·exact hw.out c z (u.sub.subset hz)
theorem own_hasB {w : World} {base : Nat} {e : TypeId} {size g n c : Nat} {xs : List Value} (ho : w.ownsRow base e size (.slice (some ⟨g,0,none⟩) n c) n xs) : HasB w g ⟨e,xs,c * size⟩ ∧ n ≤ c ∧ c ≤ maxLen := by
 rcases ho.2 with ⟨hv,_⟩ | ⟨g',cap,cur,hv,_,hh,h1,h2,h3,h4⟩
 ·cases hv
 ·injection hv with e1 e2 e3
  injection e1 with e1
  injection e1 with e1
  subst e1 e3
  refine ⟨⟨cur.toList.drop (n * size),?_,?_⟩,h1,h2⟩
  ·simp only [← h4,List.take_append_drop];simpa using hh
  ·have hl := ho.1
   simp only [hl,List.length_drop,Array.length_toList,h3]
   have := Nat.mul_le_mul_right size h1
   omega
theorem own_of_hasB {w : World} {e : TypeId} {size g n c : Nat} {xs : List Value} (hb : HasB w g ⟨e,xs,c * size⟩) (hl : xs.length = n * size) (hc : n ≤ c) (hm : c ≤ maxLen) : w.ownsRow 0 e size (.slice (some ⟨g,0,none⟩) n c) n xs := by
 obtain ⟨junk,h1,h2⟩ := hb
 refine ⟨hl,.inr ⟨g,c,_,rfl,Nat.zero_le _,h1,hc,hm,?_,?_⟩⟩
 ·simp only [List.size_toArray,List.length_append];exact h2
 ·simp only [← hl];simp
theorem OpS.appendNil {d : Tmp} {t e : TypeId} {x y : Operand} {m dd : Nat} {B : Option Addr} {news : List Value} {i : Ty} {jk : Tk} {js jb : Nat} {jz : List Value} {K : List (Nat × Value) → Hs → Prop} (hx : ev tm x = some (.slice none 0 0)) (hy : ev tm y = some (.slice B m dd)) (ht : lk t T = some i) (hk : i.k = .sl e) (hj : lk e T = some ⟨jk,js,jb,jz⟩) (hz : jz.length = js) (hpos : 0 < js)
  (hm : 0 < m) (hs : SrcA ⟨F,w0,hp⟩ B news) (hln : news.length = m * js) (h1 : ∀ u ∈ news,u.oneCell' = true) (hb : m * jb ≤ 140737488355328) (hmx : m ≤ maxLen) (hd : Nat.blt d nt = true)
  (k : ∀ b' c',m ≤ c' → c' ≤ maxLen → K ((d,.slice (some ⟨b',0,none⟩) m c') :: tm) ⟨F,w0,(b',⟨e,news,c' * js⟩) :: hp⟩) :
  OpS P nt Q ⟨some d,.call ⟨.builtin .append,#[x,y],#[t,t]⟩,ty,pos,af,gd⟩ tm ⟨F,w0,hp⟩ K :=
 .of_run hd fun a w ha hw => by
  have ho := World.ownsRow_nil w 0 e js
  obtain ⟨A',c',w',hrun,h2,h3,h4⟩ := run_app (TyOk.slice (P := P) ht hk hj hz hpos) ty ho (hs.out w hw) hln h1 (by omega) (by rw [Nat.zero_add];exact hb) (Nat.zero_le _) (d := dd)
  rw [Nat.zero_add] at hrun h2 h4
  have hA : ∃ g,A' = some ⟨g,0,none⟩ ∧ g = w.heap.size := by
   rcases h2.2 with ⟨hv,h0⟩ | ⟨g,cap,cur,hv,_⟩
   ·omega
   ·injection hv with e1 e2 e3
    subst e1
    exact ⟨g,rfl,by simpa [Value.ownBlock] using h4⟩
  obtain ⟨g,rfl,rfl⟩ := hA
  obtain ⟨q1,q2,q3⟩ := own_hasB h2
  have hbel : Below w.heap.size w w' := ⟨h3.os,h3.tape,h3.output,h3.size,fun c hc => h3.block c hc (by simp [Value.ownBlock])⟩
  rw [List.nil_append] at q1
  refine ⟨_,w',_,?_,hw.add hbel (Nat.le_refl _) q1,k _ c' q2 q3⟩
  simp [execOp,resolve,invoke,builtin,ha.ev hx,ha.ev hy,hrun]
theorem Yd.appendNone {d : Option Tmp} {t e : TypeId} {x y : Operand} {A B : Option Addr} {n c dd : Nat} {i j : Ty} (hx : ev tm x = some (.slice A n c)) (hy : ev tm y = some (.slice B 0 dd)) (ht : lk t T = some i) (hk : i.k = .sl e) (hj : lk e T = some j) (hc : n ≤ c) :
  Yd P nt ⟨d,.call ⟨.builtin .append,#[x,y],#[t,t]⟩,ty,pos,af,gd⟩ tm h (.slice A n c) := ⟨fun a w ha _ => by
 have h1 := (hT.ok t i ht).kind
 rw [hk] at h1
 have h1 : P.underlying t = some (.slice e) := h1
 have : (Builtin.append_ #[t,t] ty #[.slice A n c,.slice B 0 dd]).run P w = .ok (.slice A n c) w := by
  cases A <;> cases B <;> simp [Builtin.append_,run_underlying h1,(hT.ok e j hj).run_size,Builtin.lenOf,Builtin.firstCells,hc,storeCells,loadCells,loadCellsFrom]
 simp [execOp,resolve,invoke,builtin,ha.ev hx,ha.ev hy,this]⟩
section
variable {d : Option Tmp} {t e : TypeId} {x lo hi : Operand} {b o n c : Nat} {k k' : IntKind} {l m : Nat} {i : Ty} {jk : Tk} {js jb : Nat} {jz : List Value}
theorem run_slice_aux {w : World} {A : Option Addr} (ht : lk t T = some i) (hk : i.k = .sl e) (hj : lk e T = some ⟨jk,js,jb,jz⟩) {lo hi : Option Value} {l m c n : Nat} (hlo : (lo = none ∧ l = 0) ∨ ∃ k,lo = some (.int k (l : Int))) (hhi : (hi = none ∧ m = n) ∨ ∃ k,hi = some (.int k (m : Int))) (h1 : l ≤ m) (h2 : m ≤ c) :
  (Instr.sliceAt t (.slice A n c) lo hi none).run P w = .ok (.slice (if c = l then A else A.map (·.add (l * js))) (m - l) (c - l)) w := by
 have hu := (hT.ok t i ht).kind
 rw [hk] at hu
 have hu : P.underlying t = some (.slice e) := hu
 rcases hlo with ⟨rfl,rfl⟩ | ⟨kl,rfl⟩ <;> rcases hhi with ⟨rfl,rfl⟩ | ⟨kh,rfl⟩
 ·simp [Instr.sliceAt,Instr.slice,Instr.sliceBounds,run_underlying hu,(hT.ok e _ hj).run_size]
 ·simp [Instr.sliceAt,Instr.slice,Instr.sliceBounds,Instr.sliceBound,asIntOf,run_underlying hu,(hT.ok e _ hj).run_size,h2]
 ·simp [Instr.sliceAt,Instr.slice,Instr.sliceBounds,Instr.sliceBound,asIntOf,run_underlying hu,(hT.ok e _ hj).run_size,h1]
 ·simp [Instr.sliceAt,Instr.slice,Instr.sliceBounds,Instr.sliceBound,asIntOf,run_underlying hu,(hT.ok e _ hj).run_size,h1,h2]
end
end
end Go.Proofs.YtjpaaaecbgmcgaaGreatDoor
/-
 A walk over named blocks: the table of types is checked by the kernel.
-/
namespace Go.Proofs.YtjpaaaecbgmcgaaGreatDoor
open Go.RowKit
def vEqb : Value → Value → Bool
 | .bool a,.bool b => a == b
 | .int k a,.int k' b => k == k' && a == b
 | .string a,.string b => a.data.isEmpty && b.data.isEmpty
 | .pointer none,.pointer none => true
 | .slice none a b,.slice none c d => a == c && b == d
 | .map none,.map none => true
 | .nilFunc,.nilFunc => true
 | .nilIface,.nilIface => true
 | _,_ => false
theorem vEqb_eq {a b : Value} (h : vEqb a b = true) : a = b := by
 unfold vEqb at h
 split at h
 ·rw [eq_of_beq h]
 ·simp only [Bool.and_eq_true] at h;rw [eq_of_beq h.1,eq_of_beq h.2]
 ·rename_i a b
  obtain ⟨a⟩ := a
  obtain ⟨b⟩ := b
  simp at h
  rw [h.1,h.2]
 ·rfl
 ·simp only [Bool.and_eq_true] at h;rw [eq_of_beq h.1,eq_of_beq h.2]
 ·rfl
 ·rfl
 ·rfl
 ·cases h
def vsEqb : List Value → List Value → Bool
 | [],[] => true
 | a :: l,b :: r => vEqb a b && vsEqb l r
 | _,_ => false
theorem vsEqb_eq : ∀ {l r : List Value},vsEqb l r = true → l = r
 | [],[],_ => rfl
 | a :: l,b :: r,h => by
  simp only [vsEqb,Bool.and_eq_true] at h
  rw [vEqb_eq h.1,vsEqb_eq h.2]
 | [],_ :: _,h => by simp [vsEqb] at h
 | _ :: _,[],h => by simp [vsEqb] at h
def kChk : TypeDesc → Tk → Bool
 | .struct f,.st fs => (f.toList.map fun f => (f.offset,f.type)) == fs
 | .array n e,.ar n' e' => n == n' && e == e'
 | .slice e,.sl e' => e == e'
 | .map k e,.mp k' e' => k == k' && e == e'
 | .int k,.in_ k' => k == k'
 | .bool,.bo => true
 | .string,.sr => true
 | .pointer e,.pt e' => e == e'
 | .func _ _ _,.ot => true
 | .interface _,.ot => true
 | _,_ => false
def tyChk (P : Program) (t : TypeId) (i : Ty) : Bool := match P.info? t,P.underlying t with
 | some f,some d => f.size == i.size && (f.bytes == i.bytes && ((match f.zero with | some z => vsEqb z.cells.toList i.zero | none => false) && kChk d i.k))
 | _,_ => false
theorem tyChk_ok {P : Program} {t : TypeId} {i : Ty} (h : tyChk P t i = true) : TyOk P t i := by
 unfold tyChk at h
 cases hf : P.info? t with
 | none => simp [hf] at h
 | some f =>
  cases hd : P.underlying t with
  | none => simp [hf,hd] at h
  | some d =>
   simp only [hf,hd,Bool.and_eq_true] at h
   obtain ⟨h1,h2,h3,h4⟩ := h
   cases hz : f.zero with
   | none => simp [hz] at h3
   | some z =>
    simp only [hz] at h3
    refine ⟨⟨f,z,hf,eq_of_beq h1,eq_of_beq h2,hz,vsEqb_eq h3⟩,?_⟩
    obtain ⟨k,s,b,zz⟩ := i
    simp only at h4
    unfold kChk at h4
    split at h4
    ·exact ⟨_,hd,eq_of_beq h4⟩
    ·simp only [Bool.and_eq_true] at h4;rw [eq_of_beq h4.1,eq_of_beq h4.2] at hd;exact hd
    ·rw [eq_of_beq h4] at hd;exact hd
    ·simp only [Bool.and_eq_true] at h4;rw [eq_of_beq h4.1,eq_of_beq h4.2] at hd;exact hd
    ·rw [eq_of_beq h4] at hd;exact hd
    ·exact hd
    ·exact hd
    ·rw [eq_of_beq h4] at hd;exact hd
    ·exact ⟨_,hd,by simp,by simp⟩
    ·exact ⟨_,hd,by simp,by simp⟩
    ·cases h4
theorem tys_of {P : Program} {T : List (Nat × Ty)} (h : (T.all fun p => tyChk P p.1 p.2) = true) (mo : P.follows .mixedOrders = true) : Tys P T :=
 ⟨fun t i ht => tyChk_ok (List.all_eq_true.1 h (t,i) (lk_mem ht)),mo⟩
end Go.Proofs.YtjpaaaecbgmcgaaGreatDoor
/-
 A walk over named blocks: rows of the call's own that may be nil.
-/
namespace Go.Proofs.YtjpaaaecbgmcgaaGreatDoor
open Go.RowKit
def hbA (A : Option Addr) (e : TypeId) (xs : List Value) (c size : Nat) : List (Nat × Hb) := match A with
 | none => []
 | some a => [(a.block,⟨e,xs,c * size⟩)]
structure OkA (A : Option Addr) (xs : List Value) (n c size : Nat) : Prop where
 form : (A = none ∧ n = 0 ∧ c = 0) ∨ ∃ g,A = some ⟨g,0,none⟩
 len : xs.length = n * size
 cap : n ≤ c
 max : c ≤ maxLen
theorem OkA.nil (size : Nat) : OkA none [] 0 0 size := ⟨.inl ⟨rfl,rfl,rfl⟩,by simp,by simp,by simp⟩
theorem OkA.of_own {w : World} {base : Nat} {e : TypeId} {size n c : Nat} {A : Option Addr} {xs : List Value} (h : w.ownsRow base e size (.slice A n c) n xs) : OkA A xs n c size := by
 rcases h.2 with ⟨hv,h0⟩ | ⟨g,cap,cur,hv,_,_,h1,h2,_⟩
 ·injection hv with e1 e2 e3
  subst e1 e2 e3
  exact ⟨.inl ⟨rfl,rfl,rfl⟩,h.1,Nat.le_refl _,Nat.zero_le _⟩
 ·injection hv with e1 e2 e3
  subst e1 e3
  exact ⟨.inr ⟨g,rfl⟩,h.1,h1,h2⟩
inductive RowAt (X : List (Nat × Hb)) : List (Nat × Hb) → (List (Nat × Hb) → List (Nat × Hb)) → Prop
 | here {r : List (Nat × Hb)} : RowAt X (X ++ r) (fun Y => Y ++ r)
 | there {p : Nat × Hb} {r : List (Nat × Hb)} {f : List (Nat × Hb) → List (Nat × Hb)} : RowAt X r f → RowAt X (p :: r) (fun Y => p :: f Y)
 | skip {l r : List (Nat × Hb)} {f : List (Nat × Hb) → List (Nat × Hb)} : RowAt X r f → RowAt X (l ++ r) (fun Y => l ++ f Y)
section
variable {X hp : List (Nat × Hb)} {f : List (Nat × Hb) → List (Nat × Hb)}
theorem RowAt.eq (r : RowAt X hp f) : f X = hp := by
 induction r with
 | here => rfl
 | there _ ih => simp [ih]
 | skip _ ih => simp [ih]
theorem RowAt.perm (r : RowAt X hp f) : ∀ Y,(f Y).Perm (Y ++ f []) := by
 induction r with
 | here => intro Y;simp
 | @there p r f _ ih => intro Y;exact ((ih Y).cons p).trans List.perm_middle.symm
 | @skip l r f _ ih =>
  intro Y
  refine ((ih Y).append_left l).trans ?_
  simp only [← List.append_assoc]
  exact (List.perm_append_comm).append_right _
end
theorem Hp.perm {F : Nat → Prop} {w0 w : World} {hp hp' : List (Nat × Hb)} (hw : Hp ⟨F,w0,hp⟩ w) (p : hp.Perm hp') : Hp ⟨F,w0,hp'⟩ w :=
 ⟨hw.same,hw.inF,fun b x hx => hw.blk b x (p.mem_iff.2 hx),(p.map _).nodup_iff.1 hw.nd,fun b x hx => hw.out b x (p.mem_iff.2 hx)⟩
section
variable {F : Nat → Prop} {w0 w w' : World} {hp : List (Nat × Hb)} {f : List (Nat × Hb) → List (Nat × Hb)} {A A' : Option Addr} {e : TypeId} {xs ys : List Value} {n m c c' size : Nat}
theorem Hp.row (hw : Hp ⟨F,w0,hp⟩ w) (r : RowAt (hbA A e xs c size) hp f) (ha : OkA A xs n c size) : w.ownsRow 0 e size (.slice A n c) n xs := by
 rcases ha.form with ⟨rfl,rfl,rfl⟩ | ⟨g,rfl⟩
 ·have : xs = [] := List.eq_nil_of_length_eq_zero (by rw [ha.len];simp)
  subst this
  exact World.ownsRow_nil _ _ _ _
 ·have hm : (g,(⟨e,xs,c * size⟩ : Hb)) ∈ hp := by
   have := (r.perm (hbA (some ⟨g,0,none⟩) e xs c size)).mem_iff (a := (g,(⟨e,xs,c * size⟩ : Hb)))
   rw [r.eq] at this
   exact this.2 (by simp [hbA])
  exact own_of_hasB (hw.blk _ _ hm) ha.len ha.cap ha.max
theorem Hp.rowGrow (hw : Hp ⟨F,w0,hp⟩ w) (r : RowAt (hbA A e xs c size) hp f) (ha : OkA A xs n c size) (hg : w.grownBy w' (Value.slice A n c).ownBlock) (ho : w'.ownsRow 0 e size (.slice A' m c') m ys)
  (hat : (Value.slice A' m c').ownBlock = (Value.slice A n c).ownBlock ∨ (Value.slice A' m c').ownBlock = some w.heap.size) : Hp ⟨F,w0,f (hbA A' e ys c' size)⟩ w' := by
 have h1 : Hp ⟨F,w0,hbA A e xs c size ++ f []⟩ w := hw.perm (by have := r.perm (hbA A e xs c size);rwa [r.eq] at this)
 refine Hp.perm (hp := hbA A' e ys c' size ++ f []) ?_ (r.perm _).symm
 have ho' := OkA.of_own ho
 rcases ha.form with ⟨rfl,rfl,rfl⟩ | ⟨g,rfl⟩
 ·have hb : Below w.heap.size w w' := ⟨hg.os,hg.tape,hg.output,hg.size,fun k hk => hg.block k hk (by simp [Value.ownBlock])⟩
  rcases ho'.form with ⟨rfl,rfl,rfl⟩ | ⟨g',rfl⟩
  ·exact h1.below hb
  ·obtain ⟨q1,_,_⟩ := own_hasB ho
   have hge : g' = w.heap.size := by simpa [Value.ownBlock] using hat
   exact Hp.add (by simpa [hbA] using h1) hb (by dsimp only;omega) q1
 ·rcases ho'.form with ⟨rfl,rfl,rfl⟩ | ⟨g',rfl⟩
  ·simp [Value.ownBlock] at hat
  ·obtain ⟨q1,_,_⟩ := own_hasB ho
   have hge : g' = g ∨ g' = w.heap.size := by simpa [Value.ownBlock] using hat
   exact Hp.grow (b := g) (by simpa [hbA] using h1) RemB.here (by simpa [Value.ownBlock] using hg) hge q1
theorem SrcA.row (r : RowAt (hbA A e xs c size) hp f) (ha : OkA A xs n c size) : SrcA ⟨F,w0,hp⟩ A xs := ⟨fun w hw => Rd.of_own (hw.row r ha)⟩
end
section
variable {P : Program} {T : List (Nat × Ty)} [hT : Tys P T] {nt : Nt} {ops : Array Oper} {Q : Exit → Act → World → Prop} {tm : List (Nat × Value)} {h : Hs} {ty : TypeId} {pos : String} {af : Array Edge} {gd : Option (Nat × Bool)}
variable {F : Nat → Prop} {w0 : World} {hp : List (Nat × Hb)}
theorem OpS.appendA {d : Tmp} {t e : TypeId} {x y : Operand} {A B : Option Addr} {n c m dd : Nat} {xs news : List Value} {i : Ty} {jk : Tk} {js jb : Nat} {jz : List Value} {f : List (Nat × Hb) → List (Nat × Hb)} {K : List (Nat × Value) → Hs → Prop} (hx : ev tm x = some (.slice A n c)) (hy : ev tm y = some (.slice B m dd)) (ht : lk t T = some i) (hk : i.k = .sl e) (hj : lk e T = some ⟨jk,js,jb,jz⟩) (hz : jz.length = js) (hpos : 0 < js)
  (ha : OkA A xs n c js) (r : RowAt (hbA A e xs c js) hp f) (hs : SrcA ⟨F,w0,hp⟩ B news) (hln : news.length = m * js) (h1 : ∀ u ∈ news,u.oneCell' = true) (hb : (n + m) * jb ≤ 140737488355328) (hmx : n + m ≤ maxLen) (hd : Nat.blt d nt = true)
  (k : ∀ A' c',OkA A' (xs ++ news) (n + m) c' js → K ((d,.slice A' (n + m) c') :: tm) ⟨F,w0,f (hbA A' e (xs ++ news) c' js)⟩) :
  OpS P nt Q ⟨some d,.call ⟨.builtin .append,#[x,y],#[t,t]⟩,ty,pos,af,gd⟩ tm ⟨F,w0,hp⟩ K :=
 .of_run hd fun a w ha' hw => by
  have ho := hw.row r ha
  obtain ⟨A',c',w',hrun,h2,h3,h4⟩ := run_app (TyOk.slice (P := P) ht hk hj hz hpos) ty ho (hs.out w hw) hln h1 hmx hb (Nat.zero_le _) (d := dd)
  refine ⟨_,w',_,?_,hw.rowGrow r ha h3 h2 h4,k A' c' (OkA.of_own h2)⟩
  simp [execOp,resolve,invoke,builtin,ha'.ev hx,ha'.ev hy,hrun]
theorem AWc.loopS {ι : Type} {c : Code} (Φ : ι → Prop) (m : ι → Nat) (tS : ι → List (Nat × Value)) (hS : ι → Hs) (x0 : ι) (h0 : Φ x0) (s : SubT tm (tS x0)) (hh : ∀ w,Hp h w → Hp (hS x0) w)
  (k : ∀ x,Φ x → AWc P nt (Exit.then (Rnd nt Φ m tS hS (m x)) Q) c (tS x) (hS x)) : AWc P nt Q (.loop c) tm h := ⟨fun a w ha hw => (AWc.loop Φ m tS hS x0 h0 k).out a w (ha.sub s) (hh w hw)⟩
end
end Go.Proofs.YtjpaaaecbgmcgaaGreatDoor
