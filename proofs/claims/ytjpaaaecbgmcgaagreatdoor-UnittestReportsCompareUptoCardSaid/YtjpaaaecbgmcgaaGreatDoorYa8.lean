/-
  Part 8 of the proofs of ureport_holds, ucompare_holds, ureports_holds: laws and contracts that they need.
-/
import Derived.Test.YtjpaaaecbgmcgaaGreatDoorYa7
import Derived.Deep.Slices
import Derived.Deep.Fields
import Derived.ChangeSame
import Derived.Lib.SmallJoins
set_option linter.unusedVariables false
set_option linter.unusedSimpArgs false
namespace Go.Proofs.YtjpaaaecbgmcgaaGreatDoor
open Go.RowKit
inductive OF where
 | nil
 | alt (i : Nat) (s r : OF)
 | fst (i : Nat) (s : OF)
def OF.heads : OF → List Nat
 | .nil => []
 | .alt i _ r => i :: r.heads
 | .fst _ _ => []
def OF.depth : OF → Nat
 | .nil => 0
 | .alt _ s r => max (s.depth + 1) r.depth
 | .fst _ s => s.depth + 1
def OF.chk (ops : Array Oper) (late free : List Nat) : OF → Bool → Array Bool → Bool
 | .nil,top,listed => bif top then Region.ready .any ops listed == [] else true
 | .alt i s r,top,listed => (bif top then Region.ready .any ops listed == (OF.alt i s r).heads else true) && ((late.contains i && !free.contains i) && (s.chk ops late free true (listed.setIfInBounds i true) && r.chk ops late free false listed))
 | .fst i s,top,listed => (top && (free.contains i && regOk ops listed [] i)) && (dstAt ops i && s.chk ops late free true (listed.setIfInBounds i true))
section
variable (P : Program) (T : List (Nat × Ty)) (nt : Nt)
def ixT (op : Op) (tm : List (Nat × SV)) (ob : List (Nat × Ob)) (K : SV → Prop) : Option Prop := match op with
 | .indexAddr t x ix => match evT tm ix with
  | some (.d (.u (.int _ i))) => match lk t T with
   | none => none
   | some ti => match ti.k with
    | .sl e => match lk e T with
     | none => none
     | some j => match evT tm x with
      | some (.d (.ow k n)) => bif szT ob j.size (.d (.ow k n)) then some (Ixo n i fun m => K (.d (.e k m 0))) else none
      | _ => none
    | _ => none
  | _ => none
 | _ => none
def vcYW (o : Oper) (tm : List (Nat × SV)) (ob : List (Nat × Ob)) (K : Kt) : Prop := match ixT T o.op tm ob (fun s => putT nt o.dst s tm ob K) with
 | some p => p
 | none => vcYF P T nt o tm ob K
end
section
variable {P : Program} {T : List (Nat × Ty)} [hT : Tys P T] {nt : Nt} {c : Cx} {st : St} {tm : List (Nat × Value)} {h : Hs} {ρ : Rho} {G : FG} {ty : TypeId} {pos : String} {af : Array Edge} {gd : Option (Nat × Bool)} {d : Option Tmp}
theorem ixT_sound (g : Gd c st tm h ρ G) {op : Op} {K : SV → Prop} {p : Prop} (hy : ixT T op st.tm st.ob K = some p) (hp : p) : ∃ s v,(∀ h',Yd P nt ⟨d,op,ty,pos,af,gd⟩ tm h' v) ∧ DenS ρ ⟨G,h.w0⟩ s v ∧ K s := by
 unfold ixT at hy
 split at hy
 ·split at hy
  ·rename_i ik i hix
   split at hy
   ·cases hy
   ·rename_i ti ht
    split at hy
    ·rename_i e hk
     split at hy
     ·cases hy
     ·rename_i j hj
      obtain ⟨jk,js,jb,jz⟩ := j
      have e2 := evT_int g hix
      split at hy
      ·rename_i k n hx
       cases hb : szT st.ob js (.d (.ow k n)) <;> simp only [hb,cond_false,cond_true] at hy
       ·cases hy
       ·injection hy with hy;subst hy
        obtain ⟨m,rfl,hm,hp⟩ := hp.out
        obtain ⟨v,q1,q2⟩ := g.ev hx
        cases q2 with | d q2 => cases q2 with | @ow _ _ l h0 hA hnc =>
        obtain ⟨hls,hform⟩ := szT_at g hb h0
        obtain ⟨A,cc,lsz⟩ := l
        dsimp only at hls
        subst hls
        rcases hform with h1 | ⟨b,h1⟩ <;> dsimp only at h1 <;> subst h1
        ·have := hA rfl;omega
        ·refine ⟨_,_,fun h' => ?_,.d (.e (o := 0) h0),hp⟩
         have := Yd.indexNat (P := P) (nt := nt) (h := h') (d := d) (ty := ty) (pos := pos) (af := af) (gd := gd) q1 e2 ht hk hj hm
         rw [Nat.zero_add] at this
         exact this
      ·cases hy
    ·cases hy
  ·cases hy
 ·cases hy
end
section
variable (P : Program) (T : List (Nat × Ty)) (nt : Nt)
def vcGF (ops : Array Oper) (i : Nat) (X : Kt) : Kt := fun tm ob => match nth ops.toList i with
 | none => False
 | some o => match o.guard with
  | none => vcYW P T nt o tm ob X
  | some (j,want) => match gdT ops j with
   | none => False
   | some t => match lk t tm with
    | some (.d (.u (.bool b))) => match want with
     | true => Brn b (vcYW P T nt o tm ob X) (skipT nt o.dst tm ob X)
     | false => Brn b (skipT nt o.dst tm ob X) (vcYW P T nt o tm ob X)
    | some (.t []) => skipT nt o.dst tm ob X
    | _ => False
def vcOF (ops : Array Oper) (K : Kt) : OF → Kt
 | .nil,tm,ob => K tm ob
 | .fst i s,tm,ob => vcGF P T nt ops i (vcOF ops K s) tm ob
 | .alt i s .nil,tm,ob => vcG P T nt ops i (vcOF ops K s) tm ob
 | .alt i s (.alt j s' r),tm,ob => vcG P T nt ops i (vcOF ops K s) tm ob ∧ vcOF ops K (.alt j s' r) tm ob
 | .alt _ _ (.fst _ _),_,_ => False
end
section
variable {P : Program} {T : List (Nat × Ty)} [hT : Tys P T] {nt : Nt} {ops : Array Oper} {Q : Exit → Act → World → Prop} {late free : List Nat} {c : Cx} {K : Kt}
omit hT in
theorem vcOF_alt {i : Nat} {s r : OF} {tm : List (Nat × SV)} {ob : List (Nat × Ob)} (k : vcOF P T nt ops K (.alt i s r) tm ob) : vcG P T nt ops i (vcOF P T nt ops K s) tm ob ∧ (r ≠ .nil → vcOF P T nt ops K r tm ob) := by
 cases r with
 | nil => exact ⟨k,fun h => absurd rfl h⟩
 | alt j s' r => exact ⟨k.1,fun _ => k.2⟩
 | fst j s' => exact k.elim
theorem vcOF_sound [q : PanicOk Q] (hK : ∀ st tm h ρ G,Gd c st tm h ρ G → K st.tm st.ob → AWq nt Q .normal tm h) : ∀ (t : OF) (listed : Array Bool) (fuel : Nat) (S : World → Prop) (st : St) (tm : List (Nat × Value)) (h : Hs) (ρ : Rho) (G : FG),t.depth ≤ fuel → DC .any ops listed → Gd c st tm h ρ G → vcOF P T nt ops K t st.tm st.ob → ∀ (a : Act) (w : World),Slt nt tm a → Hp h w →
  (t.chk ops late free true listed = true → wpAnyX P .any ops Q S (Frn h) late free fuel listed a w) ∧ (∀ f,fuel = f + 1 → t.chk ops late free false listed = true → ∀ i ∈ t.heads,i ∈ Region.ready .any ops listed → wpOp P ops Q i (fun a' w' => (((free.contains i = true → w' = w) ∧ (late.contains i = false → free.contains i = false → S w')) ∧ Frn h w') ∧ wpAnyX P .any ops Q S (Frn h) late free f (listed.setIfInBounds i true) a' w') a w)
 | .nil,listed,fuel,S,st,tm,h,ρ,G,hf,hdc,g,k,a,w,ha,hw => by
  refine ⟨fun hc => ?_,fun f _ _ i hi => by cases hi⟩
  have hr : Region.ready .any ops listed = [] := by simpa [OF.chk] using hc
  have hq := (hK st tm h ρ G g k).out a w ha hw
  cases fuel with
  | zero => exact ⟨hr,hq⟩
  | succ n => exact ⟨fun _ => hq,by rw [hr];simp⟩
 | .alt i s r,listed,fuel,S,st,tm,h,ρ,G,hf,hdc,g,k,a,w,ha,hw => by
  obtain ⟨k1,k2⟩ := vcOF_alt k
  simp only [OF.depth] at hf
  have two : ∀ f,fuel = f + 1 → (OF.alt i s r).chk ops late free false listed = true → ∀ j ∈ (OF.alt i s r).heads,j ∈ Region.ready .any ops listed → wpOp P ops Q j (fun a' w' => (((free.contains j = true → w' = w) ∧ (late.contains j = false → free.contains j = false → S w')) ∧ Frn h w') ∧ wpAnyX P .any ops Q S (Frn h) late free f (listed.setIfInBounds j true) a' w') a w := by
   intro f hfu hc j hj hrj
   simp only [OF.chk,cond_false,Bool.true_and,Bool.and_eq_true,Bool.not_eq_true'] at hc
   obtain ⟨⟨lt1,lt2⟩,hcs,hcr⟩ := hc
   rcases List.mem_cons.1 hj with rfl | hj
   ·obtain ⟨_,o,hoj,hdep⟩ := mem_ready.1 hrj
    exact vcG_sound g.recx k1 (fun tm' h' ⟨st',ρ',G',h2,hh,g',k'⟩ a' w' ha' hw' => ⟨⟨⟨fun hn => (by rw [lt2] at hn;cases hn),fun hn => (by rw [lt1] at hn;cases hn)⟩,Frn.back hw g' (hh w' hw').frn⟩,
     wpAnyX_mono (fun _ h => h) (fun w2 hw2 => Frn.back hw g' hw2) _ _ _ _ ((vcOF_sound hK s _ f S st' tm' h2 ρ' G' (by omega) (hdc.set hoj hdep) (g.back g') k' a' w' ha' (hh w' hw')).1 hcs)⟩) a w ha hw
   ·have hne : r ≠ .nil := fun e => by subst e;cases hj
    exact (vcOF_sound hK r listed fuel S st tm h ρ G (by omega) hdc g (k2 hne) a w ha hw).2 f hfu hcr j hj hrj
  refine ⟨fun hc => ?_,two⟩
  simp only [OF.chk,cond_true,Bool.and_eq_true] at hc
  have hr : Region.ready .any ops listed = (OF.alt i s r).heads := eq_of_beq hc.1
  cases fuel with
  | zero => omega
  | succ n =>
   refine ⟨fun h' => (by rw [hr] at h';cases h'),fun j hj => ?_⟩
   have hj0 := hj
   rw [hr] at hj
   exact two n rfl (by simp only [OF.chk,cond_false,Bool.true_and,Bool.and_eq_true];exact hc.2) j hj hj0
 | .fst i s,listed,fuel,S,st,tm,h,ρ,G,hf,hdc,g,k,a,w,ha,hw => by
  refine ⟨fun hc => ?_,fun f _ _ i hi => by cases hi⟩
  simp only [OF.chk,Bool.true_and,Bool.and_eq_true,regOk] at hc
  obtain ⟨⟨hfr,b1,b2,b3,_⟩,hds,hcs⟩ := hc
  simp only [OF.depth] at hf
  cases fuel with
  | zero => omega
  | succ fuel =>
  have hr' : i ∈ Region.ready .any ops listed := by simpa using b3
  obtain ⟨_,o,hoj,hdep⟩ := mem_ready.1 hr'
  have hdc' := hdc.set hoj hdep
  have hdd : ∃ d,o.dst = some d := by
   simp only [dstAt,hoj] at hds
   exact Option.isSome_iff_exists.1 hds
  obtain ⟨d0,hd0⟩ := hdd
  have hn : nth ops.toList i = some o := by rw [nth_eq];simpa using hoj
  simp only [vcOF,vcGF,hn] at k
  obtain ⟨d,op,ty,pos,af,gu⟩ := o
  simp only at hd0
  subst hd0
  rcases vcR_guard (X := vcOF P T nt ops K s) (i := i) g a ha k with ⟨hw1,k1⟩ | ⟨hw1,k1⟩
  ·simp only [vcYW] at k1
   cases hi : ixT T op st.tm st.ob (fun z => putT nt (some d0) z st.tm st.ob (vcOF P T nt ops K s)) with
   | some p =>
    simp only [hi] at k1
    obtain ⟨z,v,q1,q2,q3⟩ := ixT_sound g hi k1 (P := P) (nt := nt) (ty := ty) (pos := pos) (af := af) (gd := gu) (d := some d0)
    simp only [putT] at q3
    cases hd : Nat.blt d0 nt
    ·rw [hd] at q3;exact q3.elim
    ·rw [hd] at q3
     have hrest := (vcOF_sound hK s _ fuel S _ _ h ρ G (by omega) hdc' (g.put (d := d0) q2) q3 _ w (ha.put (by simpa using hd) v) hw).1 hcs
     exact wpAnyX_free hoj (Region.noSelect_spec b1) (fun c a w hq => q.ok c a _ _ w hq) hfr fuel listed a w hdc (Region.free_spec hoj b2) hr' (.inl ⟨hw1,fun w' hw' => (q1 ⟨h.F,h.w0,[]⟩).out a w' ha hw'⟩) hw.frn hrest
   | none =>
   simp only [hi,vcYF] at k1
   cases hy : vcY P T op st.tm [] (fun z => putT nt (some d0) z st.tm st.ob (vcOF P T nt ops K s)) with
   | none => simp only [hy] at k1
   | some p =>
    simp only [hy] at k1
    have g0 : Gd c ⟨st.tm,[]⟩ tm ⟨h.F,h.w0,[]⟩ ρ G := ⟨g.fF,g.fw,g.gF,g.gx,g.fm,g.tm,rfl⟩
    obtain ⟨z,v,q1,q2,q3⟩ := vcY_sound g0 hy k1 (P := P) (nt := nt) (ty := ty) (pos := pos) (af := af) (gd := gu) (d := some d0)
    simp only [putT] at q3
    cases hd : Nat.blt d0 nt
    ·rw [hd] at q3;exact q3.elim
    ·rw [hd] at q3
     have hrest := (vcOF_sound hK s _ fuel S _ _ h ρ G (by omega) hdc' (g.put (d := d0) q2) q3 _ w (ha.put (by simpa using hd) v) hw).1 hcs
     exact wpAnyX_free hoj (Region.noSelect_spec b1) (fun c a w hq => q.ok c a _ _ w hq) hfr fuel listed a w hdc (Region.free_spec hoj b2) hr' (.inl ⟨hw1,fun w' hw' => q1.out a w' ha hw'⟩) hw.frn hrest
  ·simp only [skipT] at k1
   cases hd : Nat.blt d0 nt
   ·rw [hd] at k1;exact k1.elim
   ·rw [hd] at k1
    have hrest := (vcOF_sound hK s _ fuel S _ _ h ρ G (by omega) hdc' (g.put (d := d0) (.t (vs := []) rfl (by simp))) k1 _ w (ha.put (by simpa using hd) undef) hw).1 hcs
    exact wpAnyX_free hoj (Region.noSelect_spec b1) (fun c a w hq => q.ok c a _ _ w hq) hfr fuel listed a w hdc (Region.free_spec hoj b2) hr' (.inr ⟨hw1,rfl⟩) hw.frn hrest
theorem Drw.ofT {i : Nat} {tmT : List (Nat × SV)} {ob : List (Nat × Ob)} (late free : List Nat) (t : OF) (ho : (Nat.ble t.depth ops.size && t.chk ops late free true (Array.replicate ops.size false)) = true) (k : vcOF P T nt ops K t tmT ob) : Drw P nt i ops K tmT ob :=
 ⟨fun c tm h ρ G g Q q hK hnd => ⟨fun a w ha hw => Cw.region_any q.no hT.mo hnd (wpAny_of_X (S := Hp h) (S1 := Frn h) (late := late) (free := free) _ _ _ _ (by
  simp only [Bool.and_eq_true,Nat.ble_eq] at ho
  exact (vcOF_sound hK t _ _ _ ⟨tmT,ob⟩ tm h ρ G ho.1 DC.start g k a { w with drawn := w.drawn + 1 } ha (hw.drawn _)).1 ho.2))⟩⟩
end
end Go.Proofs.YtjpaaaecbgmcgaaGreatDoor
namespace Go.Proofs.YtjpaaaecbgmcgaaGreatDoor
open Go.RowKit
abbrev dfa (c i : Int) : SV := .a [.u (.int .i64 c),.u (.int .i64 i)]
theorem at_R (a b : Int) : CallsA Tryz.prog 18 [di a,di b] [] (Is (dfa a b)) := by
 refine callsA_of_vc (T := tt) Tryz.func18 rfl rfl rfl rfl rfl ?_
 repeat' ((conv => whnf);first | refine Gs.id ?_ | fail)
 all_goals (conv => whnf)
 all_goals exact Ret.is rfl
theorem strings_R (a b : List ByteArray) : CallsA Tryz.prog 10 [.d (.u (strs' a)),.d (.u (strs' b))] [] (Is (db (decide (a = b)))) := by
 by_cases hl : a.length = b.length
 ·refine callsA_of_vc (T := tt) Tryz.func10 rfl rfl rfl rfl rfl ?_
  repeat' ((conv => whnf);first | refine Gs.id ?_ | refine Brn.F (by (try simp only [smT]);first | rfl | omega | fail) ?_ | (refine Bnd.mk (fun hm => ?_);(try simp only [smT] at hm)) | fail)
  all_goals (conv => whnf)
  refine ⟨⟨Nat,fun i => i ≤ a.length ∧ decide (a = b) = decide (a.drop i = b.drop i),fun i => a.length - i,fun i => ⟨[(0,.d (.u (strs' a))),(1,.d (.u (strs' b))),(5,di i)],[]⟩,0,⟨Nat.zero_le _,rfl⟩,⟨[],⟨by (try dsimp only);(repeat (refine LeT.cons rfl (by first | exact LeS.d (by first | exact LeD.u rfl | fail) | fail) ?_));exact LeT.nil,by (try dsimp only);repeat (first | exact LeO.nil | fail)⟩⟩,fun i hi => ?_⟩⟩
  obtain ⟨hi,he⟩ := hi
  dsimp only
  by_cases h9 : i < a.length
  ·have h10 : i < b.length := by omega
   rw [List.drop_eq_getElem_cons h9,List.drop_eq_getElem_cons h10] at he
   have hra : ∀ {K : List V → Prop},K [V.str a[i]] → Ix (strs a) (i : Int) K := fun k => Ix.map rfl h9 k
   have hrb : ∀ {K : List V → Prop},K [V.str b[i]] → Ix (strs b) (i : Int) K := fun k => Ix.map rfl h10 k
   have hxy := toList_beq a[i] b[i]
   generalize a[i] = x at *
   generalize b[i] = y at *
   by_cases hq : x = y
   ·subst hq
    rw [decide_eq_true rfl] at hxy
    have he2 : decide (a = b) = decide (a.drop (i + 1) = b.drop (i + 1)) := by rw [he];simp
    clear he
    rw [he2]
    repeat' ((conv => whnf);first | refine hra ?_ | refine hrb ?_ | refine Gs.id ?_ | refine Brn.T (by (try simp only [smT]);first | rfl | omega | fail) ?_ | refine Brn.F (by (try simp only [smT]);first | rfl | assumption | fail) ?_ | (refine Bnd.mk (fun hm => ?_);(try simp only [smT] at hm)) | refine Rng.mk (by (try simp only [smT]);omega) ?_ | refine Drw.of (T := tt) (i := 6) [] [] [(0,true),(1,true),(2,true),(3,true),(4,true),(5,true),(6,true),(7,true),(8,true)] (by kernel_rfl) ?_)
    all_goals (conv => whnf)
    all_goals exact ⟨i + 1,⟨by omega,rfl⟩,by omega,[],⟨by (try dsimp only);(repeat (refine LeT.cons rfl (by first | exact LeS.d (by first | exact LeD.u rfl | fail) | fail) ?_));exact LeT.nil,by (try dsimp only);repeat (first | exact LeO.nil | fail)⟩⟩
   ·rw [decide_eq_false hq] at hxy
    have he2 : decide (a = b) = false := by rw [he];exact decide_eq_false fun e => hq (List.cons.inj e).1
    rw [he2]
    clear he he2
    repeat' ((conv => whnf);first | refine hra ?_ | refine hrb ?_ | refine Gs.id ?_ | refine Brn.T (by (try simp only [smT]);first | rfl | assumption | omega | fail) ?_ | (refine Bnd.mk (fun hm => ?_);(try simp only [smT] at hm)) | refine Drw.of (T := tt) (i := 6) [] [] [(0,true),(1,true),(2,true),(3,true),(4,true),(5,true),(6,true),(7,true),(8,true)] (by kernel_rfl) ?_)
    all_goals (conv => whnf)
    all_goals exact Ret.is rfl
  ·obtain rfl : i = a.length := by omega
   have e2 : decide (a = b) = true := by rw [he];simp;omega
   rw [e2]
   repeat' ((conv => whnf);first | refine Gs.id ?_ | refine Brn.F (by (try simp only [smT]);first | rfl | omega | fail) ?_ | (refine Bnd.mk (fun hm => ?_);(try simp only [smT] at hm)) | fail)
   all_goals (conv => whnf)
   all_goals exact Ret.is rfl
 ·have e : decide (a = b) = false := decide_eq_false fun e => hl (by rw [e])
  rw [e]
  refine callsA_of_vc (T := tt) Tryz.func10 rfl rfl rfl rfl rfl ?_
  repeat' ((conv => whnf);first | refine Gs.id ?_ | refine Brn.T (by (try simp only [smT]);first | rfl | omega | fail) ?_ | (refine Bnd.mk (fun hm => ?_);(try simp only [smT] at hm)) | fail)
  all_goals (conv => whnf)
  all_goals exact Ret.is rfl
theorem itoaB_small {n : Int} (h0 : 0 ≤ n) (h1 : n < 10) : itoaB n = ByteArray.mk #[UInt8.ofNat (48 + n.toNat)] := by
 unfold itoaB Lib.itoa
 rw [if_neg (by omega),Lib.decDigits,dif_pos (by omega)]
theorem itoaB_big {n : Int} (h : 10 ≤ n) : itoaB n = itoaB (n / 10) ++ ByteArray.mk #[UInt8.ofNat (48 + (n % 10).toNat)] := by
 refine bytes_ext ?_
 unfold itoaB Lib.itoa
 rw [if_neg (by omega),if_neg (by omega),Lib.decDigits,dif_neg (by omega),show n.toNat / 10 = (n / 10).toNat by omega,show n.toNat % 10 = (n % 10).toNat by omega]
 simp
set_option maxHeartbeats 2000000 in
theorem decimal_R : ∀ (k : Nat) (n : Int),n.toNat < 10 ^ k → 0 ≤ n → n ≤ 9223372036854775807 → CallsA Tryz.prog 42 [di n] [] (Is (dsr (itoaB n)))
 | 0,n,h,h0,_ => by
  have hb := encode_digit (n := n) h0 (by omega)
  have h2 : n = 0 := by omega
  subst h2
  rw [itoaB_small (by omega) (by omega)]
  refine callsA_of_vc (T := tt) Tryz.func42 rfl rfl rfl rfl rfl ?_
  repeat' ((conv => whnf);first | refine Raw.conv32 rfl rfl rfl rfl rfl (by omega) (by omega) rfl ?_ | refine Raw.runeStr rfl rfl rfl rfl hb (by decide) rfl ?_ | refine Gs.id ?_ | with_reducible refine Brn.T rfl ?_ | with_reducible refine Brn.F rfl ?_ | refine Rng.mk (by (try simp only [smT]);omega) ?_ | fail)
  all_goals (conv => whnf)
  all_goals exact Ret.is rfl
 | k + 1,n,h,h0,h1 => by
  by_cases h9 : n < 10
  ·have hb := encode_digit (n := n) h0 h9
   rw [itoaB_small h0 h9]
   refine callsA_of_vc (T := tt) Tryz.func42 rfl rfl rfl rfl rfl ?_
   repeat' ((conv => whnf);first | refine Raw.conv32 rfl rfl rfl rfl rfl (by omega) (by omega) rfl ?_ | refine Raw.runeStr rfl rfl rfl rfl hb (by unfold maxLen;simp [ByteArray.size]) rfl ?_ | refine Gs.id ?_ | refine Brn.T (by (try simp only [smT]);first | rfl | assumption | fail) ?_ | refine Brn.F (by (try simp only [smT]);first | rfl | assumption | fail) ?_ | refine Rng.mk (by (try simp only [smT]);omega) ?_ | fail)
   all_goals (conv => whnf)
   all_goals exact Ret.is rfl
  ·have ih := decimal_R k (n / 10) (by rw [Nat.pow_succ] at h;omega) (by omega) (by omega)
   have hb := encode_digit (n := n % 10) (by omega) (by omega)
   have hz := itoaB_size (n := n / 10) (by omega) (by omega)
   have h1z : (ByteArray.mk #[UInt8.ofNat (48 + (n % 10).toNat)]).size = 1 := rfl
   rw [itoaB_big (by omega)]
   refine callsA_of_vc (T := tt) Tryz.func42 rfl rfl rfl rfl rfl ?_
   repeat' ((conv => whnf);first | refine Raw.conv32 rfl rfl rfl rfl rfl (by omega) (by omega) rfl ?_ | refine Raw.quoN rfl rfl (by omega) (by omega) (by omega) rfl ?_ | refine Raw.remN rfl rfl (by omega) (by omega) rfl ?_ | refine Raw.runeStr rfl rfl rfl rfl hb (by unfold maxLen;omega) rfl ?_ | refine Cat.mk (by unfold maxLen;(try simp only [ByteArray.size_append]);omega) ?_ | refine Gs.id ?_ | refine Brn.F (by (try simp only [smT]);first | rfl | assumption | omega | fail) ?_ | refine Rng.mk (by (try simp only [smT]);omega) ?_ | (refine CL.mk (Or.inl ?_);(conv => whnf);refine Cl.is (ih) rfl (by first | exact fun _ => rfl | fail) ?_) | fail)
   all_goals (conv => whnf)
   all_goals exact Ret.is rfl
end Go.Proofs.YtjpaaaecbgmcgaaGreatDoor
namespace Go.Proofs.YtjpaaaecbgmcgaaGreatDoor
open Go.RowKit
def lastB (s : ByteArray) (c : UInt8) : Nat → Int
 | 0 => -1
 | i + 1 => if s.data[i]? = some c then i else lastB s c i
theorem lastIdx0_T (s : ByteArray) (c : UInt8) (hs : s.size ≤ 1000000000000) : CallsA Tryz.prog 34 [dsr s,dby c.toNat] [] (Is (di (lastB s c s.size))) := by
 refine callsA_of_vc (T := tt) Tryz.func34 rfl rfl rfl rfl rfl ?_
 repeat' ((conv => whnf);first | refine Gs.id ?_ | (refine Bnd.mk (fun hm => ?_);(try simp only [smT] at hm)) | refine Rng.mk (by (try simp only [smT]);omega) ?_ | fail)
 all_goals (conv => whnf)
 refine ⟨⟨Nat,fun i => i ≤ s.size ∧ lastB s c s.size = lastB s c i,fun i => i,fun i => ⟨[(0,dsr s),(1,dby c.toNat),(5,di ((i : Int) - 1))],[]⟩,s.size,⟨Nat.le_refl _,rfl⟩,⟨[],⟨by (try dsimp only);(repeat (refine LeT.cons rfl (by first | exact LeS.d (by first | exact LeD.u rfl | fail) | fail) ?_));exact LeT.nil,by (try dsimp only);repeat (first | exact LeO.nil | fail)⟩⟩,fun i hi => ?_⟩⟩
 obtain ⟨hi,he⟩ := hi
 dsimp only
 rw [he]
 cases i with
 | zero =>
  rw [lastB]
  repeat' ((conv => whnf);first | refine Gs.id ?_ | with_reducible refine Brn.F rfl ?_ | fail)
  all_goals (conv => whnf)
  all_goals exact Ret.is rfl
 | succ i =>
  have h9 : i < s.size := by omega
  have hget : s.data[i]? = some s[i] := by simp [ByteArray.getElem_eq_getElem_data,h9]
  have hcast : ((i + 1 : Nat) : Int) - 1 = (i : Int) := by omega
  rw [lastB,hget,hcast]
  by_cases hc : s[i] = c
  ·rw [if_pos (by rw [hc])]
   have hcn : (s[i].toNat : Int) = (c.toNat : Int) := by rw [hc]
   generalize hx : (s[i].toNat : Int) = x at *
   repeat' ((conv => whnf);first | (refine Sbx.mk ⟨i,h9,rfl,?_⟩;rw [hx]) | refine Gs.id ?_ | with_reducible refine Brn.T rfl ?_ | refine Brn.T (by (try simp only [smT]);first | rfl | assumption | fail) ?_ | fail)
   all_goals (conv => whnf)
   all_goals exact Ret.is rfl
  ·rw [if_neg (by simpa using hc)]
   have hcn : ¬ (s[i].toNat : Int) = (c.toNat : Int) := fun e => hc (UInt8.toNat_inj.1 (by omega))
   generalize hx : (s[i].toNat : Int) = x at *
   repeat' ((conv => whnf);first | (refine Sbx.mk ⟨i,h9,rfl,?_⟩;rw [hx]) | refine Gs.id ?_ | with_reducible refine Brn.T rfl ?_ | refine Brn.F (by (try simp only [smT]);first | rfl | assumption | fail) ?_ | refine Rng.mk (by (try simp only [smT]);omega) ?_ | fail)
   all_goals (conv => whnf)
   all_goals exact ⟨i,⟨by omega,by simp [lastB,hget,hc] at he ⊢⟩,by omega,[],⟨by (try dsimp only);(repeat (refine LeT.cons rfl (by first | exact LeS.d (by first | exact LeD.u rfl | fail) | fail) ?_));exact LeT.nil,by (try dsimp only);repeat (first | exact LeO.nil | fail)⟩⟩
theorem lastIdx_T (s : ByteArray) (c : UInt8) (hs : s.size ≤ 1000000000000) : CallsA Tryz.prog 15 [dsr s,dby c.toNat] [] (Is (di (lastB s c s.size))) := by
 have h := lastIdx0_T s c hs
 refine callsA_of_vc (T := tt) Tryz.func15 rfl rfl rfl rfl rfl ?_
 repeat' ((conv => whnf);first | refine Gs.id ?_ | (refine CL.mk (Or.inl ?_);(conv => whnf);refine Cl.is (h) rfl (by first | exact fun _ => rfl | fail) ?_) | fail)
 all_goals (conv => whnf)
 all_goals exact Ret.is rfl
end Go.Proofs.YtjpaaaecbgmcgaaGreatDoor
namespace Go.Proofs.YtjpaaaecbgmcgaaGreatDoor
open Go.RowKit
def preB (c p : ByteArray) : Bool := decide (p.size ≤ c.size) && decide (c.extract 0 p.size = p)
def sufB (c p : ByteArray) : Bool := decide (p.size ≤ c.size) && decide (c.extract (c.size - p.size) c.size = p)
theorem hasPre0_T (c p : ByteArray) : CallsA Tryz.prog 36 [dsr c,dsr p] [] (Is (db (preB c p))) := by
 have hq := toList_beq (c.extract 0 p.size) p
 unfold preB
 by_cases h5 : p.size ≤ c.size
 ·rw [decide_eq_true h5,Bool.true_and]
  generalize decide (c.extract 0 p.size = p) = b at *
  refine callsA_of_vc (T := tt) Tryz.func36 rfl rfl rfl rfl rfl ?_
  repeat' ((conv => whnf);first | refine Slc.mk ⟨0,p.size,rfl,rfl,by omega,by omega,?_⟩ | rw [hq] | refine Gs.id ?_ | refine Brn.T (by (try simp only [smT]);first | rfl | omega | fail) ?_ | (refine Bnd.mk (fun hm => ?_);(try simp only [smT] at hm)) | fail)
  all_goals (conv => whnf)
  all_goals first | exact Ret.is rfl | (exfalso;simp at *;omega)
 ·rw [decide_eq_false h5,Bool.false_and]
  refine callsA_of_vc (T := tt) Tryz.func36 rfl rfl rfl rfl rfl ?_
  repeat' ((conv => whnf);first | refine Gs.id ?_ | refine Brn.F (by (try simp only [smT]);first | rfl | omega | fail) ?_ | (refine Bnd.mk (fun hm => ?_);(try simp only [smT] at hm)) | fail)
  all_goals (conv => whnf)
  all_goals first | exact Ret.is rfl | (exfalso;simp at *;omega)
theorem hasPre_T (c p : ByteArray) : CallsA Tryz.prog 17 [dsr c,dsr p] [] (Is (db (preB c p))) := by
 have h := hasPre0_T c p
 refine callsA_of_vc (T := tt) Tryz.func17 rfl rfl rfl rfl rfl ?_
 repeat' ((conv => whnf);first | refine Gs.id ?_ | (refine CL.mk (Or.inl ?_);(conv => whnf);refine Cl.is (h) rfl (by first | exact fun _ => rfl | fail) ?_) | fail)
 all_goals (conv => whnf)
 all_goals exact Ret.is rfl
theorem hasSuf0_T (c p : ByteArray) : CallsA Tryz.prog 53 [dsr c,dsr p] [] (Is (db (sufB c p))) := by
 have hq := toList_beq (c.extract (c.size - p.size) c.size) p
 unfold sufB
 by_cases h5 : p.size ≤ c.size
 ·rw [decide_eq_true h5,Bool.true_and]
  generalize decide (c.extract (c.size - p.size) c.size = p) = b at *
  refine callsA_of_vc (T := tt) Tryz.func53 rfl rfl rfl rfl rfl ?_
  repeat' ((conv => whnf);first | refine Slc.mk ⟨c.size - p.size,c.size,by omega,rfl,by omega,by omega,?_⟩ | rw [hq] | refine Gs.id ?_ | refine Brn.T (by (try simp only [smT]);first | rfl | omega | fail) ?_ | (refine Bnd.mk (fun hm => ?_);(try simp only [smT] at hm)) | refine Rng.mk (by (try simp only [smT]);omega) ?_ | fail)
  all_goals (conv => whnf)
  all_goals first | exact Ret.is rfl | (exfalso;simp at *;omega)
 ·rw [decide_eq_false h5,Bool.false_and]
  refine callsA_of_vc (T := tt) Tryz.func53 rfl rfl rfl rfl rfl ?_
  repeat' ((conv => whnf);first | refine Gs.id ?_ | refine Brn.F (by (try simp only [smT]);first | rfl | omega | fail) ?_ | (refine Bnd.mk (fun hm => ?_);(try simp only [smT] at hm)) | fail)
  all_goals (conv => whnf)
  all_goals first | exact Ret.is rfl | (exfalso;simp at *;omega)
def trimS (c p : ByteArray) : ByteArray := if sufB c p = true then c.extract 0 (c.size - p.size) else c
theorem trimSuf0_T (c p : ByteArray) : CallsA Tryz.prog 33 [dsr c,dsr p] [] (Is (dsr (trimS c p))) := by
 have h := hasSuf0_T c p
 unfold trimS
 cases hb : sufB c p
 ·rw [hb] at h
  rw [if_neg (by simp)]
  refine callsA_of_vc (T := tt) Tryz.func33 rfl rfl rfl rfl rfl ?_
  repeat' ((conv => whnf);first | refine Gs.id ?_ | with_reducible refine Brn.F rfl ?_ | (refine CL.mk (Or.inl ?_);(conv => whnf);refine Cl.is (h) rfl (by first | exact fun _ => rfl | fail) ?_) | fail)
  all_goals (conv => whnf)
  all_goals exact Ret.is rfl
 ·rw [hb] at h
  rw [if_pos rfl]
  have h5 : p.size ≤ c.size := by
   unfold sufB at hb
   simp only [Bool.and_eq_true,decide_eq_true_eq] at hb
   exact hb.1
  refine callsA_of_vc (T := tt) Tryz.func33 rfl rfl rfl rfl rfl ?_
  repeat' ((conv => whnf);first | refine Slc.mk ⟨0,c.size - p.size,rfl,by omega,by omega,by omega,?_⟩ | refine Gs.id ?_ | with_reducible refine Brn.T rfl ?_ | (refine Bnd.mk (fun hm => ?_);(try simp only [smT] at hm)) | refine Rng.mk (by (try simp only [smT]);omega) ?_ | (refine CL.mk (Or.inl ?_);(conv => whnf);refine Cl.is (h) rfl (by first | exact fun _ => rfl | fail) ?_) | fail)
  all_goals (conv => whnf)
  all_goals exact Ret.is rfl
theorem trimSuf_T (c p : ByteArray) : CallsA Tryz.prog 14 [dsr c,dsr p] [] (Is (dsr (trimS c p))) := by
 have h := trimSuf0_T c p
 generalize trimS c p = r at *
 refine callsA_of_vc (T := tt) Tryz.func14 rfl rfl rfl rfl rfl ?_
 repeat' ((conv => whnf);first | refine Gs.id ?_ | (refine CL.mk (Or.inl ?_);(conv => whnf);refine Cl.is (h) rfl (by first | exact fun _ => rfl | fail) ?_) | fail)
 all_goals (conv => whnf)
 all_goals exact Ret.is rfl
abbrev cutP (c p : ByteArray) : ByteArray := if preB c p = true then c.extract p.size c.size else c
theorem cutPre0_T (c p : ByteArray) : CallsA Tryz.prog 35 [dsr c,dsr p] [] (Is (.t [.d (.u (.str (cutP c p))),.d (.u (.bool (preB c p)))])) := by
 have h := hasPre0_T c p
 unfold cutP
 cases hb : preB c p
 ·rw [hb] at h
  rw [if_neg (by simp)]
  refine callsA_of_vc (T := tt) Tryz.func35 rfl rfl rfl rfl rfl ?_
  repeat' ((conv => whnf);first | refine Gs.id ?_ | with_reducible refine Brn.T rfl ?_ | (refine CL.mk (Or.inl ?_);(conv => whnf);refine Cl.is (h) rfl (by first | exact fun _ => rfl | fail) ?_) | fail)
  all_goals (conv => whnf)
  all_goals exact Ret.is rfl
 ·rw [hb] at h
  rw [if_pos rfl]
  have h5 : p.size ≤ c.size := by
   unfold preB at hb
   simp only [Bool.and_eq_true,decide_eq_true_eq] at hb
   exact hb.1
  refine callsA_of_vc (T := tt) Tryz.func35 rfl rfl rfl rfl rfl ?_
  repeat' ((conv => whnf);first | refine Slc.mk ⟨p.size,c.size,rfl,rfl,by omega,by omega,?_⟩ | refine Gs.id ?_ | with_reducible refine Brn.F rfl ?_ | (refine Bnd.mk (fun hm => ?_);(try simp only [smT] at hm)) | (refine CL.mk (Or.inl ?_);(conv => whnf);refine Cl.is (h) rfl (by first | exact fun _ => rfl | fail) ?_) | fail)
  all_goals (conv => whnf)
  all_goals exact Ret.is rfl
theorem cutPre_T (c p : ByteArray) : CallsA Tryz.prog 16 [dsr c,dsr p] [] (Is (.t [.d (.u (.str (cutP c p))),.d (.u (.bool (preB c p)))])) := by
 have h := cutPre0_T c p
 generalize cutP c p = r at *
 generalize preB c p = b at *
 refine callsA_of_vc (T := tt) Tryz.func16 rfl rfl rfl rfl rfl ?_
 repeat' ((conv => whnf);first | refine Gs.id ?_ | (refine CL.mk (Or.inl ?_);(conv => whnf);refine Cl.is (h) rfl (by first | exact fun _ => rfl | fail) ?_) | fail)
 all_goals (conv => whnf)
 all_goals exact Ret.is rfl
end Go.Proofs.YtjpaaaecbgmcgaaGreatDoor
namespace Go.Proofs.YtjpaaaecbgmcgaaGreatDoor
open Go.RowKit
abbrev nlB : ByteArray := ByteArray.mk #[10]
theorem extract_one {s : ByteArray} {i : Nat} (h : i < s.size) : s.extract i (i + 1) = ByteArray.mk #[s[i]] := by
 refine bytes_ext ?_
 have h' : i < s.data.toList.length := by simpa using h
 simp only [ByteArray.data_extract,Array.toList_extract,List.extract_eq_take_drop]
 rw [List.drop_eq_getElem_cons h',show i + 1 - i = 1 by omega]
 rfl
theorem suf_nl {s : ByteArray} (h : 0 < s.size) : sufB s nlB = decide ((s[s.size - 1].toNat : Int) = 10) := by
 have h1 : nlB.size = 1 := rfl
 unfold sufB
 rw [h1,decide_eq_true (show 1 ≤ s.size by omega),Bool.true_and]
 have e := extract_one (s := s) (i := s.size - 1) (by omega)
 rw [show s.size - 1 + 1 = s.size by omega] at e
 rw [e]
 by_cases hb : s[s.size - 1] = 10
 ·rw [hb];decide
 ·rw [decide_eq_false (fun q => hb (by injection q with q;have := congrArg (·[0]?) q;simpa using this)),decide_eq_false (fun q => hb (UInt8.toNat_inj.1 (by simpa using Int.ofNat.inj (by simpa using q))))]
theorem suf_nl0 {s : ByteArray} (h : s.size = 0) : sufB s nlB = false := by
 have h1 : nlB.size = 1 := rfl
 unfold sufB
 rw [h1,decide_eq_false (by omega),Bool.false_and]
theorem lastB_bd (s : ByteArray) (c : UInt8) : ∀ i,-1 ≤ lastB s c i ∧ lastB s c i < i
 | 0 => by simp [lastB]
 | i + 1 => by
  have := lastB_bd s c i
  rw [lastB]
  split <;> omega
theorem splitB_last (s : ByteArray) (c : UInt8) : ∀ i,i ≤ s.size → (splitB s c i).2 = (lastB s c i + 1).toNat
 | 0,_ => rfl
 | i + 1,h => by
  have ih := splitB_last s c i (by omega)
  rw [splitB,lastB]
  by_cases hc : s.data[i]? = some c
  ·rw [if_pos (.inr hc),if_pos hc]
   show i + 1 = _
   omega
  ·rw [if_neg (fun q => q.elim (fun q => by omega) hc),if_neg hc]
   exact ih
def tailM (t : ByteArray) : ByteArray := t.extract (lastB t 10 t.size + 1).toNat t.size
theorem splitB_tail (t : ByteArray) : ∃ L,(splitB t 10 (t.size + 1)).1 = L ++ [tailM t] := by
 refine ⟨(splitB t 10 t.size).1,?_⟩
 rw [splitB,if_pos (.inl rfl),splitB_last t 10 t.size (Nat.le_refl _)]
 rfl
def lineM (s : ByteArray) : ByteArray := tailM (trimS s nlB)
theorem lineM_size (s : ByteArray) : (lineM s).size ≤ s.size := by
 unfold lineM tailM trimS
 split <;> simp only [ByteArray.size_extract] <;> omega
theorem lastLine_R (s : ByteArray) (hs : s.size ≤ 1000000000000) : CallsA Tryz.prog 19 [dsr s] [] (Is (dsr (lineM s))) := by
 have hs0 := str_nil (s := s)
 have ht : (trimS s nlB).size ≤ 1000000000000 := by
  unfold trimS
  split
  ·simp only [ByteArray.size_extract];omega
  ·exact hs
 have hsp := split_R (trimS s nlB) 10 ht
 obtain ⟨L,hL⟩ := splitB_tail (trimS s nlB)
 rw [hL] at hsp
 have hrow : ∀ {K : List V → Prop} {m : Int},m = (L.length : Int) → K [V.str (tailM (trimS s nlB))] → Ix (strs (L ++ [tailM (trimS s nlB)])) m K := fun e k => ⟨⟨L.length,_,e,by simp [strs],k⟩⟩
 have hlen : (strs (L ++ [tailM (trimS s nlB)])).length = L.length + 1 := by simp [strs]
 unfold lineM
 generalize hg : tailM (trimS s nlB) = r at *
 clear hg
 by_cases h0 : s.size = 0
 ·have e : trimS s nlB = s := by rw [trimS,suf_nl0 h0,if_neg (by simp)]
  rw [e] at hsp
  rw [decide_eq_true h0] at hs0
  clear e ht hL
  refine callsA_of_vc (T := tt) Tryz.func19 rfl rfl rfl rfl rfl ?_
  repeat' ((conv => whnf);first | refine hrow (by first | (simp;done) | fail) ?_ | refine Gs.id ?_ | with_reducible refine Brn.F rfl ?_ | refine Brn.F (by (try simp only [smT]);first | rfl | assumption | fail) ?_ | (refine Bnd.mk (fun hm => ?_);(try simp only [smT] at hm)) | refine Rng.mk (by (try simp only [smT]);omega) ?_ | (refine CL.mk (Or.inl ?_);(conv => whnf);refine Cl.is (hsp) rfl (by first | (intro e;cases e;done) | fail) ?_) | fail)
  all_goals (conv => whnf)
  all_goals exact Ret.is rfl
 ·rw [decide_eq_false h0] at hs0
  have hlt : s.size - 1 < s.size := by omega
  have hb := suf_nl (s := s) (by omega)
  have hcast : ((s.size - 1 : Nat) : Int) = (s.size : Int) - 1 := by omega
  by_cases hc : (s[s.size - 1].toNat : Int) = 10
  ·have e : trimS s nlB = s.extract 0 (s.size - 1) := by rw [trimS,hb,decide_eq_true hc,if_pos rfl];rfl
   rw [e] at hsp
   clear e ht hL hb
   generalize hx : (s[s.size - 1].toNat : Int) = x at *
   subst hc
   refine callsA_of_vc (T := tt) Tryz.func19 rfl rfl rfl rfl rfl ?_
   repeat' ((conv => whnf);first | (refine Sbx.mk ⟨s.size - 1,hlt,by omega,?_⟩;rw [hx]) | refine Slc.mk ⟨0,s.size - 1,rfl,by omega,by omega,by omega,?_⟩ | refine hrow (by first | (simp;done) | fail) ?_ | refine Gs.id ?_ | with_reducible refine Brn.T rfl ?_ | refine Brn.T (by (try simp only [smT]);first | rfl | assumption | fail) ?_ | (refine Bnd.mk (fun hm => ?_);(try simp only [smT] at hm)) | refine Rng.mk (by (try simp only [smT]);omega) ?_ | (refine CL.mk (Or.inl ?_);(conv => whnf);refine Cl.is (hsp) rfl (by first | (intro e;cases e;done) | fail) ?_) | fail)
   all_goals (conv => whnf)
   all_goals exact Ret.is rfl
  ·have e : trimS s nlB = s := by rw [trimS,hb,decide_eq_false hc,if_neg (by simp)]
   rw [e] at hsp
   clear e ht hL hb
   generalize hx : (s[s.size - 1].toNat : Int) = x at *
   refine callsA_of_vc (T := tt) Tryz.func19 rfl rfl rfl rfl rfl ?_
   repeat' ((conv => whnf);first | (refine Sbx.mk ⟨s.size - 1,hlt,by omega,?_⟩;rw [hx]) | refine hrow (by first | (simp;done) | fail) ?_ | refine Gs.id ?_ | refine Brn.T (by (try simp only [smT]);first | rfl | assumption | fail) ?_ | refine Brn.F (by (try simp only [smT]);first | rfl | assumption | fail) ?_ | (refine Bnd.mk (fun hm => ?_);(try simp only [smT] at hm)) | refine Rng.mk (by (try simp only [smT]);omega) ?_ | (refine CL.mk (Or.inl ?_);(conv => whnf);refine Cl.is (hsp) rfl (by first | (intro e;cases e;done) | fail) ?_) | fail)
   all_goals (conv => whnf)
   all_goals exact Ret.is rfl
end Go.Proofs.YtjpaaaecbgmcgaaGreatDoor
namespace Go.Proofs.YtjpaaaecbgmcgaaGreatDoor
open Go.RowKit
abbrev okB : ByteArray := ByteArray.mk #[111,107]
abbrev fuelB : ByteArray := ByteArray.mk #[111,117,116,32,111,102,32,102,117,101,108]
abbrev outB : ByteArray := ByteArray.mk #[116,111,111,32,109,117,99,104,32,111,117,116,112,117,116]
abbrev failB : ByteArray := ByteArray.mk #[102,97,105,108,101,100]
abbrev failC : ByteArray := ByteArray.mk #[102,97,105,108,101,100,58,32]
abbrev assB : ByteArray := ByteArray.mk #[65,115,115,101,114,116,105,111,110,69,114,114,111,114]
abbrev assC : ByteArray := ByteArray.mk #[65,115,115,101,114,116,105,111,110,69,114,114,111,114,58,32]
abbrev colB : ByteArray := ByteArray.mk #[58,32]
abbrev errB : ByteArray := ByteArray.mk #[101,114,114,111,114,58,32]
abbrev emB0 : ByteArray := ByteArray.mk #[]
theorem pre_iff (s p : ByteArray) : preB s p = true ↔ p.data.toList <+: s.data.toList := by
 unfold preB
 rw [Bool.and_eq_true,decide_eq_true_eq,decide_eq_true_eq]
 have hs : s.size = s.data.toList.length := by simp
 have hp : p.size = p.data.toList.length := by simp
 have e : (s.extract 0 p.size).data.toList = s.data.toList.take p.size := by
  simp only [ByteArray.data_extract,Array.toList_extract,List.extract_eq_take_drop,List.drop_zero,Nat.sub_zero]
 rw [List.prefix_iff_eq_take]
 constructor
 ·rintro ⟨_,h⟩
  rw [← hp,← e,h]
 ·intro h
  refine ⟨?_,bytes_ext ?_⟩
  ·have := congrArg List.length h
   rw [List.length_take] at this
   omega
  ·rw [e,hp,← h]
theorem pre_app {s p : ByteArray} (h : preB s p = true) : ∃ r : ByteArray,s = p ++ r := by
 obtain ⟨t,h⟩ := (pre_iff s p).1 h
 exact ⟨⟨t.toArray⟩,bytes_ext (by simp [ByteArray.data_append,← h])⟩
theorem ext_app (p r : ByteArray) : (p ++ r).extract p.size (p ++ r).size = r := by
 refine bytes_ext ?_
 have hp : p.size = p.data.toList.length := by simp
 simp only [ByteArray.data_extract,Array.toList_extract,List.extract_eq_take_drop,ByteArray.data_append,Array.toList_append]
 rw [hp,List.drop_left,List.take_of_length_le]
 simp [ByteArray.size_append]
theorem pre_self (p r : ByteArray) : preB (p ++ r) p = true := (pre_iff _ _).2 ⟨r.data.toList,by simp [ByteArray.data_append]⟩
theorem pre_two (p q r : ByteArray) : preB (p ++ r) (p ++ q) = preB r q := by
 have h : (preB (p ++ r) (p ++ q) = true) ↔ preB r q = true := by
  rw [pre_iff,pre_iff]
  simp [ByteArray.data_append,List.prefix_append_right_inj]
 cases h1 : preB (p ++ r) (p ++ q) <;> cases h2 : preB r q <;> simp_all
theorem app_nil {r : ByteArray} (h : r.size = 0) (p : ByteArray) : p ++ r = p := by
 refine bytes_ext ?_
 have : r.data.toList = [] := List.eq_nil_of_length_eq_zero (by simpa using h)
 simp [ByteArray.data_append,this]
structure Oc where
 out : ByteArray
 stop : Int
 trace : ByteArray
 fin : List ByteArray
 fuel : Int
abbrev Oc.row (o : Oc) : List V := [.str o.out,.int .i64 o.stop,.str o.trace,strs' o.fin,.int .i64 o.fuel]
abbrev Oc.ds (o : Oc) : List D := [.u (.str o.out),.u (.int .i64 o.stop),.u (.str o.trace),.u (strs' o.fin),.u (.int .i64 o.fuel)]
def vline (s : ByteArray) : ByteArray × Int × Int :=
 if 4000 < s.size then (emB0,3,-1)
 else if s = assB then (failB,0,0)
 else if preB s assC = true then (failC ++ s.extract 16 s.size,0,0)
 else (errB ++ s,0,0)
def verdM (o : Oc) : ByteArray × Int × Int :=
 if o.stop = 0 then (okB,0,0)
 else if o.stop = 2 then (fuelB,0,0)
 else if o.stop = 3 then (outB,0,0)
 else if o.stop = 1 then vline (lineM o.trace)
 else (emB0,5,-1)
abbrev vS (x : ByteArray × Int × Int) : SV := .t [.d (.u (.str x.1)),.a [.u (.int .i64 x.2.1),.u (.int .i64 x.2.2)]]
set_option maxHeartbeats 4000000 in
theorem verdict_T (o : Oc) (hs : o.trace.size ≤ 1000000000000) : CallsA Tryz.prog 6 [.a o.ds] [] (Is (vS (verdM o))) := by
 obtain ⟨out,stop,trace,fin,fuel⟩ := o
 unfold verdM
 dsimp only at hs ⊢
 by_cases h0 : stop = 0
 ·rw [if_pos h0]
  refine callsA_of_vc (T := tt) Tryz.func6 rfl rfl rfl rfl rfl ?_
  repeat' ((conv => whnf);first | refine Gs.id ?_ | refine Brn.T (by (try simp only [smT]);first | rfl | assumption | fail) ?_ | fail)
  all_goals (conv => whnf)
  all_goals exact Ret.is rfl
 rw [if_neg h0]
 by_cases h2 : stop = 2
 ·rw [if_pos h2]
  refine callsA_of_vc (T := tt) Tryz.func6 rfl rfl rfl rfl rfl ?_
  repeat' ((conv => whnf);first | refine Gs.id ?_ | refine Brn.T (by (try simp only [smT]);first | rfl | assumption | fail) ?_ | refine Brn.F (by (try simp only [smT]);first | rfl | assumption | fail) ?_ | fail)
  all_goals (conv => whnf)
  all_goals exact Ret.is rfl
 rw [if_neg h2]
 by_cases h3 : stop = 3
 ·rw [if_pos h3]
  refine callsA_of_vc (T := tt) Tryz.func6 rfl rfl rfl rfl rfl ?_
  repeat' ((conv => whnf);first | refine Gs.id ?_ | refine Brn.T (by (try simp only [smT]);first | rfl | assumption | fail) ?_ | refine Brn.F (by (try simp only [smT]);first | rfl | assumption | fail) ?_ | fail)
  all_goals (conv => whnf)
  all_goals exact Ret.is rfl
 rw [if_neg h3]
 by_cases h1 : stop = 1
 ·rw [if_pos h1]
  have q1 := trimSuf_T trace nlB
  have hz := lineM_size trace
  unfold lineM at hz ⊢
  have htz : (trimS trace nlB).size ≤ trace.size := by
   unfold trimS
   split
   ·simp only [ByteArray.size_extract];omega
   ·omega
  generalize trimS trace nlB = t at *
  have q2 : CallsA Tryz.prog 15 [dsr t,dby 10] [] (Is (di (lastB t 10 t.size))) := lastIdx_T t 10 (by omega)
  have hbd := lastB_bd t 10 t.size
  have hsl : ∀ {K : ByteArray → Prop},K (tailM t) → K (t.extract (lastB t 10 t.size + 1).toNat t.size) := fun h => h
  unfold tailM at *
  generalize lastB t 10 t.size = k at *
  have hlo : (k + 1).toNat ≤ t.size := by omega
  have hlc : ((k + 1).toNat : Int) = k + 1 := by omega
  generalize hs0 : t.extract (k + 1).toNat t.size = s at *
  unfold vline
  by_cases h4 : 4000 < s.size
  ·rw [if_pos h4]
   refine callsA_of_vc (T := tt) Tryz.func6 rfl rfl rfl rfl rfl ?_
   repeat' ((conv => whnf);first | (refine Slc.mk ⟨(k + 1).toNat,t.size,by omega,rfl,by omega,by omega,?_⟩;rw [hs0]) | refine Gs.id ?_ | refine Brn.T (by (try simp only [smT]);first | rfl | assumption | omega | fail) ?_ | refine Brn.F (by (try simp only [smT]);first | rfl | assumption | fail) ?_ | (refine Bnd.mk (fun hm => ?_);(try simp only [smT] at hm)) | refine Rng.mk (by (try simp only [smT]);omega) ?_ | (refine CL.mk (Or.inl ?_);(conv => whnf);first | refine Cl.is (q1) rfl (by first | exact fun _ => rfl | fail) ?_ | refine Cl.is (q2) rfl (by first | exact fun _ => rfl | fail) ?_) | fail)
   all_goals (conv => whnf)
   all_goals exact Ret.is rfl
  ·rw [if_neg h4]
   have q3 := cutPre_T s assB
   cases hp : preB s assB
   ·rw [hp,cutP,hp,if_neg (by simp)] at q3
    have e1 : s ≠ assB := fun e => by rw [e] at hp;exact absurd hp (by decide)
    have e2 : preB s assC = false := by
     cases hc : preB s assC
     ·rfl
     ·obtain ⟨r,hr⟩ := pre_app hc
      rw [hr,show assC ++ r = assB ++ (colB ++ r) from bytes_ext (by simp [ByteArray.data_append]),pre_self] at hp
      cases hp
    rw [if_neg e1,e2,if_neg (by simp)]
    have hez : (ByteArray.mk #[101,114,114,111,114,58,32]).size = 7 := rfl
    refine callsA_of_vc (T := tt) Tryz.func6 rfl rfl rfl rfl rfl ?_
    repeat' ((conv => whnf);first | (refine Slc.mk ⟨(k + 1).toNat,t.size,by omega,rfl,by omega,by omega,?_⟩;rw [hs0]) | refine Cat.mk (by unfold maxLen;(try simp only [ByteArray.size_append]);omega) ?_ | refine Gs.id ?_ | with_reducible refine Brn.F rfl ?_ | refine Brn.T (by (try simp only [smT]);first | rfl | assumption | fail) ?_ | refine Brn.F (by (try simp only [smT]);first | rfl | assumption | omega | fail) ?_ | (refine Bnd.mk (fun hm => ?_);(try simp only [smT] at hm)) | refine Rng.mk (by (try simp only [smT]);omega) ?_ | (refine CL.mk (Or.inl ?_);(conv => whnf);first | refine Cl.is (q1) rfl (by first | exact fun _ => rfl | fail) ?_ | refine Cl.is (q2) rfl (by first | exact fun _ => rfl | fail) ?_ | refine Cl.is (q3) rfl (by first | exact fun _ => rfl | fail) ?_) | fail)
    all_goals (conv => whnf)
    all_goals exact Ret.is rfl
   ·obtain ⟨r,hr⟩ := pre_app hp
    have ha : assB.size = 14 := rfl
    have er : s.extract assB.size s.size = r := by rw [hr];exact ext_app _ _
    rw [hp,cutP,hp,if_pos rfl,er] at q3
    have hsz : s.size = 14 + r.size := by rw [hr,ByteArray.size_append,ha]
    have hr0 := str_nil (s := r)
    have q4 := hasPre_T r colB
    by_cases h5 : r.size = 0
    ·have e1 : s = assB := by rw [hr];exact app_nil h5 _
     rw [if_pos e1]
     rw [decide_eq_true h5] at hr0
     refine callsA_of_vc (T := tt) Tryz.func6 rfl rfl rfl rfl rfl ?_
     repeat' ((conv => whnf);first | (refine Slc.mk ⟨(k + 1).toNat,t.size,by omega,rfl,by omega,by omega,?_⟩;rw [hs0]) | refine Gs.id ?_ | with_reducible refine Brn.T rfl ?_ | refine Brn.T (by (try simp only [smT]);first | rfl | assumption | fail) ?_ | refine Brn.F (by (try simp only [smT]);first | rfl | assumption | omega | fail) ?_ | (refine Bnd.mk (fun hm => ?_);(try simp only [smT] at hm)) | refine Rng.mk (by (try simp only [smT]);omega) ?_ | (refine CL.mk (Or.inl ?_);(conv => whnf);first | refine Cl.is (q1) rfl (by first | exact fun _ => rfl | fail) ?_ | refine Cl.is (q2) rfl (by first | exact fun _ => rfl | fail) ?_ | refine Cl.is (q3) rfl (by first | exact fun _ => rfl | fail) ?_ | fail) | fail)
     all_goals (conv => whnf)
     all_goals exact Ret.is rfl
    ·have e1 : s ≠ assB := fun e => by rw [e,ha] at hsz;omega
     rw [if_neg e1]
     rw [decide_eq_false h5] at hr0
     have e2 : preB s assC = preB r colB := by rw [hr];exact pre_two assB colB r
     rw [e2]
     have hfz : (ByteArray.mk #[102,97,105,108,101,100]).size = 6 := rfl
     have hez : (ByteArray.mk #[101,114,114,111,114,58,32]).size = 7 := rfl
     cases hc : preB r colB
     ·rw [hc] at q4
      rw [if_neg (by simp)]
      refine callsA_of_vc (T := tt) Tryz.func6 rfl rfl rfl rfl rfl ?_
      repeat' ((conv => whnf);first | (refine Slc.mk ⟨(k + 1).toNat,t.size,by omega,rfl,by omega,by omega,?_⟩;rw [hs0]) | refine Cat.mk (by unfold maxLen;(try simp only [ByteArray.size_append]);omega) ?_ | refine Gs.id ?_ | with_reducible refine Brn.T rfl ?_ | with_reducible refine Brn.F rfl ?_ | refine Brn.T (by (try simp only [smT]);first | rfl | assumption | fail) ?_ | refine Brn.F (by (try simp only [smT]);first | rfl | assumption | omega | fail) ?_ | (refine Bnd.mk (fun hm => ?_);(try simp only [smT] at hm)) | refine Rng.mk (by (try simp only [smT]);omega) ?_ | (refine CL.mk (Or.inl ?_);(conv => whnf);first | refine Cl.is (q1) rfl (by first | exact fun _ => rfl | fail) ?_ | refine Cl.is (q2) rfl (by first | exact fun _ => rfl | fail) ?_ | refine Cl.is (q3) rfl (by first | exact fun _ => rfl | fail) ?_ | refine Cl.is (q4) rfl (by first | exact fun _ => rfl | fail) ?_) | fail)
      all_goals (conv => whnf)
      all_goals exact Ret.is rfl
     ·rw [hc] at q4
      rw [if_pos rfl]
      obtain ⟨q,hq⟩ := pre_app hc
      have e3 : failC ++ s.extract 16 s.size = failB ++ r := by
       have := ext_app assC q
       rw [show assC.size = 16 from rfl] at this
       rw [hr,hq,show assB ++ (colB ++ q) = assC ++ q from bytes_ext (by simp [ByteArray.data_append]),this]
       exact bytes_ext (by simp [ByteArray.data_append])
      rw [e3]
      refine callsA_of_vc (T := tt) Tryz.func6 rfl rfl rfl rfl rfl ?_
      repeat' ((conv => whnf);first | (refine Slc.mk ⟨(k + 1).toNat,t.size,by omega,rfl,by omega,by omega,?_⟩;rw [hs0]) | refine Cat.mk (by unfold maxLen;(try simp only [ByteArray.size_append]);omega) ?_ | refine Gs.id ?_ | with_reducible refine Brn.T rfl ?_ | refine Brn.T (by (try simp only [smT]);first | rfl | assumption | fail) ?_ | refine Brn.F (by (try simp only [smT]);first | rfl | assumption | omega | fail) ?_ | (refine Bnd.mk (fun hm => ?_);(try simp only [smT] at hm)) | refine Rng.mk (by (try simp only [smT]);omega) ?_ | (refine CL.mk (Or.inl ?_);(conv => whnf);first | refine Cl.is (q1) rfl (by first | exact fun _ => rfl | fail) ?_ | refine Cl.is (q2) rfl (by first | exact fun _ => rfl | fail) ?_ | refine Cl.is (q3) rfl (by first | exact fun _ => rfl | fail) ?_ | refine Cl.is (q4) rfl (by first | exact fun _ => rfl | fail) ?_) | fail)
      all_goals (conv => whnf)
      all_goals exact Ret.is rfl
 ·rw [if_neg h1]
  refine callsA_of_vc (T := tt) Tryz.func6 rfl rfl rfl rfl rfl ?_
  repeat' ((conv => whnf);first | refine Gs.id ?_ | refine Brn.F (by (try simp only [smT]);first | rfl | assumption | fail) ?_ | fail)
  all_goals (conv => whnf)
  all_goals exact Ret.is rfl
end Go.Proofs.YtjpaaaecbgmcgaaGreatDoor
namespace Go.Proofs.YtjpaaaecbgmcgaaGreatDoor
open Go.RowKit
set_option maxHeartbeats 4000000 in
theorem verdict_R (o : Oc) (hs : o.trace.size ≤ 1000000000000) : CallsA Tryz.prog 7 [.a o.ds] [] (Is (vS (verdM o))) := by
 have hat := fun a b => at_R a b
 obtain ⟨out,stop,trace,fin,fuel⟩ := o
 unfold verdM
 dsimp only at hs ⊢
 by_cases h0 : stop = 0
 ·rw [if_pos h0]
  refine callsA_of_vc (T := tt) Tryz.func7 rfl rfl rfl rfl rfl ?_
  repeat' ((conv => whnf);first | refine Gs.id ?_ | refine Brn.T (by (try simp only [smT]);first | rfl | assumption | fail) ?_ | (refine CL.mk (Or.inl ?_);(conv => whnf);refine Cl.is (hat _ _) rfl (by first | exact fun _ => rfl | fail) ?_) | fail)
  all_goals (conv => whnf)
  all_goals exact Ret.is rfl
 rw [if_neg h0]
 by_cases h2 : stop = 2
 ·rw [if_pos h2]
  refine callsA_of_vc (T := tt) Tryz.func7 rfl rfl rfl rfl rfl ?_
  repeat' ((conv => whnf);first | refine Gs.id ?_ | refine Brn.T (by (try simp only [smT]);first | rfl | assumption | fail) ?_ | refine Brn.F (by (try simp only [smT]);first | rfl | assumption | fail) ?_ | (refine CL.mk (Or.inl ?_);(conv => whnf);refine Cl.is (hat _ _) rfl (by first | exact fun _ => rfl | fail) ?_) | fail)
  all_goals (conv => whnf)
  all_goals exact Ret.is rfl
 rw [if_neg h2]
 by_cases h3 : stop = 3
 ·rw [if_pos h3]
  refine callsA_of_vc (T := tt) Tryz.func7 rfl rfl rfl rfl rfl ?_
  repeat' ((conv => whnf);first | refine Gs.id ?_ | refine Brn.T (by (try simp only [smT]);first | rfl | assumption | fail) ?_ | refine Brn.F (by (try simp only [smT]);first | rfl | assumption | fail) ?_ | (refine CL.mk (Or.inl ?_);(conv => whnf);refine Cl.is (hat _ _) rfl (by first | exact fun _ => rfl | fail) ?_) | fail)
  all_goals (conv => whnf)
  all_goals exact Ret.is rfl
 rw [if_neg h3]
 by_cases h1 : stop = 1
 ·rw [if_pos h1]
  have q1 := lastLine_R trace hs
  have hz := lineM_size trace
  generalize lineM trace = s at *
  unfold vline
  by_cases h4 : 4000 < s.size
  ·rw [if_pos h4]
   refine callsA_of_vc (T := tt) Tryz.func7 rfl rfl rfl rfl rfl ?_
   repeat' ((conv => whnf);first | refine Gs.id ?_ | refine Brn.T (by (try simp only [smT]);first | rfl | omega | fail) ?_ | refine Brn.F (by (try simp only [smT]);first | rfl | assumption | fail) ?_ | (refine Bnd.mk (fun hm => ?_);(try simp only [smT] at hm)) | (refine CL.mk (Or.inl ?_);(conv => whnf);first | refine Cl.is (q1) rfl (by first | exact fun _ => rfl | fail) ?_ | refine Cl.is (hat _ _) rfl (by first | exact fun _ => rfl | fail) ?_) | fail)
   all_goals (conv => whnf)
   all_goals exact Ret.is rfl
  ·rw [if_neg h4]
   have ha := toList_beq s assB
   by_cases h5 : s = assB
   ·rw [if_pos h5]
    rw [decide_eq_true h5] at ha
    clear h5
    refine callsA_of_vc (T := tt) Tryz.func7 rfl rfl rfl rfl rfl ?_
    repeat' ((conv => whnf);first | refine Gs.id ?_ | refine Brn.T (by (try simp only [smT]);first | rfl | assumption | fail) ?_ | refine Brn.F (by (try simp only [smT]);first | rfl | assumption | omega | fail) ?_ | (refine Bnd.mk (fun hm => ?_);(try simp only [smT] at hm)) | (refine CL.mk (Or.inl ?_);(conv => whnf);first | refine Cl.is (q1) rfl (by first | exact fun _ => rfl | fail) ?_ | refine Cl.is (hat _ _) rfl (by first | exact fun _ => rfl | fail) ?_) | fail)
    all_goals (conv => whnf)
    all_goals exact Ret.is rfl
   ·rw [if_neg h5]
    rw [decide_eq_false h5] at ha
    clear h5
    have hez : (ByteArray.mk #[101,114,114,111,114,58,32]).size = 7 := rfl
    have hfz : (ByteArray.mk #[102,97,105,108,101,100,58,32]).size = 8 := rfl
    have hcz : assC.size = 16 := rfl
    have hb := toList_beq (s.extract 0 16) assC
    unfold preB
    rw [hcz]
    by_cases h6 : 16 ≤ s.size
    ·rw [decide_eq_true h6,Bool.true_and]
     generalize hx : s.extract 0 16 = x at *
     have hsx : (s.extract 16 s.size).size = s.size - 16 := by simp only [ByteArray.size_extract];omega
     generalize hy : s.extract 16 s.size = y at *
     by_cases h7 : x = assC
     ·rw [decide_eq_true h7] at hb ⊢
      rw [if_pos rfl]
      refine callsA_of_vc (T := tt) Tryz.func7 rfl rfl rfl rfl rfl ?_
      repeat' ((conv => whnf);first | (refine Slc.mk ⟨0,16,rfl,rfl,by omega,by omega,?_⟩;rw [hx]) | (refine Slc.mk ⟨16,s.size,rfl,rfl,by omega,by omega,?_⟩;rw [hy]) | refine Cat.mk (by unfold maxLen;(try simp only [ByteArray.size_append]);omega) ?_ | refine Gs.id ?_ | refine Brn.T (by (try simp only [smT]);first | rfl | assumption | omega | fail) ?_ | refine Brn.F (by (try simp only [smT]);first | rfl | assumption | omega | fail) ?_ | (refine Bnd.mk (fun hm => ?_);(try simp only [smT] at hm)) | refine Drw.of (T := tt) (i := 15) [5] [] [(0,true),(1,true),(2,true),(3,false),(4,true),(5,false)] (by kernel_rfl) ?_ | (refine CL.mk (Or.inl ?_);(conv => whnf);first | refine Cl.is (q1) rfl (by first | exact fun _ => rfl | fail) ?_ | refine Cl.is (hat _ _) rfl (by first | exact fun _ => rfl | fail) ?_) | fail)
      all_goals (conv => whnf)
      all_goals exact Ret.is rfl
     ·rw [decide_eq_false h7] at hb ⊢
      rw [if_neg (by simp)]
      refine callsA_of_vc (T := tt) Tryz.func7 rfl rfl rfl rfl rfl ?_
      repeat' ((conv => whnf);first | (refine Slc.mk ⟨0,16,rfl,rfl,by omega,by omega,?_⟩;rw [hx]) | refine Cat.mk (by unfold maxLen;(try simp only [ByteArray.size_append]);omega) ?_ | refine Gs.id ?_ | refine Brn.T (by (try simp only [smT]);first | rfl | omega | fail) ?_ | refine Brn.F (by (try simp only [smT]);first | rfl | assumption | omega | fail) ?_ | (refine Bnd.mk (fun hm => ?_);(try simp only [smT] at hm)) | (refine CL.mk (Or.inl ?_);(conv => whnf);first | refine Cl.is (q1) rfl (by first | exact fun _ => rfl | fail) ?_ | refine Cl.is (hat _ _) rfl (by first | exact fun _ => rfl | fail) ?_) | fail)
      all_goals (conv => whnf)
      all_goals exact Ret.is rfl
    ·rw [decide_eq_false h6,Bool.false_and,if_neg (by simp)]
     refine callsA_of_vc (T := tt) Tryz.func7 rfl rfl rfl rfl rfl ?_
     repeat' ((conv => whnf);first | refine Cat.mk (by unfold maxLen;(try simp only [ByteArray.size_append]);omega) ?_ | refine Gs.id ?_ | with_reducible refine Brn.F rfl ?_ | refine Brn.F (by (try simp only [smT]);first | rfl | assumption | omega | fail) ?_ | (refine Bnd.mk (fun hm => ?_);(try simp only [smT] at hm)) | (refine CL.mk (Or.inl ?_);(conv => whnf);first | refine Cl.is (q1) rfl (by first | exact fun _ => rfl | fail) ?_ | refine Cl.is (hat _ _) rfl (by first | exact fun _ => rfl | fail) ?_) | fail)
     all_goals (conv => whnf)
     all_goals exact Ret.is rfl
 ·rw [if_neg h1]
  refine callsA_of_vc (T := tt) Tryz.func7 rfl rfl rfl rfl rfl ?_
  repeat' ((conv => whnf);first | refine Gs.id ?_ | refine Brn.T (by (try simp only [smT]);first | rfl | assumption | fail) ?_ | refine Brn.F (by (try simp only [smT]);first | rfl | assumption | fail) ?_ | (refine CL.mk (Or.inl ?_);(conv => whnf);refine Cl.is (hat _ _) rfl (by first | exact fun _ => rfl | fail) ?_) | fail)
  all_goals (conv => whnf)
  all_goals exact Ret.is rfl
end Go.Proofs.YtjpaaaecbgmcgaaGreatDoor
namespace Go.Proofs.YtjpaaaecbgmcgaaGreatDoor
open Go.RowKit
def ixS (s : ByteArray) : List ByteArray → Nat → Int
 | [],_ => -1
 | x :: r,i => if s = x then i else ixS s r (i + 1)
def inS (s : ByteArray) (l : List ByteArray) : Bool := l.any fun x => decide (s = x)
theorem inS_mem {s : ByteArray} {l : List ByteArray} : inS s l = true ↔ s ∈ l := by
 unfold inS
 rw [List.any_eq_true]
 constructor
 ·rintro ⟨x,h,e⟩
  rw [of_decide_eq_true e];exact h
 ·exact fun h => ⟨s,h,decide_eq_true rfl⟩
theorem ixS_mem (s : ByteArray) : ∀ (l : List ByteArray) (i : Nat),decide (0 ≤ ixS s l i) = inS s l
 | [],i => rfl
 | x :: r,i => by
  have ih := ixS_mem s r (i + 1)
  rw [ixS,inS,List.any_cons]
  by_cases h : s = x
  ·rw [if_pos h,decide_eq_true h,Bool.true_or];exact decide_eq_true (by omega)
  ·rw [if_neg h,decide_eq_false h,Bool.false_or];exact ih
theorem idxS_T (l : List ByteArray) (s : ByteArray) (hl : l.length ≤ 9000000000) : CallsA Tryz.prog 39 [.d (.u (strs' l)),dsr s] [] (Is (di (ixS s l 0))) := by
 refine callsA_of_vc (T := tt) Tryz.func39 rfl rfl rfl rfl rfl ?_
 repeat' ((conv => whnf);first | refine Gs.id ?_ | (refine Bnd.mk (fun hm => ?_);(try simp only [smT] at hm)) | fail)
 all_goals (conv => whnf)
 refine ⟨⟨Nat,fun i => i ≤ l.length ∧ ixS s l 0 = ixS s (l.drop i) i,fun i => l.length - i,fun i => ⟨[(0,.d (.u (strs' l))),(1,dsr s),(7,di l.length),(8,di i)],[]⟩,0,⟨Nat.zero_le _,rfl⟩,⟨[],⟨by (try dsimp only);(repeat (refine LeT.cons rfl (by first | exact LeS.d (by first | exact LeD.u rfl | exact LeD.u (by simp;done) | fail) | fail) ?_));exact LeT.nil,by (try dsimp only);repeat (first | exact LeO.nil | fail)⟩⟩,fun i hi => ?_⟩⟩
 obtain ⟨hi,hq⟩ := hi
 dsimp only
 rw [hq]
 by_cases h9 : i < l.length
 ·rw [List.drop_eq_getElem_cons h9,ixS]
  have hrow : ∀ {K : List V → Prop},K [V.str l[i]] → Ix (strs l) (i : Int) K := fun k => Ix.map rfl h9 k
  generalize l[i] = x at *
  have h1 := toList_beq s x
  by_cases hx : s = x
  ·rw [decide_eq_true hx] at h1
   rw [if_pos hx]
   clear hx
   repeat' ((conv => whnf);first | refine hrow ?_ | rw [h1] | refine Gs.id ?_ | with_reducible refine Brn.T rfl ?_ | refine Brn.T (by (try simp only [smT]);first | rfl | omega | fail) ?_ | fail)
   all_goals (conv => whnf)
   all_goals exact Ret.is rfl
  ·rw [decide_eq_false hx] at h1
   rw [if_neg hx]
   clear hx
   repeat' ((conv => whnf);first | refine hrow ?_ | rw [h1] | refine Gs.id ?_ | with_reducible refine Brn.F rfl ?_ | refine Brn.T (by (try simp only [smT]);first | rfl | omega | fail) ?_ | refine Rng.mk (by (try simp only [smT]);omega) ?_ | fail)
   all_goals (conv => whnf)
   all_goals exact ⟨i + 1,⟨by omega,rfl⟩,by omega,[],⟨by (try dsimp only);(repeat (refine LeT.cons rfl (by first | exact LeS.d (by first | exact LeD.u rfl | fail) | fail) ?_));exact LeT.nil,by (try dsimp only);repeat (first | exact LeO.nil | fail)⟩⟩
 ·obtain rfl : i = l.length := by omega
  rw [List.drop_length,ixS]
  repeat' ((conv => whnf);first | refine Gs.id ?_ | refine Brn.F (by (try simp only [smT]);first | rfl | omega | fail) ?_ | fail)
  all_goals (conv => whnf)
  all_goals exact Ret.is rfl
theorem contS_T (l : List ByteArray) (s : ByteArray) (hl : l.length ≤ 9000000000) : CallsA Tryz.prog 21 [.d (.u (strs' l)),dsr s] [] (Is (db (inS s l))) := by
 have h := idxS_T l s hl
 rw [← ixS_mem s l 0]
 generalize ixS s l 0 = k at *
 refine callsA_of_vc (T := tt) Tryz.func21 rfl rfl rfl rfl rfl ?_
 repeat' ((conv => whnf);first | refine Gs.id ?_ | (refine CL.mk (Or.inl ?_);(conv => whnf);refine Cl.is (h) rfl (by first | exact fun _ => rfl | fail) ?_) | fail)
 all_goals (conv => whnf)
 all_goals exact Ret.is rfl
structure Ct where
 t : Int
 f : Int
 x : Int
abbrev Ct.ds (c : Ct) : List D := [.u (.int .i64 c.t),.u (.int .i64 c.f),.u (.int .i64 c.x)]
def vk (v : ByteArray) : Nat := if v = okB then 0 else if v = failB then 1 else if preB v failC = true then 1 else 2
def Ct.add (c : Ct) (v : ByteArray) : Ct := ⟨c.t + 1,if vk v = 0 then c.f + 1 else c.f,if vk v = 1 then c.x + 1 else c.x⟩
set_option maxHeartbeats 2000000 in
theorem cadd_T (us : List Value) (zb : Fz) (c : Ct) (v : ByteArray) (ht : 0 ≤ c.t ∧ c.t ≤ 9000000000) (hf : 0 ≤ c.f ∧ c.f ≤ 9000000000) (hx : 0 ≤ c.x ∧ c.x ≤ 9000000000) : CallsA Tryz.prog 22 [.d (.p 6 0),dsr v] [(902,.ab [.p 6 0] us zb (· = [])),(6,.bx 45 c.ds)] (Iso (.t []) [(902,.ab [.p 6 0] us zb (· = [])),(6,.bx 45 (c.add v).ds)]) := by
 obtain ⟨t,f,x⟩ := c
 dsimp only at ht hf hx
 have h1 := toList_beq v okB
 have h2 := toList_beq v failB
 have h3 := hasPre_T v failC
 unfold Ct.add vk
 by_cases e1 : v = okB
 ·rw [decide_eq_true e1] at h1
  rw [if_pos e1]
  simp only [if_true,if_neg (show ¬ (0 : Nat) = 1 by omega)]
  clear e1
  refine callsA_of_vcO (T := tt) Tryz.func22 rfl rfl rfl rfl rfl ?_
  repeat' ((conv => whnf);first | rw [h1] | refine Gs.id ?_ | with_reducible refine Brn.T rfl ?_ | refine Rng.mk (by (try simp only [smT]);omega) ?_ | fail)
  all_goals (conv => whnf)
  all_goals refine RetO.mk ⟨[(902,.k 902),(6,.k 6)],_,_,(by exact LeS.ts (by repeat (first | exact LeCs.nil | fail))),(by repeat (first | exact LeO.nil | refine LeO.bx rfl rfl (by repeat (first | exact LeL.nil | refine LeL.cons (by first | exact LeD.u rfl | fail) ?_)) ?_ | refine LeO.ab rfl rfl (by repeat (first | exact LeL.nil | refine LeL.cons (by first | exact LeD.p rfl | fail) ?_)) (by first | rfl | fail) ?_ | fail)),rfl,rfl⟩
 rw [decide_eq_false e1] at h1
 rw [if_neg e1]
 clear e1
 by_cases e2 : v = failB
 ·rw [decide_eq_true e2] at h2
  rw [if_pos e2]
  simp only [if_true,if_neg (show ¬ (1 : Nat) = 0 by omega)]
  clear e2
  refine callsA_of_vcO (T := tt) Tryz.func22 rfl rfl rfl rfl rfl ?_
  repeat' ((conv => whnf);first | rw [h1] | rw [h2] | refine Gs.id ?_ | with_reducible refine Brn.T rfl ?_ | with_reducible refine Brn.F rfl ?_ | refine Rng.mk (by (try simp only [smT]);omega) ?_ | fail)
  all_goals (conv => whnf)
  all_goals refine RetO.mk ⟨[(902,.k 902),(6,.k 6)],_,_,(by exact LeS.ts (by repeat (first | exact LeCs.nil | fail))),(by repeat (first | exact LeO.nil | refine LeO.bx rfl rfl (by repeat (first | exact LeL.nil | refine LeL.cons (by first | exact LeD.u rfl | fail) ?_)) ?_ | refine LeO.ab rfl rfl (by repeat (first | exact LeL.nil | refine LeL.cons (by first | exact LeD.p rfl | fail) ?_)) (by first | rfl | fail) ?_ | fail)),rfl,rfl⟩
 rw [decide_eq_false e2] at h2
 rw [if_neg e2]
 clear e2
 cases e3 : preB v failC
 ·rw [e3] at h3
  rw [if_neg (by simp)]
  simp only [if_neg (show ¬ (2 : Nat) = 0 by omega),if_neg (show ¬ (2 : Nat) = 1 by omega)]
  refine callsA_of_vcO (T := tt) Tryz.func22 rfl rfl rfl rfl rfl ?_
  repeat' ((conv => whnf);first | rw [h1] | rw [h2] | refine Gs.id ?_ | with_reducible refine Brn.F rfl ?_ | refine Rng.mk (by (try simp only [smT]);omega) ?_ | (refine CL.mk (Or.inl ?_);(conv => whnf);refine Cl.is (h3) rfl (by first | exact fun _ => rfl | fail) ?_) | fail)
  all_goals (conv => whnf)
  all_goals refine RetO.mk ⟨[(902,.k 902),(6,.k 6)],_,_,(by exact LeS.ts (by repeat (first | exact LeCs.nil | fail))),(by repeat (first | exact LeO.nil | refine LeO.bx rfl rfl (by repeat (first | exact LeL.nil | refine LeL.cons (by first | exact LeD.u rfl | fail) ?_)) ?_ | refine LeO.ab rfl rfl (by repeat (first | exact LeL.nil | refine LeL.cons (by first | exact LeD.p rfl | fail) ?_)) (by first | rfl | fail) ?_ | fail)),rfl,rfl⟩
 ·rw [e3] at h3
  rw [if_pos rfl]
  simp only [if_true,if_neg (show ¬ (1 : Nat) = 0 by omega)]
  refine callsA_of_vcO (T := tt) Tryz.func22 rfl rfl rfl rfl rfl ?_
  repeat' ((conv => whnf);first | rw [h1] | rw [h2] | refine Gs.id ?_ | with_reducible refine Brn.T rfl ?_ | with_reducible refine Brn.F rfl ?_ | refine Rng.mk (by (try simp only [smT]);omega) ?_ | (refine CL.mk (Or.inl ?_);(conv => whnf);refine Cl.is (h3) rfl (by first | exact fun _ => rfl | fail) ?_) | fail)
  all_goals (conv => whnf)
  all_goals refine RetO.mk ⟨[(902,.k 902),(6,.k 6)],_,_,(by exact LeS.ts (by repeat (first | exact LeCs.nil | fail))),(by repeat (first | exact LeO.nil | refine LeO.bx rfl rfl (by repeat (first | exact LeL.nil | refine LeL.cons (by first | exact LeD.u rfl | fail) ?_)) ?_ | refine LeO.ab rfl rfl (by repeat (first | exact LeL.nil | refine LeL.cons (by first | exact LeD.p rfl | fail) ?_)) (by first | rfl | fail) ?_ | fail)),rfl,rfl⟩
theorem CallsP.ofPV {P : Program} {f : FuncId} {ss : List SV} {obP ob0 : List (Nat × Ob)} (K : Nat) (ks : List Nat) (ho : ∀ p ∈ ob0,NorP p.2) (hb : ∀ k ∈ ks,∃ t cs t' cs',lk k obP = some (.bx t cs) ∧ lk k ob0 = some (.bx t' cs') ∧ cs.length = cs'.length)
  (h : ∀ us zb,CallsA P f ss ((K,.ab (ks.map fun k => .p k 0) us zb (· = [])) :: obP) (Iso (.t []) ((K,.ab (ks.map fun k => .p k 0) us zb (· = [])) :: ob0))) : CallsP P f ss obP ks (Iso (.t []) ob0) := by
 refine ⟨(h [] ⟨⟨fun _ => False,fun _ => [],fun _ => False⟩,⟨#[],fun _ _ => 0,0,default,#[]⟩⟩).fn,fun c ρ hp vs w hw hl g => ?_⟩
 have hpin : ∀ l : List Nat,(∀ k ∈ l,k ∈ ks) → ∃ us : List Value,DenL ρ ⟨c.G,c.w⟩ (l.map fun k => D.p k 0) us := by
  intro l
  induction l with
  | nil => exact fun _ => ⟨[],.nil⟩
  | cons k r ih =>
   intro hm
   obtain ⟨us,hus⟩ := ih fun j hj => hm j (by simp [hj])
   obtain ⟨t,cs,t',cs',q1,_,_⟩ := hb k (hm k (by simp))
   obtain ⟨b,hb1⟩ := g.ob.bx q1
   exact ⟨_ :: us,hus.cons (.p hb1)⟩
 obtain ⟨us,hus⟩ := hpin ks fun _ h => h
 refine ((h us ⟨c.G,c.w⟩).out c ρ hp vs w hw hl ⟨g.fF,g.fw,g.gF,g.gx,g.fm,g.tm,⟨[],hp,rfl,⟨rfl,.refl,hus⟩,g.ob⟩⟩).mono ?_
 rintro e w' ⟨v,h',s,ob',ρ',G',rfl,hw',g',rfl,rfl⟩
 obtain ⟨X,hp',e1,⟨e2,e3,e4⟩,e5⟩ := g'.ob
 have e2' : X = [] := e2
 subst e2'
 have hloc : ∀ k,inN ks k = true → ρ' k = ρ k := fun k hk => by
  have hm : k ∈ ks := mem_inN hk
  obtain ⟨t,cs,t',cs',q1,q2,q3⟩ := hb k hm
  obtain ⟨b,b1⟩ := g.ob.bx q1
  obtain ⟨b',b2⟩ := e5.bx q2
  obtain ⟨j,hj⟩ := List.mem_iff_getElem?.1 hm
  have hj' : (ks.map fun k => D.p k 0)[j]? = some (.p k 0) := by rw [List.getElem?_map,hj];rfl
  obtain ⟨u,u1,u2⟩ := e4.get hj'
  have u3 := hus.den j _ u hj' u1
  cases u2 with | p z1 =>
  cases u3 with | p z2 =>
  rw [b2] at z1
  rw [b1] at z2
  injection z1 with z1;injection z1 with z1 _ _;injection z1 with z1;injection z1 with z1 _ _
  injection z2 with z2;injection z2 with z2 _ _;injection z2 with z2;injection z2 with z2 _ _
  rw [b1,b2,z1,z2,q3]
 have hee : ∀ k,(⟨ρ'.loc,fun k => if inN ks k = true then ρ.os k else ρ'.os k⟩ : Rho) k = ρ' k := fun _ => rfl
 refine ⟨v,h',.t [],ob0,⟨ρ'.loc,fun k => if inN ks k = true then ρ.os k else ρ'.os k⟩,G',rfl,hw',⟨g'.fF,g'.fw,g'.gF,g'.gx,g'.fm,fun k s' hk => ?_,?_⟩,⟨rfl,rfl⟩,fun k hk => ⟨hloc k hk,if_pos hk⟩⟩
 ·obtain ⟨u,u1,u2⟩ := g'.tm k s' hk
  simp only [lk] at hk
  cases hk0 : Nat.beq k 0 <;> rw [hk0] at hk
  ·cases hk
  ·simp only [cond_true,Option.some.injEq] at hk
   subst hk
   refine ⟨u,u1,?_⟩
   cases u2 with | t hl hd => exact .t hl (fun j s v hs => by simp at hs)
 ·rw [e1]
  exact e5.norP hee ho
theorem cadd_P (c : Ct) (v : ByteArray) (ht : 0 ≤ c.t ∧ c.t ≤ 9000000000) (hf : 0 ≤ c.f ∧ c.f ≤ 9000000000) (hx : 0 ≤ c.x ∧ c.x ≤ 9000000000) : CallsP Tryz.prog 22 [.d (.p 6 0),dsr v] [(6,.bx 45 c.ds)] [6] (Iso (.t []) [(6,.bx 45 (c.add v).ds)]) := by
 refine .ofPV 902 [6] (fun p hp => ?_) (fun j hj => ?_) fun us zb => cadd_T us zb c v ht hf hx
 ·simp only [List.mem_cons,List.not_mem_nil,or_false] at hp
  subst hp
  simp [NorP,norD]
 ·simp only [List.mem_cons,List.not_mem_nil,or_false] at hj
  subst hj
  exact ⟨_,_,_,_,rfl,rfl,rfl⟩
def Ct.line (c : Ct) : ByteArray := itoaB c.t ++ ByteArray.mk #[32,116,101,115,116,115,44,32] ++ itoaB c.f ++ ByteArray.mk #[32,111,107,44,32] ++ itoaB c.x ++ ByteArray.mk #[32,102,97,105,108,101,100,44,32] ++ itoaB (c.t - c.f - c.x) ++ ByteArray.mk #[32,111,116,104,101,114]
set_option maxHeartbeats 2000000 in
theorem cline_T (c : Ct) (ht : 0 ≤ c.t ∧ c.t ≤ 9000000000) (hf : 0 ≤ c.f ∧ c.f ≤ 9000000000) (hx : 0 ≤ c.x ∧ c.x ≤ 9000000000) (zt : Fz) (hz : Tab zt) : CallsA Tryz.prog 23 [.a c.ds] [(907,tbOb zt)] (Iso (dsr c.line) [(907,tbOb zt)]) := by
 obtain ⟨t,f,x⟩ := c
 dsimp only at ht hf hx
 have i1 := itoa_T t (by omega) (by omega) zt hz
 have i2 := itoa_T f (by omega) (by omega) zt hz
 have i3 := itoa_T x (by omega) (by omega) zt hz
 have i4 := itoa_T (t - f - x) (by omega) (by omega) zt hz
 have z1 := itoaB_size (n := t) (by omega) (by omega)
 have z2 := itoaB_size (n := f) (by omega) (by omega)
 have z3 := itoaB_size (n := x) (by omega) (by omega)
 have z4 := itoaB_size (n := t - f - x) (by omega) (by omega)
 have s1 : (ByteArray.mk #[32,116,101,115,116,115,44,32]).size = 8 := rfl
 have s2 : (ByteArray.mk #[32,111,107,44,32]).size = 5 := rfl
 have s3 : (ByteArray.mk #[32,102,97,105,108,101,100,44,32]).size = 9 := rfl
 have s4 : (ByteArray.mk #[32,111,116,104,101,114]).size = 6 := rfl
 unfold Ct.line
 dsimp only
 refine callsA_of_vcO (T := tt) Tryz.func23 rfl rfl rfl rfl rfl ?_
 repeat' ((conv => whnf);first | refine Cat.mk (by unfold maxLen;(try simp only [ByteArray.size_append]);omega) ?_ | refine Drw.ghost (i := 1) (Ghost.frzB 1 rfl rfl) ?_ | refine Gs.id ?_ | refine Rng.mk (by (try simp only [smT]);omega) ?_ | refine Drw.ofT (T := tt) (i := 1) [2,6,11,22] [0,1,3,4,5,7,8,9,10,12,13,14,15,16,17,18,19,20,21,23,24,25] (OF.fst 0 (OF.fst 1 (OF.fst 4 (OF.fst 5 (OF.fst 9 (OF.fst 10 (OF.fst 14 (OF.fst 15 (OF.fst 16 (OF.fst 17 (OF.fst 18 (OF.fst 19 (OF.fst 20 (OF.fst 21 (OF.alt 2 (OF.fst 3 (OF.alt 6 (OF.fst 7 (OF.fst 8 (OF.alt 11 (OF.fst 12 (OF.fst 13 (OF.alt 22 (OF.fst 23 (OF.fst 24 (OF.fst 25 OF.nil))) OF.nil))) OF.nil))) OF.nil)) OF.nil))))))))))))))) (by kernel_rfl) ?_ | (refine CL.mk (Or.inr (Raw.callI [907] [907] rfl rfl rfl rfl rfl rfl rfl (i1) ?_));rintro _ _ ⟨rfl,rfl⟩;refine Bk.mk rfl rfl ?_) | (refine CL.mk (Or.inr (Raw.callI [907] [907] rfl rfl rfl rfl rfl rfl rfl (i2) ?_));rintro _ _ ⟨rfl,rfl⟩;refine Bk.mk rfl rfl ?_) | (refine CL.mk (Or.inr (Raw.callI [907] [907] rfl rfl rfl rfl rfl rfl rfl (i3) ?_));rintro _ _ ⟨rfl,rfl⟩;refine Bk.mk rfl rfl ?_) | (refine CL.mk (Or.inr (Raw.callI [907] [907] rfl rfl rfl rfl rfl rfl rfl (i4) ?_));rintro _ _ ⟨rfl,rfl⟩;refine Bk.mk rfl rfl ?_))
 all_goals (conv => whnf)
 all_goals refine RetO.mk ⟨[(907,.k 907)],_,_,(by first | exact LeS.d (by first | exact LeD.u rfl | fail) | fail),(by repeat (first | exact LeO.nil | refine LeO.ab rfl rfl (by repeat (first | exact LeL.nil | fail)) (by first | rfl | fail) ?_ | fail)),rfl,rfl⟩
end Go.Proofs.YtjpaaaecbgmcgaaGreatDoor
namespace Go.Proofs.YtjpaaaecbgmcgaaGreatDoor
open Go.RowKit
set_option maxHeartbeats 2000000 in
theorem hasN_R (l : List ByteArray) (s : ByteArray) (n : Nat) (hn : n ≤ l.length) (hl : l.length ≤ 9000000000) : CallsA Tryz.prog 25 [.d (.u (strs' l)),di n,dsr s] [] (Is (db (inS s (l.take n)))) := by
 refine callsA_of_vc (T := tt) Tryz.func25 rfl rfl rfl rfl rfl ?_
 repeat' ((conv => whnf);first | refine Gs.id ?_ | fail)
 all_goals (conv => whnf)
 refine ⟨⟨Nat,fun i => i ≤ n ∧ inS s (l.take n) = inS s ((l.take n).drop i),fun i => n - i,fun i => ⟨[(0,.d (.u (strs' l))),(1,di n),(2,dsr s),(7,di i)],[]⟩,0,⟨Nat.zero_le _,rfl⟩,⟨[],⟨by (try dsimp only);(repeat (refine LeT.cons rfl (by first | exact LeS.d (by first | exact LeD.u rfl | fail) | fail) ?_));exact LeT.nil,by (try dsimp only);repeat (first | exact LeO.nil | fail)⟩⟩,fun i hi => ?_⟩⟩
 obtain ⟨hi,he⟩ := hi
 dsimp only
 rw [he]
 by_cases h9 : i < n
 ·have hx0 : l[i]? = some l[i] := List.getElem?_eq_getElem (by omega)
  have e1 : inS s ((l.take n).drop i) = (decide (s = l[i]) || inS s ((l.take n).drop (i + 1))) := by
   rw [List.drop_eq_getElem_cons (by simp;omega),inS,List.any_cons,List.getElem_take];rfl
  have hgx : (strs l)[i]? = some [V.str l[i]] := by unfold strs;rw [List.getElem?_map,hx0];rfl
  generalize l[i] = x at *
  have e2 : (x.toList == s.toList) = decide (x = s) := toList_beq x s
  rw [e1]
  by_cases hxs : x = s
  ·rw [decide_eq_true hxs] at e2
   rw [decide_eq_true hxs.symm,Bool.true_or]
   repeat' ((conv => whnf);first | refine (Ix.mk ⟨i,[V.str x],rfl,hgx,?_⟩) | refine Gs.id ?_ | refine Brn.T (by (try simp only [smT]);first | rfl | assumption | omega | fail) ?_ | (refine Bnd.mk (fun hm => ?_);(try simp only [smT] at hm)) | fail)
   all_goals (conv => whnf)
   all_goals first | (exfalso;simp_all;done) | exact Ret.is rfl
  ·rw [decide_eq_false hxs] at e2
   rw [decide_eq_false (fun e => hxs e.symm),Bool.false_or]
   repeat' ((conv => whnf);first | refine (Ix.mk ⟨i,[V.str x],rfl,hgx,?_⟩) | refine Gs.id ?_ | refine Brn.T (by (try simp only [smT]);first | rfl | omega | fail) ?_ | refine Brn.F (by (try simp only [smT]);first | rfl | assumption | fail) ?_ | (refine Bnd.mk (fun hm => ?_);(try simp only [smT] at hm)) | refine Rng.mk (by (try simp only [smT]);omega) ?_ | fail)
   all_goals (conv => whnf)
   all_goals first | (exfalso;simp_all;done) | exact ⟨i + 1,⟨by omega,rfl⟩,by omega,[],⟨by (try dsimp only);(repeat (refine LeT.cons rfl (by first | exact LeS.d (by first | exact LeD.u rfl | fail) | fail) ?_));exact LeT.nil,by (try dsimp only);repeat (first | exact LeO.nil | fail)⟩⟩
 ·obtain rfl : i = n := by omega
  have e1 : inS s ((l.take i).drop i) = false := by rw [List.drop_of_length_le (by rw [List.length_take];omega)];rfl
  rw [e1]
  repeat' ((conv => whnf);first | refine Gs.id ?_ | with_reducible refine Brn.F rfl ?_ | refine Brn.F (by (try simp only [smT]);first | rfl | omega | fail) ?_ | fail)
  all_goals (conv => whnf)
  all_goals exact Ret.is rfl
def ctM (vs : List ByteArray) : Ct := vs.foldl Ct.add ⟨0,0,0⟩
theorem ctM_snoc (vs : List ByteArray) (v : ByteArray) : ctM (vs ++ [v]) = (ctM vs).add v := by simp [ctM]
theorem ctM_take (vs : List ByteArray) (i : Nat) (v : ByteArray) (h : vs[i]? = some v) : ctM (vs.take (i + 1)) = (ctM (vs.take i)).add v := by
 rw [List.take_add_one,h];exact ctM_snoc _ _
theorem ctM_bd (vs : List ByteArray) : ∀ i,i ≤ vs.length → (ctM (vs.take i)).t = i ∧ 0 ≤ (ctM (vs.take i)).f ∧ (ctM (vs.take i)).f ≤ i ∧ 0 ≤ (ctM (vs.take i)).x ∧ (ctM (vs.take i)).x ≤ i ∧ (ctM (vs.take i)).f + (ctM (vs.take i)).x ≤ i
 | 0,_ => by simp [ctM]
 | i + 1,h => by
  have ih := ctM_bd vs i (by omega)
  obtain ⟨v,hv⟩ : ∃ v,vs[i]? = some v := ⟨_,List.getElem?_eq_getElem (by omega)⟩
  rw [ctM_take vs i v hv]
  generalize ctM (vs.take i) = c at *
  unfold Ct.add
  dsimp only
  split <;> split <;> first | omega | (simp_all;omega)
set_option maxHeartbeats 4000000 in
theorem summary_R (vs : List ByteArray) (hl : vs.length ≤ 9000000000) : CallsA Tryz.prog 26 [.d (.u (strs' vs))] [] (Is (dsr (ctM vs).line)) := by
 refine callsA_of_vc (T := tt) Tryz.func26 rfl rfl rfl rfl rfl ?_
 repeat' ((conv => whnf);first | refine Gs.id ?_ | fail)
 all_goals (conv => whnf)
 refine ⟨⟨Nat,fun i => i ≤ vs.length,fun i => vs.length - i,fun i => ⟨[(0,.d (.u (strs' vs))),(3,di (ctM (vs.take i)).f),(4,di (ctM (vs.take i)).x),(5,di i)],[]⟩,0,Nat.zero_le _,⟨[],⟨by (try dsimp only);(repeat (refine LeT.cons rfl (by first | exact LeS.d (by first | exact LeD.u rfl | fail) | fail) ?_));exact LeT.nil,by (try dsimp only);repeat (first | exact LeO.nil | fail)⟩⟩,fun i hi => ?_⟩⟩
 dsimp only at hi ⊢
 have hbd := ctM_bd vs i hi
 by_cases h9 : i < vs.length
 ·have hx0 : vs[i]? = some vs[i] := List.getElem?_eq_getElem h9
  have htk := ctM_take vs i _ hx0
  have hgx : (strs vs)[i]? = some [V.str vs[i]] := by unfold strs;rw [List.getElem?_map,hx0];rfl
  have hcast : ((i + 1 : Nat) : Int) = (i : Int) + 1 := by omega
  generalize vs[i] = v at *
  generalize hc0 : ctM (vs.take i) = c at *
  have h1 := toList_beq v okB
  have h2 := toList_beq v failB
  have h3 := toList_beq (v.extract 0 8) failC
  have hfc : failC.size = 8 := rfl
  unfold Ct.add vk preB at htk
  rw [hfc] at htk
  by_cases e1 : v = okB
  ·rw [decide_eq_true e1] at h1
   rw [if_pos e1] at htk
   simp only [if_true,if_neg (show ¬ (0 : Nat) = 1 by omega)] at htk
   clear e1
   repeat' ((conv => whnf);first | refine (Ix.mk ⟨i,[V.str v],rfl,hgx,?_⟩) | rw [h1] | refine Gs.id ?_ | with_reducible refine Brn.T rfl ?_ | refine Brn.T (by (try simp only [smT]);first | rfl | omega | fail) ?_ | (refine Bnd.mk (fun hm => ?_);(try simp only [smT] at hm)) | refine Rng.mk (by (try simp only [smT]);omega) ?_ | fail)
   all_goals (conv => whnf)
   all_goals first | exact ⟨i + 1,by omega,by omega,[],by (rw [htk];exact ⟨by (try dsimp only);(repeat (refine LeT.cons rfl (by first | exact LeS.d (by first | exact LeD.u rfl | fail) | fail) ?_));exact LeT.nil,by (try dsimp only);repeat (first | exact LeO.nil | fail)⟩)⟩ | (exfalso;simp_all;done)
  ·rw [decide_eq_false e1] at h1
   rw [if_neg e1] at htk
   clear e1
   by_cases e2 : v = failB
   ·rw [decide_eq_true e2] at h2
    rw [if_pos e2] at htk
    simp only [if_true,if_neg (show ¬ (1 : Nat) = 0 by omega)] at htk
    clear e2
    repeat' ((conv => whnf);first | refine (Ix.mk ⟨i,[V.str v],rfl,hgx,?_⟩) | rw [h1] | rw [h2] | refine Gs.id ?_ | with_reducible refine Brn.T rfl ?_ | with_reducible refine Brn.F rfl ?_ | refine Brn.T (by (try simp only [smT]);first | rfl | omega | fail) ?_ | (refine Bnd.mk (fun hm => ?_);(try simp only [smT] at hm)) | refine Rng.mk (by (try simp only [smT]);omega) ?_ | fail)
    all_goals (conv => whnf)
    all_goals first | exact ⟨i + 1,by omega,by omega,[],by (rw [htk];exact ⟨by (try dsimp only);(repeat (refine LeT.cons rfl (by first | exact LeS.d (by first | exact LeD.u rfl | fail) | fail) ?_));exact LeT.nil,by (try dsimp only);repeat (first | exact LeO.nil | fail)⟩)⟩ | (exfalso;simp_all;done)
   ·rw [decide_eq_false e2] at h2
    rw [if_neg e2] at htk
    clear e2
    by_cases e3 : 8 ≤ v.size
    ·rw [decide_eq_true e3,Bool.true_and] at htk
     generalize hy : v.extract 0 8 = y at *
     by_cases e4 : y = failC
     ·rw [decide_eq_true e4] at h3 htk
      simp only [if_true,if_neg (show ¬ (1 : Nat) = 0 by omega)] at htk
      clear e4
      repeat' ((conv => whnf);first | refine (Ix.mk ⟨i,[V.str v],rfl,hgx,?_⟩) | rw [h1] | rw [h2] | rw [h3] | (refine Slc.mk ⟨0,8,rfl,rfl,by omega,by omega,?_⟩;rw [hy]) | refine Gs.id ?_ | with_reducible refine Brn.T rfl ?_ | with_reducible refine Brn.F rfl ?_ | refine Brn.T (by (try simp only [smT]);first | rfl | omega | fail) ?_ | (refine Bnd.mk (fun hm => ?_);(try simp only [smT] at hm)) | refine Rng.mk (by (try simp only [smT]);omega) ?_ | fail)
      all_goals (conv => whnf)
      all_goals first | exact ⟨i + 1,by omega,by omega,[],by (rw [htk];exact ⟨by (try dsimp only);(repeat (refine LeT.cons rfl (by first | exact LeS.d (by first | exact LeD.u rfl | fail) | fail) ?_));exact LeT.nil,by (try dsimp only);repeat (first | exact LeO.nil | fail)⟩)⟩ | (exfalso;simp_all;done) | (exfalso;simp at *;omega)
     ·rw [decide_eq_false e4] at h3 htk
      simp only [if_neg (show ¬ (2 : Nat) = 0 by omega),if_neg (show ¬ (2 : Nat) = 1 by omega),Bool.false_eq_true,if_false] at htk
      clear e4
      repeat' ((conv => whnf);first | refine (Ix.mk ⟨i,[V.str v],rfl,hgx,?_⟩) | rw [h1] | rw [h2] | rw [h3] | (refine Slc.mk ⟨0,8,rfl,rfl,by omega,by omega,?_⟩;rw [hy]) | refine Gs.id ?_ | with_reducible refine Brn.F rfl ?_ | refine Brn.T (by (try simp only [smT]);first | rfl | omega | fail) ?_ | (refine Bnd.mk (fun hm => ?_);(try simp only [smT] at hm)) | refine Rng.mk (by (try simp only [smT]);omega) ?_ | fail)
      all_goals (conv => whnf)
      all_goals first | exact ⟨i + 1,by omega,by omega,[],by (rw [htk];exact ⟨by (try dsimp only);(repeat (refine LeT.cons rfl (by first | exact LeS.d (by first | exact LeD.u rfl | fail) | fail) ?_));exact LeT.nil,by (try dsimp only);repeat (first | exact LeO.nil | fail)⟩)⟩ | (exfalso;simp_all;done) | (exfalso;simp at *;omega)
    ·rw [decide_eq_false e3,Bool.false_and] at htk
     simp only [if_neg (show ¬ (2 : Nat) = 0 by omega),if_neg (show ¬ (2 : Nat) = 1 by omega),Bool.false_eq_true,if_false] at htk
     repeat' ((conv => whnf);first | refine (Ix.mk ⟨i,[V.str v],rfl,hgx,?_⟩) | rw [h1] | rw [h2] | refine Gs.id ?_ | with_reducible refine Brn.F rfl ?_ | refine Brn.T (by (try simp only [smT]);first | rfl | omega | fail) ?_ | refine Brn.F (by (try simp only [smT]);first | rfl | omega | fail) ?_ | (refine Bnd.mk (fun hm => ?_);(try simp only [smT] at hm)) | refine Rng.mk (by (try simp only [smT]);omega) ?_ | fail)
     all_goals (conv => whnf)
     all_goals first | exact ⟨i + 1,by omega,by omega,[],by (rw [htk];exact ⟨by (try dsimp only);(repeat (refine LeT.cons rfl (by first | exact LeS.d (by first | exact LeD.u rfl | fail) | fail) ?_));exact LeT.nil,by (try dsimp only);repeat (first | exact LeO.nil | fail)⟩)⟩ | (exfalso;simp_all;done) | (exfalso;simp at *;omega)
 ·obtain rfl : i = vs.length := by omega
  rw [List.take_length] at hbd ⊢
  generalize ctM vs = c at *
  obtain ⟨t,f,x⟩ := c
  dsimp only at hbd ⊢
  obtain ⟨ht,hbd⟩ := hbd
  subst ht
  have dec : ∀ n : Int,0 ≤ n → n ≤ 9223372036854775807 → CallsA Tryz.prog 42 [di n] [] (Is (dsr (itoaB n))) := fun n h0 h1 => decimal_R 20 n (by omega) h0 h1
  have hlen : (strs vs).length = vs.length := by simp [strs]
  have i1 : CallsA Tryz.prog 42 [di ((strs vs).length : Nat)] [] (Is (dsr (itoaB (vs.length : Nat)))) := by rw [hlen];exact dec (vs.length : Nat) (by omega) (by omega)
  have i2 := dec f (by omega) (by omega)
  have i3 := dec x (by omega) (by omega)
  have i4 : CallsA Tryz.prog 42 [di (((strs vs).length : Nat) - f - x)] [] (Is (dsr (itoaB ((vs.length : Nat) - f - x)))) := by rw [hlen];exact dec ((vs.length : Nat) - f - x) (by omega) (by omega)
  have z1 := itoaB_size (n := (vs.length : Nat)) (by omega) (by omega)
  have z2 := itoaB_size (n := f) (by omega) (by omega)
  have z3 := itoaB_size (n := x) (by omega) (by omega)
  have z4 := itoaB_size (n := (vs.length : Nat) - f - x) (by omega) (by omega)
  have s1 : (ByteArray.mk #[32,116,101,115,116,115,44,32]).size = 8 := rfl
  have s2 : (ByteArray.mk #[32,111,107,44,32]).size = 5 := rfl
  have s3 : (ByteArray.mk #[32,102,97,105,108,101,100,44,32]).size = 9 := rfl
  have s4 : (ByteArray.mk #[32,111,116,104,101,114]).size = 6 := rfl
  unfold Ct.line
  dsimp only
  repeat' ((conv => whnf);first | refine Cat.mk (by unfold maxLen;(try simp only [ByteArray.size_append]);omega) ?_ | refine Gs.id ?_ | refine Brn.F (by (try simp only [smT]);first | rfl | omega | fail) ?_ | (refine Bnd.mk (fun hm => ?_);(try simp only [smT] at hm)) | refine Rng.mk (by (try simp only [smT]);omega) ?_ | (refine CL.mk (Or.inl ?_);(conv => whnf);first | refine Cl.is (i1) rfl (by first | exact fun _ => rfl | fail) ?_ | refine Cl.is (i2) rfl (by first | exact fun _ => rfl | fail) ?_ | refine Cl.is (i3) rfl (by first | exact fun _ => rfl | fail) ?_ | refine Cl.is (i4) rfl (by first | exact fun _ => rfl | fail) ?_) | fail)
  all_goals (conv => whnf)
  all_goals first | exact Ret.is rfl | (exfalso;simp at *;omega)
end Go.Proofs.YtjpaaaecbgmcgaaGreatDoor
namespace Go.Proofs.YtjpaaaecbgmcgaaGreatDoor
open Go.RowKit
abbrev ocs (os : List Oc) : V := .sl 5 (os.map Oc.row)
theorem vline_size (s : ByteArray) : (vline s).1.size ≤ 4010 := by
 have h1 : emB0.size = 0 := rfl
 have h2 : failB.size = 6 := rfl
 have h3 : failC.size = 8 := rfl
 have h4 : errB.size = 7 := rfl
 unfold vline
 split
 ·dsimp only;omega
 ·split
  ·dsimp only;omega
  ·split
   ·dsimp only;rw [ByteArray.size_append,ByteArray.size_extract];omega
   ·dsimp only;rw [ByteArray.size_append];omega
theorem verdM_size (o : Oc) : (verdM o).1.size ≤ 4010 := by
 have h1 : okB.size = 2 := rfl
 have h2 : fuelB.size = 11 := rfl
 have h3 : outB.size = 15 := rfl
 have h4 : emB0.size = 0 := rfl
 unfold verdM
 repeat' split
 all_goals first | exact vline_size _ | (dsimp only;omega)
def codeAt (names : List ByteArray) (os : List Oc) (i : Nat) : Int :=
 if nameB (names[i]?.getD emB0) = false then 7
 else if inS (names[i]?.getD emB0) (names.take i) = true then 8
 else (verdM (os[i]?.getD ⟨emB0,0,emB0,[],0⟩)).2.1
def repBad (names : List ByteArray) (os : List Oc) : Nat → Nat → Option (Int × Int)
 | 0,_ => none
 | k + 1,i => if codeAt names os i ≠ 0 then some (codeAt names os i,(i : Int)) else repBad names os k (i + 1)
abbrev lnM (n v : ByteArray) : ByteArray := n ++ colB ++ v
def verds (os : List Oc) : List ByteArray := os.map fun o => (verdM o).1
def linesR (names : List ByteArray) (os : List Oc) : List ByteArray := List.zipWith lnM names (verds os)
def repLines (names : List ByteArray) (os : List Oc) : List ByteArray := linesR names os ++ [(ctM (verds os)).line]
abbrev nilF (c i : Int) : SV := .t [.d (.u .nl),.a [.u (.int .i64 c),.u (.int .i64 i)]]
abbrev ownF (n : Nat) : SV := .t [.d (.ow 931 n),.a [.u (.int .i64 0),.u (.int .i64 0)]]
def repPost (names : List ByteArray) (os : List Oc) (zt : Fz) : Option (Int × Int) → SV → List (Nat × Ob) → Prop
 | some (c,i) => Iso (nilF c i) [(907,tbOb zt)]
 | none => Iso (ownF (repLines names os).length) [(931,.ar 9 1 (strs (repLines names os))),(907,tbOb zt)]
theorem nameB_size' {s : ByteArray} (h : nameB s = true) : s.size ≤ 24 := by
 unfold nameB at h
 simp only [Bool.and_eq_true,decide_eq_true_eq] at h
 exact h.1.1.2
theorem linesR_take {names : List ByteArray} {os : List Oc} {i : Nat} {n : ByteArray} {o : Oc} (hn : names[i]? = some n) (ho : os[i]? = some o) : (linesR names os).take (i + 1) = (linesR names os).take i ++ [lnM n (verdM o).1] := by
 rw [List.take_add_one]
 have : (linesR names os)[i]? = some (lnM n (verdM o).1) := by simp [linesR,verds,List.getElem?_zipWith,hn,ho]
 rw [this];rfl
theorem linesR_len {names : List ByteArray} {os : List Oc} (h : names.length = os.length) : (linesR names os).length = names.length := by simp [linesR,verds,h]
set_option maxHeartbeats 8000000 in
theorem report_T (names : List ByteArray) (os : List Oc) (hlen : names.length = os.length) (hn : names.length ≤ 100) (htr : ∀ o ∈ os,o.trace.size ≤ 1000000000000) (zt : Fz) (hz : Tab zt) :
  CallsA Tryz.prog 8 [.d (.u (strs' names)),.d (.u (ocs os))] [(907,tbOb zt)] (repPost names os zt (repBad names os names.length 0)) := by
 have hln : (strs names).length = names.length := by simp [strs]
 have hlo : (os.map Oc.row).length = names.length := by simp [hlen]
 refine callsA_of_vcO (T := tt) Tryz.func8 rfl rfl rfl rfl rfl ?_
 repeat' ((conv => whnf);first | refine Gs.id ?_ | refine Brn.F (by (try simp only [smT]);first | rfl | omega | fail) ?_ | (refine Bnd.mk (fun hm => ?_);(try simp only [smT] at hm)) | fail)
 all_goals (conv => whnf)
 refine ⟨⟨Nat,fun i => i ≤ names.length ∧ repBad names os names.length 0 = repBad names os (names.length - i) i,fun i => names.length - i,fun i => ⟨[(0,.d (.u (strs' names))),(1,.d (.u (ocs os))),(5,.d (.p 5 0)),(6,.d (.p 6 0)),(7,.d (.ow 900 ((linesR names os).take i).length)),(24,.d (.u (strs' names))),(25,di names.length),(26,di i)],[(5,.bx 25 [.u (.int .i64 0),.u (.int .i64 0)]),(6,.bx 45 (ctM ((verds os).take i)).ds),(900,.ar 9 1 (strs ((linesR names os).take i))),(907,tbOb zt)]⟩,0,⟨Nat.zero_le _,rfl⟩,⟨[(5,.k 5),(6,.k 6),(900,.n 1),(907,.k 907)],⟨by (try dsimp only);(repeat (refine LeT.cons rfl (by first | exact LeS.d (by first | exact LeD.u rfl | exact LeD.p rfl | exact LeD.no rfl rfl | exact LeD.u (by simp;done) | fail) | fail) ?_));exact LeT.nil,by (try dsimp only);repeat (first | exact LeO.nil | refine LeO.bx rfl rfl (by repeat (first | exact LeL.nil | refine LeL.cons (by first | exact LeD.u rfl | fail) ?_)) ?_ | refine LeO.ab rfl rfl (by repeat (first | exact LeL.nil | fail)) (by first | rfl | fail) ?_ | refine LeO.no rfl rfl ?_)⟩⟩,fun i hi => ?_⟩⟩
 obtain ⟨hi,he⟩ := hi
 dsimp only
 rw [he]
 by_cases h9 : i < names.length
 ·obtain ⟨n,hn0⟩ : ∃ n,names[i]? = some n := ⟨_,List.getElem?_eq_getElem h9⟩
  obtain ⟨o,ho0⟩ : ∃ o,os[i]? = some o := ⟨_,List.getElem?_eq_getElem (by omega)⟩
  have hrn : (strs names)[i]? = some [V.str n] := by unfold strs;rw [List.getElem?_map,hn0];rfl
  have hro : (os.map Oc.row)[i]? = some o.row := by rw [List.getElem?_map,ho0];rfl
  have hv := verdict_T o (htr o (List.mem_of_getElem? ho0))
  have hvs := verdM_size o
  have hnm := isName_T' n
  have hst : strs (names.take i) = (strs names).take i := by simp [strs,List.map_take]
  have hct : CallsA Tryz.prog 21 [.d (.u (.sl 1 ((strs names).take i))),dsr n] [] (Is (db (inS n (names.take i)))) := by
   rw [← hst];exact contS_T (names.take i) n (by rw [List.length_take];omega)
  have htl := linesR_take hn0 ho0
  have hvt : (verds os)[i]? = some (verdM o).1 := by simp [verds,ho0]
  have hctm := ctM_take (verds os) i _ hvt
  have hbd := ctM_bd (verds os) i (by simp [verds];omega)
  have hcd : codeAt names os i = if nameB n = false then 7 else if inS n (names.take i) = true then 8 else (verdM o).2.1 := by simp [codeAt,hn0,ho0]
  rw [show names.length - i = (names.length - (i + 1)) + 1 by omega,repBad]
  have hll : ((linesR names os).take i).length = i := by rw [List.length_take,linesR_len hlen];omega
  generalize verdM o = vd at *
  obtain ⟨v,c,ix⟩ := vd
  dsimp only at hv hvs hctm hcd hvt htl
  have hcz : (ByteArray.mk #[58,32]).size = 2 := rfl
  by_cases q1 : nameB n = false
  ·rw [q1] at hnm
   rw [if_pos q1] at hcd
   rw [hcd,if_pos (by omega)]
   clear hct htl hctm
   repeat' ((conv => whnf);first | refine (Ix.mk ⟨i,[V.str n],rfl,hrn,?_⟩) | refine (Ix.mk ⟨i,o.row,rfl,hro,?_⟩) | refine Gs.id ?_ | with_reducible refine Brn.T rfl ?_ | refine Brn.T (by (try simp only [smT]);first | rfl | omega | fail) ?_ | refine Drw.of (T := tt) (i := 16) [5] [] [(0,true),(1,true),(2,true),(3,true),(4,true),(5,false)] (by kernel_rfl) ?_ | (refine CL.mk (Or.inl ?_);(conv => whnf);first | refine Cl.is (hnm) rfl (by first | exact fun _ => rfl | fail) ?_ | refine Cl.is (hv) rfl (by first | exact fun _ => rfl | fail) ?_) | fail)
   all_goals (conv => whnf)
   all_goals refine RetO.mk ⟨[(907,.k 907)],_,_,(by exact LeS.ts (by repeat (first | exact LeCs.nil | refine LeCs.cons (by first | exact LeC.d (by first | exact LeD.u rfl | fail) | exact LeC.a (by repeat (first | exact LeL.nil | refine LeL.cons (by first | exact LeD.u rfl | fail) ?_))) ?_))),(by repeat (first | exact LeO.nil | refine LeO.ab rfl rfl (by repeat (first | exact LeL.nil | fail)) (by first | rfl | fail) ?_ | fail)),rfl,rfl⟩
  have q1' : nameB n = true := by simpa using q1
  rw [q1'] at hnm
  rw [if_neg q1] at hcd
  have hnz := nameB_size' q1'
  cases q2 : inS n (names.take i)
  ·rw [q2] at hcd
   rw [if_neg (by simp)] at hcd
   rw [hcd]
   by_cases q3 : c = 0
   ·rw [if_neg (by simpa using q3)]
    subst q3
    generalize ctM ((verds os).take i) = cc at *
    generalize hL : (linesR names os).take i = L at *
    repeat' ((conv => whnf);first | refine (Ix.mk ⟨i,[V.str n],rfl,hrn,?_⟩) | refine (Ix.mk ⟨i,o.row,rfl,hro,?_⟩) | refine Cat.mk (by unfold maxLen;(try simp only [ByteArray.size_append]);omega) ?_ | refine Gs.id ?_ | with_reducible refine Brn.F rfl ?_ | refine Brn.T (by (try simp only [smT]);first | rfl | omega | fail) ?_ | refine Brn.F (by (try simp only [smT]);first | rfl | assumption | fail) ?_ | refine Rng.mk (by (try simp only [smT]);omega) ?_ | refine Apd.mk (by first | rfl | simp) (by first | rfl | fail) (by (try simp only [smT]);first | omega | fail) (by unfold maxLen;first | (simp;omega) | fail) ?_ | refine Slc.mk ⟨_,_,rfl,rfl,(by (try simp only [smT]);omega),(by (try simp only [smT]);omega),?_⟩ | (refine CL.mk (Or.inl ?_);(conv => whnf);first | refine Cl.is (hnm) rfl (by first | exact fun _ => rfl | fail) ?_ | refine Cl.is (hv) rfl (by first | exact fun _ => rfl | fail) ?_ | refine Cl.is (hct) rfl (by first | exact fun _ => rfl | fail) ?_) | (refine CL.mk (Or.inr (Raw.callFP (x := .func _) [6] [6] [] rfl rfl rfl rfl rfl rfl rfl rfl rfl (cadd_P cc v (by omega) (by omega) (by omega)) ?_));rintro _ _ ⟨rfl,rfl⟩;refine BkP.mk rfl rfl ?_))
    all_goals (conv => whnf)
    all_goals exact ⟨i + 1,⟨by omega,rfl⟩,by omega,[(5,.k 5),(6,.k 6),(900,.k 66),(907,.k 907)],by (rw [htl,hctm];exact ⟨by (try dsimp only);(repeat (refine LeT.cons rfl (by first | exact LeS.d (by first | exact LeD.u rfl | exact LeD.p rfl | exact LeD.ow rfl (by simp [lnM]) | fail) | fail) ?_));exact LeT.nil,by (try dsimp only);repeat (first | exact LeO.nil | refine LeO.bx rfl rfl (by repeat (first | exact LeL.nil | refine LeL.cons (by first | exact LeD.u rfl | fail) ?_)) ?_ | refine LeO.ar rfl rfl (by first | rfl | simp [lnM]) ?_ | refine LeO.ab rfl rfl (by repeat (first | exact LeL.nil | fail)) (by first | rfl | fail) ?_ | fail)⟩)⟩
   ·rw [if_pos q3]
    repeat' ((conv => whnf);first | refine (Ix.mk ⟨i,[V.str n],rfl,hrn,?_⟩) | refine (Ix.mk ⟨i,o.row,rfl,hro,?_⟩) | refine Gs.id ?_ | with_reducible refine Brn.F rfl ?_ | refine Brn.T (by (try simp only [smT]);first | rfl | assumption | omega | fail) ?_ | refine Brn.F (by (try simp only [smT]);first | rfl | assumption | fail) ?_ | refine Slc.mk ⟨_,_,rfl,rfl,(by (try simp only [smT]);omega),(by (try simp only [smT]);omega),?_⟩ | refine Drw.of (T := tt) (i := 16) [5] [] [(0,true),(1,true),(2,true),(3,true),(4,true),(5,false)] (by kernel_rfl) ?_ | (refine CL.mk (Or.inl ?_);(conv => whnf);first | refine Cl.is (hnm) rfl (by first | exact fun _ => rfl | fail) ?_ | refine Cl.is (hv) rfl (by first | exact fun _ => rfl | fail) ?_ | refine Cl.is (hct) rfl (by first | exact fun _ => rfl | fail) ?_) | fail)
    all_goals (conv => whnf)
    all_goals refine RetO.mk ⟨[(907,.k 907)],_,_,(by exact LeS.ts (by repeat (first | exact LeCs.nil | refine LeCs.cons (by first | exact LeC.d (by first | exact LeD.u rfl | fail) | exact LeC.a (by repeat (first | exact LeL.nil | refine LeL.cons (by first | exact LeD.u rfl | fail) ?_))) ?_))),(by repeat (first | exact LeO.nil | refine LeO.ab rfl rfl (by repeat (first | exact LeL.nil | fail)) (by first | rfl | fail) ?_ | fail)),rfl,rfl⟩
  ·rw [q2] at hcd
   rw [if_pos rfl] at hcd
   rw [hcd,if_pos (by omega)]
   clear htl hctm
   repeat' ((conv => whnf);first | refine (Ix.mk ⟨i,[V.str n],rfl,hrn,?_⟩) | refine (Ix.mk ⟨i,o.row,rfl,hro,?_⟩) | refine Gs.id ?_ | with_reducible refine Brn.T rfl ?_ | with_reducible refine Brn.F rfl ?_ | refine Brn.T (by (try simp only [smT]);first | rfl | assumption | omega | fail) ?_ | refine Slc.mk ⟨_,_,rfl,rfl,(by (try simp only [smT]);omega),(by (try simp only [smT]);omega),?_⟩ | refine Drw.of (T := tt) (i := 16) [5] [] [(0,true),(1,true),(2,true),(3,true),(4,true),(5,false)] (by kernel_rfl) ?_ | (refine CL.mk (Or.inl ?_);(conv => whnf);first | refine Cl.is (hnm) rfl (by first | exact fun _ => rfl | fail) ?_ | refine Cl.is (hv) rfl (by first | exact fun _ => rfl | fail) ?_ | refine Cl.is (hct) rfl (by first | exact fun _ => rfl | fail) ?_) | fail)
   all_goals (conv => whnf)
   all_goals refine RetO.mk ⟨[(907,.k 907)],_,_,(by exact LeS.ts (by repeat (first | exact LeCs.nil | refine LeCs.cons (by first | exact LeC.d (by first | exact LeD.u rfl | fail) | exact LeC.a (by repeat (first | exact LeL.nil | refine LeL.cons (by first | exact LeD.u rfl | fail) ?_))) ?_))),(by repeat (first | exact LeO.nil | refine LeO.ab rfl rfl (by repeat (first | exact LeL.nil | fail)) (by first | rfl | fail) ?_ | fail)),rfl,rfl⟩
 ·obtain rfl : i = names.length := by omega
  have hbd := ctM_bd (verds os) os.length (by simp [verds])
  have hvl : (verds os).take names.length = verds os := List.take_of_length_le (by simp [verds,hlen])
  have hlt : (linesR names os).take names.length = linesR names os := List.take_of_length_le (by rw [linesR_len hlen];omega)
  rw [hlen] at hvl
  have hlt' := hlt
  rw [hvl] at hbd
  rw [Nat.sub_self,repBad]
  have hll := linesR_len hlen
  have hpost : repPost names os zt none = Iso (ownF (linesR names os ++ [(ctM (verds os)).line]).length) [(931,.ar 9 1 (strs (linesR names os ++ [(ctM (verds os)).line]))),(907,tbOb zt)] := rfl
  rw [hpost]
  rw [hlt,hlen,hvl]
  rw [hlen] at hll hn hln hlo
  generalize linesR names os = L at *
  generalize ctM (verds os) = cc at *
  have hcl := cline_T cc (by omega) (by omega) (by omega) zt hz
  repeat' ((conv => whnf);first | refine Gs.id ?_ | refine Brn.F (by (try simp only [smT]);first | rfl | omega | fail) ?_ | refine Apd.mk (by first | rfl | simp) (by first | rfl | fail) (by (try simp only [smT]);first | omega | fail) (by unfold maxLen;first | (simp;omega) | fail) ?_ | (refine CL.mk (Or.inr (Raw.callI [907] [907] rfl rfl rfl rfl rfl rfl rfl (hcl) ?_));rintro _ _ ⟨rfl,rfl⟩;refine Bk.mk rfl rfl ?_))
  all_goals (conv => whnf)
  all_goals refine RetO.mk ⟨[(931,.k 72),(907,.k 907)],_,_,(by exact LeS.ts (by repeat (first | exact LeCs.nil | refine LeCs.cons (by first | exact LeC.d (by first | exact LeD.ow rfl (by simp) | fail) | exact LeC.a (by repeat (first | exact LeL.nil | refine LeL.cons (by first | exact LeD.u rfl | fail) ?_))) ?_))),(by repeat (first | exact LeO.nil | refine LeO.ar rfl rfl (by first | rfl | simp) ?_ | refine LeO.ab rfl rfl (by repeat (first | exact LeL.nil | fail)) (by first | rfl | fail) ?_ | fail)),rfl,rfl⟩
end Go.Proofs.YtjpaaaecbgmcgaaGreatDoor
namespace Go.Proofs.YtjpaaaecbgmcgaaGreatDoor
open Go.RowKit
abbrev ownG (n : Nat) : SV := .t [.d (.ow 932 n),.a [.u (.int .i64 0),.u (.int .i64 0)]]
def repPostR (names : List ByteArray) (os : List Oc) : Option (Int × Int) → SV → List (Nat × Ob) → Prop
 | some (c,i) => Iso (nilF c i) []
 | none => Iso (ownG (repLines names os).length) [(932,.ar 9 1 (strs (repLines names os)))]
set_option maxHeartbeats 8000000 in
theorem report_R (names : List ByteArray) (os : List Oc) (hlen : names.length = os.length) (hn : names.length ≤ 100) (htr : ∀ o ∈ os,o.trace.size ≤ 1000000000000) :
  CallsA Tryz.prog 9 [.d (.u (strs' names)),.d (.u (ocs os))] [] (repPostR names os (repBad names os names.length 0)) := by
 have hat := fun a b => at_R a b
 have hln : (strs names).length = names.length := by simp [strs]
 have hlo : (os.map Oc.row).length = names.length := by simp [hlen]
 refine callsA_of_vcO (T := tt) Tryz.func9 rfl rfl rfl rfl rfl ?_
 repeat' ((conv => whnf);first | refine Gs.id ?_ | refine Brn.F (by (try simp only [smT]);first | rfl | omega | fail) ?_ | (refine Bnd.mk (fun hm => ?_);(try simp only [smT] at hm)) | fail)
 all_goals (conv => whnf)
 refine ⟨⟨Nat,fun i => i ≤ names.length ∧ repBad names os names.length 0 = repBad names os (names.length - i) i,fun i => names.length - i,fun i => ⟨[(0,.d (.u (strs' names))),(1,.d (.u (ocs os))),(5,.d (.p 5 0)),(6,.d (.ow 900 ((linesR names os).take i).length)),(7,.d (.ow 901 ((verds os).take i).length)),(8,di i)],[(5,.bx 25 [.u (.int .i64 0),.u (.int .i64 0)]),(900,.ar 9 1 (strs ((linesR names os).take i))),(901,.ar 9 1 (strs ((verds os).take i)))]⟩,0,⟨Nat.zero_le _,rfl⟩,⟨[(5,.k 5),(900,.n 1),(901,.n 1)],⟨by (try dsimp only);(repeat (refine LeT.cons rfl (by first | exact LeS.d (by first | exact LeD.u rfl | exact LeD.p rfl | exact LeD.no rfl rfl | fail) | fail) ?_));exact LeT.nil,by (try dsimp only);repeat (first | exact LeO.nil | refine LeO.bx rfl rfl (by repeat (first | exact LeL.nil | refine LeL.cons (by first | exact LeD.u rfl | fail) ?_)) ?_ | refine LeO.no rfl rfl ?_)⟩⟩,fun i hi => ?_⟩⟩
 obtain ⟨hi,he⟩ := hi
 dsimp only
 rw [he]
 by_cases h9 : i < names.length
 ·obtain ⟨n,hn0⟩ : ∃ n,names[i]? = some n := ⟨_,List.getElem?_eq_getElem h9⟩
  obtain ⟨o,ho0⟩ : ∃ o,os[i]? = some o := ⟨_,List.getElem?_eq_getElem (by omega)⟩
  have hrn : (strs names)[i]? = some [V.str n] := by unfold strs;rw [List.getElem?_map,hn0];rfl
  have hro : (os.map Oc.row)[i]? = some o.row := by rw [List.getElem?_map,ho0];rfl
  have hv := verdict_R o (htr o (List.mem_of_getElem? ho0))
  have hvs := verdM_size o
  have hnm := name_R n
  have hct := hasN_R names n i (by omega) (by omega)
  have htl := linesR_take hn0 ho0
  have hvt : (verds os)[i]? = some (verdM o).1 := by simp [verds,ho0]
  have hvt2 : (verds os).take (i + 1) = (verds os).take i ++ [(verdM o).1] := by rw [List.take_add_one,hvt];rfl
  have hcd : codeAt names os i = if nameB n = false then 7 else if inS n (names.take i) = true then 8 else (verdM o).2.1 := by simp [codeAt,hn0,ho0]
  rw [show names.length - i = (names.length - (i + 1)) + 1 by omega,repBad]
  have hll : ((linesR names os).take i).length = i := by rw [List.length_take,linesR_len hlen];omega
  have hlv : ((verds os).take i).length = i := by rw [List.length_take];simp [verds];omega
  generalize verdM o = vd at *
  obtain ⟨v,c,ix⟩ := vd
  dsimp only at hv hvs hcd hvt hvt2 htl
  have hcz : (ByteArray.mk #[58,32]).size = 2 := rfl
  by_cases q1 : nameB n = false
  ·rw [q1] at hnm
   rw [if_pos q1] at hcd
   rw [hcd,if_pos (by omega)]
   clear hct htl hvt2
   repeat' ((conv => whnf);first | refine (Ix.mk ⟨i,[V.str n],rfl,hrn,?_⟩) | refine Gs.id ?_ | with_reducible refine Brn.T rfl ?_ | refine Brn.T (by (try simp only [smT]);first | rfl | omega | fail) ?_ | (refine Bnd.mk (fun hm => ?_);(try simp only [smT] at hm)) | (refine CL.mk (Or.inl ?_);(conv => whnf);first | refine Cl.is (hnm) rfl (by first | exact fun _ => rfl | fail) ?_ | refine Cl.is (hat _ _) rfl (by first | exact fun _ => rfl | fail) ?_) | fail)
   all_goals (conv => whnf)
   all_goals refine RetO.mk ⟨[],_,_,(by exact LeS.ts (by repeat (first | exact LeCs.nil | refine LeCs.cons (by first | exact LeC.d (by first | exact LeD.u rfl | fail) | exact LeC.a (by repeat (first | exact LeL.nil | refine LeL.cons (by first | exact LeD.u rfl | fail) ?_))) ?_))),(by repeat (first | exact LeO.nil | fail)),rfl,rfl⟩
  have q1' : nameB n = true := by simpa using q1
  rw [q1'] at hnm
  rw [if_neg q1] at hcd
  have hnz := nameB_size' q1'
  cases q2 : inS n (names.take i)
  ·rw [q2] at hcd hct
   rw [if_neg (by simp)] at hcd
   rw [hcd]
   by_cases q3 : c = 0
   ·rw [if_neg (by simpa using q3)]
    subst q3
    generalize hW : (verds os).take i = W at *
    generalize hL : (linesR names os).take i = L at *
    repeat' ((conv => whnf);first | refine (Ix.mk ⟨i,[V.str n],rfl,hrn,?_⟩) | refine (Ix.mk ⟨i,o.row,rfl,hro,?_⟩) | refine Cat.mk (by unfold maxLen;(try simp only [ByteArray.size_append]);omega) ?_ | refine Gs.id ?_ | with_reducible refine Brn.F rfl ?_ | refine Brn.T (by (try simp only [smT]);first | rfl | omega | fail) ?_ | (refine Bnd.mk (fun hm => ?_);(try simp only [smT] at hm)) | refine Rng.mk (by (try simp only [smT]);omega) ?_ | refine Apd.mk (by first | rfl | simp) (by first | rfl | fail) (by (try simp only [smT]);first | omega | fail) (by unfold maxLen;first | (simp;omega) | fail) ?_ | (refine CL.mk (Or.inl ?_);(conv => whnf);first | refine Cl.is (hnm) rfl (by first | exact fun _ => rfl | fail) ?_ | refine Cl.is (hv) rfl (by first | exact fun _ => rfl | fail) ?_ | refine Cl.is (hct) rfl (by first | exact fun _ => rfl | fail) ?_ | fail) | fail)
    all_goals (conv => whnf)
    all_goals exact ⟨i + 1,⟨by omega,rfl⟩,by omega,[(5,.k 5),(900,.k 72),(901,.k 62)],by (rw [htl,hvt2];exact ⟨by (try dsimp only);(repeat (refine LeT.cons rfl (by first | exact LeS.d (by first | exact LeD.u rfl | exact LeD.p rfl | exact LeD.ow rfl (by simp [lnM]) | fail) | fail) ?_));exact LeT.nil,by (try dsimp only);repeat (first | exact LeO.nil | refine LeO.bx rfl rfl (by repeat (first | exact LeL.nil | refine LeL.cons (by first | exact LeD.u rfl | fail) ?_)) ?_ | refine LeO.ar rfl rfl (by first | simp [lnM]) ?_ | fail)⟩)⟩
   ·rw [if_pos q3]
    repeat' ((conv => whnf);first | refine (Ix.mk ⟨i,[V.str n],rfl,hrn,?_⟩) | refine (Ix.mk ⟨i,o.row,rfl,hro,?_⟩) | refine Gs.id ?_ | with_reducible refine Brn.F rfl ?_ | refine Brn.T (by (try simp only [smT]);first | rfl | assumption | omega | fail) ?_ | (refine Bnd.mk (fun hm => ?_);(try simp only [smT] at hm)) | (refine CL.mk (Or.inl ?_);(conv => whnf);first | refine Cl.is (hnm) rfl (by first | exact fun _ => rfl | fail) ?_ | refine Cl.is (hv) rfl (by first | exact fun _ => rfl | fail) ?_ | refine Cl.is (hct) rfl (by first | exact fun _ => rfl | fail) ?_ | refine Cl.is (hat _ _) rfl (by first | exact fun _ => rfl | fail) ?_) | fail)
    all_goals (conv => whnf)
    all_goals refine RetO.mk ⟨[],_,_,(by exact LeS.ts (by repeat (first | exact LeCs.nil | refine LeCs.cons (by first | exact LeC.d (by first | exact LeD.u rfl | fail) | exact LeC.a (by repeat (first | exact LeL.nil | refine LeL.cons (by first | exact LeD.u rfl | fail) ?_))) ?_))),(by repeat (first | exact LeO.nil | fail)),rfl,rfl⟩
  ·rw [q2] at hcd hct
   rw [if_pos rfl] at hcd
   rw [hcd,if_pos (by omega)]
   clear htl hvt2
   repeat' ((conv => whnf);first | refine (Ix.mk ⟨i,[V.str n],rfl,hrn,?_⟩) | refine Gs.id ?_ | with_reducible refine Brn.T rfl ?_ | with_reducible refine Brn.F rfl ?_ | refine Brn.T (by (try simp only [smT]);first | rfl | omega | fail) ?_ | (refine Bnd.mk (fun hm => ?_);(try simp only [smT] at hm)) | (refine CL.mk (Or.inl ?_);(conv => whnf);first | refine Cl.is (hnm) rfl (by first | exact fun _ => rfl | fail) ?_ | refine Cl.is (hct) rfl (by first | exact fun _ => rfl | fail) ?_ | refine Cl.is (hat _ _) rfl (by first | exact fun _ => rfl | fail) ?_) | fail)
   all_goals (conv => whnf)
   all_goals refine RetO.mk ⟨[],_,_,(by exact LeS.ts (by repeat (first | exact LeCs.nil | refine LeCs.cons (by first | exact LeC.d (by first | exact LeD.u rfl | fail) | exact LeC.a (by repeat (first | exact LeL.nil | refine LeL.cons (by first | exact LeD.u rfl | fail) ?_))) ?_))),(by repeat (first | exact LeO.nil | fail)),rfl,rfl⟩
 ·obtain rfl : i = names.length := by omega
  have hvl : (verds os).take names.length = verds os := List.take_of_length_le (by simp [verds,hlen])
  have hlt : (linesR names os).take names.length = linesR names os := List.take_of_length_le (by rw [linesR_len hlen];omega)
  rw [Nat.sub_self,repBad]
  have hll := linesR_len hlen
  have hvn : (verds os).length = names.length := by simp [verds,hlen]
  have hpost : repPostR names os none = Iso (ownG (linesR names os ++ [(ctM (verds os)).line]).length) [(932,.ar 9 1 (strs (linesR names os ++ [(ctM (verds os)).line])))] := rfl
  rw [hpost,hlt,hvl]
  have hsm := summary_R (verds os) (by omega)
  generalize linesR names os = L at *
  generalize verds os = W at *
  generalize (ctM W).line = sm at *
  repeat' ((conv => whnf);first | refine Gs.id ?_ | refine Brn.F (by (try simp only [smT]);first | rfl | omega | fail) ?_ | (refine Bnd.mk (fun hm => ?_);(try simp only [smT] at hm)) | refine Apd.mk (by first | rfl | simp) (by first | rfl | fail) (by (try simp only [smT]);first | omega | fail) (by unfold maxLen;first | (simp;omega) | fail) ?_ | (refine CL.mk (Or.inl ?_);(conv => whnf);refine Cl.is (hat _ _) rfl (by first | exact fun _ => rfl | fail) ?_) | (refine CL.mk (Or.inr (Raw.callR (by repeat (first | exact ArgR.nil | refine ArgR.d rfl (by first | exact BorR.ar rfl (by first | rfl | (simp;done)) | fail) ?_ | fail)) rfl (hsm) ⟨_,rfl,rfl⟩ rfl ?_));refine Bk.mk rfl rfl ?_))
  all_goals (conv => whnf)
  all_goals refine RetO.mk ⟨[(932,.k 77)],_,_,(by exact LeS.ts (by repeat (first | exact LeCs.nil | refine LeCs.cons (by first | exact LeC.d (by first | exact LeD.ow rfl (by simp) | fail) | exact LeC.a (by repeat (first | exact LeL.nil | refine LeL.cons (by first | exact LeD.u rfl | fail) ?_))) ?_))),(by repeat (first | exact LeO.nil | refine LeO.ar rfl rfl (by first | simp) ?_ | fail)),rfl,rfl⟩
end Go.Proofs.YtjpaaaecbgmcgaaGreatDoor
namespace Go.Proofs.YtjpaaaecbgmcgaaGreatDoor
open Go.RowKit
theorem report_many_T (names : List ByteArray) (os : List Oc) (h : 100 < names.length) : CallsA Tryz.prog 8 [.d (.u (strs' names)),.d (.u (ocs os))] [] (Is (nilF 2 (-1))) := by
 have hln : (strs names).length = names.length := by simp [strs]
 refine callsA_of_vc (T := tt) Tryz.func8 rfl rfl rfl rfl rfl ?_
 repeat' ((conv => whnf);first | refine Gs.id ?_ | refine Brn.T (by (try simp only [smT]);first | rfl | omega | fail) ?_ | (refine Bnd.mk (fun hm => ?_);(try simp only [smT] at hm)) | fail)
 all_goals (conv => whnf)
 all_goals first | exact Ret.is rfl | (exfalso;simp at *;omega)
theorem report_len_T (names : List ByteArray) (os : List Oc) (h : ¬ 100 < names.length) (h2 : names.length ≠ os.length) : CallsA Tryz.prog 8 [.d (.u (strs' names)),.d (.u (ocs os))] [] (Is (nilF 9 (-2))) := by
 have hln : (strs names).length = names.length := by simp [strs]
 have hlo : (os.map Oc.row).length = os.length := by simp
 refine callsA_of_vc (T := tt) Tryz.func8 rfl rfl rfl rfl rfl ?_
 repeat' ((conv => whnf);first | refine Gs.id ?_ | refine Brn.T (by (try simp only [smT]);first | rfl | omega | fail) ?_ | refine Brn.F (by (try simp only [smT]);first | rfl | omega | fail) ?_ | (refine Bnd.mk (fun hm => ?_);(try simp only [smT] at hm)) | fail)
 all_goals (conv => whnf)
 all_goals first | exact Ret.is rfl | (exfalso;simp at *;omega)
theorem report_many_R (names : List ByteArray) (os : List Oc) (h : 100 < names.length) : CallsA Tryz.prog 9 [.d (.u (strs' names)),.d (.u (ocs os))] [] (Is (nilF 2 (-1))) := by
 have hat := fun a b => at_R a b
 have hln : (strs names).length = names.length := by simp [strs]
 refine callsA_of_vc (T := tt) Tryz.func9 rfl rfl rfl rfl rfl ?_
 repeat' ((conv => whnf);first | refine Gs.id ?_ | refine Brn.T (by (try simp only [smT]);first | rfl | omega | fail) ?_ | (refine Bnd.mk (fun hm => ?_);(try simp only [smT] at hm)) | (refine CL.mk (Or.inl ?_);(conv => whnf);refine Cl.is (hat _ _) rfl (by first | exact fun _ => rfl | fail) ?_) | fail)
 all_goals (conv => whnf)
 all_goals first | exact Ret.is rfl | (exfalso;simp at *;omega)
theorem report_len_R (names : List ByteArray) (os : List Oc) (h : ¬ 100 < names.length) (h2 : names.length ≠ os.length) : CallsA Tryz.prog 9 [.d (.u (strs' names)),.d (.u (ocs os))] [] (Is (nilF 9 (-2))) := by
 have hat := fun a b => at_R a b
 have hln : (strs names).length = names.length := by simp [strs]
 have hlo : (os.map Oc.row).length = os.length := by simp
 refine callsA_of_vc (T := tt) Tryz.func9 rfl rfl rfl rfl rfl ?_
 repeat' ((conv => whnf);first | refine Gs.id ?_ | refine Brn.T (by (try simp only [smT]);first | rfl | omega | fail) ?_ | refine Brn.F (by (try simp only [smT]);first | rfl | omega | fail) ?_ | (refine Bnd.mk (fun hm => ?_);(try simp only [smT] at hm)) | (refine CL.mk (Or.inl ?_);(conv => whnf);refine Cl.is (hat _ _) rfl (by first | exact fun _ => rfl | fail) ?_) | fail)
 all_goals (conv => whnf)
 all_goals first | exact Ret.is rfl | (exfalso;simp at *;omega)
theorem strings_N : CallsA Tryz.prog 10 [.d (.u .nl),.d (.u .nl)] [] (Is (db true)) := by
 refine callsA_of_vc (T := tt) Tryz.func10 rfl rfl rfl rfl rfl ?_
 repeat' ((conv => whnf);first | refine Gs.id ?_ | with_reducible refine Brn.F rfl ?_ | fail)
 all_goals (conv => whnf)
 refine ⟨⟨Nat,fun i => i = 0,fun i => 0,fun i => ⟨[(0,.d (.u .nl)),(1,.d (.u .nl)),(5,di i)],[]⟩,0,rfl,⟨[],⟨by (try dsimp only);(repeat (refine LeT.cons rfl (by first | exact LeS.d (by first | exact LeD.u rfl | fail) | fail) ?_));exact LeT.nil,by (try dsimp only);repeat (first | exact LeO.nil | fail)⟩⟩,fun i hi => ?_⟩⟩
 have hi : i = 0 := hi
 subst hi
 dsimp only
 repeat' ((conv => whnf);first | refine Gs.id ?_ | with_reducible refine Brn.F rfl ?_ | fail)
 all_goals (conv => whnf)
 all_goals exact Ret.is rfl
set_option maxHeartbeats 8000000 in
theorem law_report_T (names : List ByteArray) (os : List Oc) (htr : ∀ o ∈ os,o.trace.size ≤ 1000000000000) (zt : Fz) (hz : TabU zt) :
  CallsA Tryz.prog 3 [.d (.u (strs' names)),.d (.u (ocs os))] [(907,tbOb zt)] (Iso (db true) [(907,tbOb zt)]) := by
 have hts := tested_T zt hz.sp
 have hlo : (os.map Oc.row).length = os.length := by simp
 refine callsA_of_vcO (T := tt) Tryz.func3 rfl rfl rfl rfl rfl ?_
 repeat' ((conv => whnf);first | refine Gs.id ?_ | fail)
 all_goals (conv => whnf)
 refine ⟨⟨Nat,fun i => i ≤ os.length,fun i => os.length - i,fun i => ⟨[(0,.d (.u (strs' names))),(1,.d (.u (ocs os))),(5,di i)],[(907,tbOb zt)]⟩,0,Nat.zero_le _,⟨[(907,.k 907)],⟨by (try dsimp only);(repeat (refine LeT.cons rfl (by first | exact LeS.d (by first | exact LeD.u rfl | fail) | fail) ?_));exact LeT.nil,by (try dsimp only);repeat (first | exact LeO.nil | refine LeO.ab rfl rfl (by repeat (first | exact LeL.nil | fail)) (by first | rfl | fail) ?_ | fail)⟩⟩,fun i hi => ?_⟩⟩
 dsimp only at hi ⊢
 by_cases h9 : i < os.length
 ·obtain ⟨o,ho0⟩ : ∃ o,os[i]? = some o := ⟨_,List.getElem?_eq_getElem h9⟩
  have hro : (os.map Oc.row)[i]? = some o.row := by rw [List.getElem?_map,ho0];rfl
  have hv := verdict_T o (htr o (List.mem_of_getElem? ho0))
  have hw := verdict_R o (htr o (List.mem_of_getElem? ho0))
  generalize verdM o = vd at *
  obtain ⟨v,c,ix⟩ := vd
  have hvv : (v.toList == v.toList) = true := by rw [toList_beq];simp
  repeat' ((conv => whnf);first | refine (Ix.mk ⟨i,o.row,rfl,hro,?_⟩) | rw [hvv] | refine Gs.id ?_ | with_reducible refine Brn.F rfl ?_ | refine Brn.T (by (try simp only [smT]);first | rfl | omega | fail) ?_ | refine Brn.F (by (try simp only [smT]);first | rfl | (simp [*];done) | fail) ?_ | (refine Bnd.mk (fun hm => ?_);(try simp only [smT] at hm)) | refine Rng.mk (by (try simp only [smT]);omega) ?_ | refine Eqv.mk (by kernel_rfl) ?_ | (refine CL.mk (Or.inl ?_);(conv => whnf);first | refine Cl.is (hv) rfl (by first | exact fun _ => rfl | fail) ?_ | refine Cl.is (hw) rfl (by first | exact fun _ => rfl | fail) ?_) | fail)
  all_goals (conv => whnf)
  all_goals first | exact ⟨i + 1,by omega,by omega,[(907,.k 907)],⟨by (try dsimp only);(repeat (refine LeT.cons rfl (by first | exact LeS.d (by first | exact LeD.u rfl | fail) | fail) ?_));exact LeT.nil,by (try dsimp only);repeat (first | exact LeO.nil | refine LeO.ab rfl rfl (by repeat (first | exact LeL.nil | fail)) (by first | rfl | fail) ?_ | fail)⟩⟩ | (exfalso;simp at *;done)
 ·obtain rfl : i = os.length := by omega
  by_cases h1 : 100 < names.length
  ·have r1 := report_many_T names os h1
   have r2 := report_many_R names os h1
   have r3 := strings_N
   repeat' ((conv => whnf);first | refine Gs.id ?_ | with_reducible refine Brn.T rfl ?_ | refine Brn.F (by (try simp only [smT]);first | rfl | omega | fail) ?_ | (refine Bnd.mk (fun hm => ?_);(try simp only [smT] at hm)) | refine Eqv.mk (by kernel_rfl) ?_ | (refine CL.mk (Or.inl ?_);(conv => whnf);first | refine Cl.is (r1) rfl (by first | exact fun _ => rfl | fail) ?_ | refine Cl.is (r2) rfl (by first | exact fun _ => rfl | fail) ?_ | refine Cl.is (r3) rfl (by first | exact fun _ => rfl | fail) ?_) | (refine CL.mk (Or.inr (Raw.callI [907] [907] rfl rfl rfl rfl rfl rfl rfl (hts) ?_));rintro _ _ ⟨rfl,rfl⟩;refine Bk.mk rfl rfl ?_))
   all_goals (conv => whnf)
   all_goals first | refine RetO.mk ⟨[(907,.k 907)],_,_,(by first | exact LeS.d (by first | exact LeD.u rfl | fail) | fail),(by repeat (first | exact LeO.nil | refine LeO.ab rfl rfl (by repeat (first | exact LeL.nil | fail)) (by first | rfl | fail) ?_ | fail)),rfl,rfl⟩ | (exfalso;simp at *;done)
  by_cases h2 : names.length = os.length
  ·have r1 := report_T names os h2 (by omega) htr zt hz.tab
   have r2 := report_R names os h2 (by omega) htr
   cases hb : repBad names os names.length 0 with
   | some ci =>
    obtain ⟨c,ix⟩ := ci
    rw [hb] at r1 r2
    have r1 : CallsA Tryz.prog 8 [.d (.u (strs' names)),.d (.u (ocs os))] [(907,tbOb zt)] (Iso (nilF c ix) [(907,tbOb zt)]) := r1
    have r2 : CallsA Tryz.prog 9 [.d (.u (strs' names)),.d (.u (ocs os))] [] (Is (nilF c ix)) := r2
    have r3 := strings_N
    repeat' ((conv => whnf);first | refine Gs.id ?_ | with_reducible refine Brn.T rfl ?_ | refine Brn.T (by (try simp only [smT]);first | rfl | (simp [*];done) | fail) ?_ | refine Brn.F (by (try simp only [smT]);first | rfl | omega | fail) ?_ | (refine Bnd.mk (fun hm => ?_);(try simp only [smT] at hm)) | refine Eqv.mk (by kernel_rfl) ?_ | (refine CL.mk (Or.inl ?_);(conv => whnf);first | refine Cl.is (r2) rfl (by first | exact fun _ => rfl | fail) ?_ | refine Cl.is (r3) rfl (by first | exact fun _ => rfl | fail) ?_) | (refine CL.mk (Or.inr (Raw.callI [907] [907] rfl rfl rfl rfl rfl rfl rfl (r1) ?_));rintro _ _ ⟨rfl,rfl⟩;refine Bk.mk rfl rfl ?_) | (refine CL.mk (Or.inr (Raw.callI [907] [907] rfl rfl rfl rfl rfl rfl rfl (hts) ?_));rintro _ _ ⟨rfl,rfl⟩;refine Bk.mk rfl rfl ?_))
    all_goals (conv => whnf)
    all_goals first | refine RetO.mk ⟨[(907,.k 907)],_,_,(by first | exact LeS.d (by first | exact LeD.u rfl | fail) | fail),(by repeat (first | exact LeO.nil | refine LeO.ab rfl rfl (by repeat (first | exact LeL.nil | fail)) (by first | rfl | fail) ?_ | fail)),rfl,rfl⟩ | (exfalso;simp at *;done)
   | none =>
    rw [hb] at r1 r2
    have r1 : CallsA Tryz.prog 8 [.d (.u (strs' names)),.d (.u (ocs os))] [(907,tbOb zt)] (Iso (ownF (repLines names os).length) [(931,.ar 9 1 (strs (repLines names os))),(907,tbOb zt)]) := r1
    have r2 : CallsA Tryz.prog 9 [.d (.u (strs' names)),.d (.u (ocs os))] [] (Iso (ownG (repLines names os).length) [(932,.ar 9 1 (strs (repLines names os)))]) := r2
    generalize repLines names os = L at *
    have r3 := strings_R L L
    rw [decide_eq_true rfl] at r3
    repeat' ((conv => whnf);first | refine Gs.id ?_ | with_reducible refine Brn.T rfl ?_ | refine Brn.F (by (try simp only [smT]);first | rfl | omega | fail) ?_ | (refine Bnd.mk (fun hm => ?_);(try simp only [smT] at hm)) | refine Eqv.mk (by kernel_rfl) ?_ | (refine CL.mk (Or.inr (Raw.callI [907] [931,907] rfl rfl rfl rfl rfl rfl rfl (r1) ?_));rintro _ _ ⟨rfl,rfl⟩;refine Bk.mk rfl rfl ?_) | (refine CL.mk (Or.inr (Raw.callI [] [932] rfl rfl rfl rfl rfl rfl rfl (r2) ?_));rintro _ _ ⟨rfl,rfl⟩;refine Bk.mk rfl rfl ?_) | (refine CL.mk (Or.inr (Raw.callR (by repeat (first | exact ArgR.nil | refine ArgR.d rfl (by first | exact BorR.ar rfl (by first | rfl | (simp;done)) | fail) ?_ | fail)) rfl (r3) ⟨_,rfl,rfl⟩ rfl ?_));refine Bk.mk rfl rfl ?_) | (refine CL.mk (Or.inr (Raw.callI [907] [907] rfl rfl rfl rfl rfl rfl rfl (hts) ?_));rintro _ _ ⟨rfl,rfl⟩;refine Bk.mk rfl rfl ?_))
    all_goals (conv => whnf)
    all_goals first | refine RetO.mk ⟨[(907,.k 907)],_,_,(by first | exact LeS.d (by first | exact LeD.u rfl | fail) | fail),(by repeat (first | exact LeO.nil | refine LeO.ab rfl rfl (by repeat (first | exact LeL.nil | fail)) (by first | rfl | fail) ?_ | fail)),rfl,rfl⟩ | (exfalso;simp at *;done)
  ·have r1 := report_len_T names os h1 h2
   have r2 := report_len_R names os h1 h2
   have r3 := strings_N
   repeat' ((conv => whnf);first | refine Gs.id ?_ | with_reducible refine Brn.T rfl ?_ | refine Brn.F (by (try simp only [smT]);first | rfl | omega | fail) ?_ | (refine Bnd.mk (fun hm => ?_);(try simp only [smT] at hm)) | refine Eqv.mk (by kernel_rfl) ?_ | (refine CL.mk (Or.inl ?_);(conv => whnf);first | refine Cl.is (r1) rfl (by first | exact fun _ => rfl | fail) ?_ | refine Cl.is (r2) rfl (by first | exact fun _ => rfl | fail) ?_ | refine Cl.is (r3) rfl (by first | exact fun _ => rfl | fail) ?_) | (refine CL.mk (Or.inr (Raw.callI [907] [907] rfl rfl rfl rfl rfl rfl rfl (hts) ?_));rintro _ _ ⟨rfl,rfl⟩;refine Bk.mk rfl rfl ?_))
   all_goals (conv => whnf)
   all_goals first | refine RetO.mk ⟨[(907,.k 907)],_,_,(by first | exact LeS.d (by first | exact LeD.u rfl | fail) | fail),(by repeat (first | exact LeO.nil | refine LeO.ab rfl rfl (by repeat (first | exact LeL.nil | fail)) (by first | rfl | fail) ?_ | fail)),rfl,rfl⟩ | (exfalso;simp at *;done)
end Go.Proofs.YtjpaaaecbgmcgaaGreatDoor
namespace Go.Proofs.YtjpaaaecbgmcgaaGreatDoor
open Go.ChangeShapes Go.WideShapes Go.Deep
section
variable {H : Type} {enc : TypeId × Value → H} {P : Program} {w : World} {base : Nat} {spare : Nat → Bool} {held : Bool}
theorem cell_lt {p : Addr} {v : Value} (h : w.cell? p = some v) : p.block < w.heap.size := by
 by_cases hl : p.block < w.heap.size
 ·exact hl
 ·have : w.heap[p.block]? = none := by simp;omega
  simp [World.cell?,this] at h
end
section
variable {H : Type} {P : Program} {ts : List TypeId} {ds : List (DataW H)}
theorem weights_field {t u : TypeId} {fs : Array Field} {parts : List (DataW H)} {j : Nat} {d : DataW H} (hu : P.underlying t = some (.struct fs)) (hf : (fs.toList.map (·.type))[j]? = some u) (hd : parts[j]? = some d) {n : Nat} (hn : n ∈ d.weights P u) : n ∈ (DataW.agg parts).weights P t := by
 simp only [DataW.weights,hu]
 exact DataW.weights_mem_each hf hd n hn
theorem weights_slice {t e : TypeId} {el sp : List (DataW H)} (hu : P.underlying t = some (.slice e)) : (el.length + sp.length) * P.bytesOf e ∈ (DataW.slice el sp).weights P t := by
 simp [DataW.weights,hu]
end
end Go.Proofs.YtjpaaaecbgmcgaaGreatDoor
