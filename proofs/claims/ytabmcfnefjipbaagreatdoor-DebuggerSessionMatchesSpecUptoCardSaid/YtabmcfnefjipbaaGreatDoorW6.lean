/-
  Part 6 of the proofs of dsession_holds: laws and contracts that they need.
-/
import Derived.Test.YtabmcfnefjipbaaGreatDoorW5
import Derived.Shelf.SlGeneric
import Derived.Shelf.Strings.OnBuilder
import Derived.Shelf.LaysM
import Derived.Shelf.Strconv.Itoa3
import Derived.Shelf.SlSortCmp.NoneTotal
import Derived.Ground.SlsfProg
set_option linter.unusedVariables false
set_option linter.unusedSimpArgs false
namespace Go.Proofs.YtabmcfnefjipbaaGreatDoor
open Go.Shelf
def lays156_ren : Go.Shelf.Ren := ⟨fun | 156 => 42 | 165 => 73 | 166 => 74 | 169 => 75 | 240 => 102 | 241 => 103 | 276 => 119 | 277 => 120 | n => n,fun | 31 => 23 | 9 => 9 | 3 => 3 | 4 => 4 | 0 => 0 | 20 => 20 | 72 => 134 | 76 => 138 | 70 => 131 | 37 => 132 | 75 => 137 | 127 => 173 | 164 => 185 | 5 => 5 | 80 => 140 | n => n,fun | n => n⟩
theorem lays156 : Go.Proofs.Lays.n156 Tryz.prog lays156_ren := {
 mixed := by kernel_rfl
 f156 := Tryz.func42.trans (congrArg some (by kernel_rfl))
 f165 := Tryz.func73.trans (congrArg some (by kernel_rfl))
 f166 := Tryz.func74.trans (congrArg some (by kernel_rfl))
 f169 := Tryz.func75.trans (congrArg some (by kernel_rfl))
 f240 := Tryz.func102.trans (congrArg some (by kernel_rfl))
 f241 := Tryz.func103.trans (congrArg some (by kernel_rfl))
 f276 := Tryz.func119.trans (congrArg some (by kernel_rfl))
 f277 := Tryz.func120.trans (congrArg some (by kernel_rfl))
 t0 := Tryz.underlying0
 a0 := Tryz.isAgg0
 z0 := Tryz.sizeOf0
 v0 := Tryz.zeroValue0
 t3 := Tryz.underlying3
 a3 := Tryz.isAgg3
 z3 := Tryz.sizeOf3
 v3 := Tryz.zeroValue3
 t4 := Tryz.underlying4
 a4 := Tryz.isAgg4
 z4 := Tryz.sizeOf4
 v4 := Tryz.zeroValue4
 t9 := Tryz.underlying9
 a9 := Tryz.isAgg9
 z9 := Tryz.sizeOf9
 v9 := Tryz.zeroValue9
 t20 := Tryz.underlying20
 a20 := Tryz.isAgg20
 z20 := Tryz.sizeOf20
 v20 := Tryz.zeroValue20
 t31 := Tryz.underlying23
 a31 := Tryz.isAgg23
 z31 := Tryz.sizeOf23
 v31 := Tryz.zeroValue23
 t37 := Tryz.underlying132
 a37 := Tryz.isAgg132
 z37 := Tryz.sizeOf132
 v37 := Tryz.zeroValue132
 t70 := Tryz.underlying131
 a70 := Tryz.isAgg131
 z70 := Tryz.sizeOf131
 v70 := Tryz.zeroValue131
 t72 := Tryz.underlying134
 a72 := Tryz.isAgg134
 z72 := Tryz.sizeOf134
 v72 := Tryz.zeroValue134
 t75 := Tryz.underlying137
 a75 := Tryz.isAgg137
 z75 := Tryz.sizeOf137
 v75 := Tryz.zeroValue137
 t76 := Tryz.underlying138
 a76 := Tryz.isAgg138
 z76 := Tryz.sizeOf138
 v76 := Tryz.zeroValue138
 t127 := Tryz.underlying173
 a127 := Tryz.isAgg173
 z127 := Tryz.sizeOf173
 v127 := Tryz.zeroValue173
 t164 := Tryz.underlying185
 a164 := Tryz.isAgg185
 z164 := Tryz.sizeOf185
 v164 := Tryz.zeroValue185 }
theorem Builder_Extra_156 : Builder.Extra Tryz.prog lays156_ren := {
 sizeBuilder := by kernel_rfl
 liesBuilder := by kernel_rfl
 t5 := Tryz.underlying5
 a5 := Tryz.isAgg5
 z5 := Tryz.sizeOf5
 v5 := Tryz.zeroValue5
 infoByte := by kernel_rfl
 cellsByte := by kernel_rfl
 sizeByte := by kernel_rfl
 neB5 := by decide }
def laysM171_ren : Go.Shelf.Ren := ⟨fun | 171 => 43 | 243 => 76 | 246 => 104 | 283 => 121 | 284 => 122 | 285 => 123 | 286 => 124 | 129 => 134 | 317 => 144 | 318 => 145 | 319 => 146 | 320 => 147 | 337 => 165 | 338 => 166 | n => n,fun | 3 => 3 | 9 => 9 | 2 => 2 | 4 => 4 | 171 => 188 | 0 => 0 | 53 => 189 | 37 => 132 | 5 => 5 | 173 => 192 | 212 => 208 | 51 => 202 | 20 => 20 | 213 => 209 | 46 => 177 | 232 => 235 | 233 => 236 | n => n,fun | 17 => 1 | 18 => 4 | 19 => 5 | n => n⟩
theorem laysM171 : Go.Proofs.LaysM.n171 Tryz.prog laysM171_ren := {
 mixed := by kernel_rfl
 f129 := Tryz.func134.trans (congrArg some (by kernel_rfl))
 f171 := Tryz.func43.trans (congrArg some (by kernel_rfl))
 f243 := Tryz.func76.trans (congrArg some (by kernel_rfl))
 f246 := Tryz.func104.trans (congrArg some (by kernel_rfl))
 f283 := Tryz.func121.trans (congrArg some (by kernel_rfl))
 f284 := Tryz.func122.trans (congrArg some (by kernel_rfl))
 f285 := Tryz.func123.trans (congrArg some (by kernel_rfl))
 f286 := Tryz.func124.trans (congrArg some (by kernel_rfl))
 f317 := Tryz.func144.trans (congrArg some (by kernel_rfl))
 f318 := Tryz.func145.trans (congrArg some (by kernel_rfl))
 f319 := Tryz.func146.trans (congrArg some (by kernel_rfl))
 f320 := Tryz.func147.trans (congrArg some (by kernel_rfl))
 f337 := Tryz.func165.trans (congrArg some (by kernel_rfl))
 f338 := Tryz.func166.trans (congrArg some (by kernel_rfl))
 t0 := Tryz.underlying0
 a0 := Tryz.isAgg0
 z0 := Tryz.sizeOf0
 v0 := Tryz.zeroValue0
 t2 := Tryz.underlying2
 a2 := Tryz.isAgg2
 z2 := Tryz.sizeOf2
 v2 := Tryz.zeroValue2
 t3 := Tryz.underlying3
 a3 := Tryz.isAgg3
 z3 := Tryz.sizeOf3
 v3 := Tryz.zeroValue3
 t4 := Tryz.underlying4
 a4 := Tryz.isAgg4
 z4 := Tryz.sizeOf4
 v4 := Tryz.zeroValue4
 t5 := Tryz.underlying5
 a5 := Tryz.isAgg5
 z5 := Tryz.sizeOf5
 v5 := Tryz.zeroValue5
 t9 := Tryz.underlying9
 a9 := Tryz.isAgg9
 z9 := Tryz.sizeOf9
 v9 := Tryz.zeroValue9
 t20 := Tryz.underlying20
 a20 := Tryz.isAgg20
 z20 := Tryz.sizeOf20
 v20 := Tryz.zeroValue20
 t37 := Tryz.underlying132
 a37 := Tryz.isAgg132
 z37 := Tryz.sizeOf132
 v37 := Tryz.zeroValue132
 t46 := Tryz.underlying177
 a46 := Tryz.isAgg177
 z46 := Tryz.sizeOf177
 v46 := Tryz.zeroValue177
 t51 := Tryz.underlying202
 a51 := Tryz.isAgg202
 z51 := Tryz.sizeOf202
 v51 := Tryz.zeroValue202
 t53 := Tryz.underlying189
 a53 := Tryz.isAgg189
 z53 := Tryz.sizeOf189
 v53 := Tryz.zeroValue189
 t171 := Tryz.underlying188
 a171 := Tryz.isAgg188
 z171 := Tryz.sizeOf188
 v171 := Tryz.zeroValue188
 t173 := Tryz.underlying192
 a173 := Tryz.isAgg192
 z173 := Tryz.sizeOf192
 v173 := Tryz.zeroValue192
 t212 := Tryz.underlying208
 a212 := Tryz.isAgg208
 z212 := Tryz.sizeOf208
 v212 := Tryz.zeroValue208
 t213 := Tryz.underlying209
 a213 := Tryz.isAgg209
 z213 := Tryz.sizeOf209
 t232 := Tryz.underlying235
 a232 := Tryz.isAgg235
 z232 := Tryz.sizeOf235
 v232 := Tryz.zeroValue235
 t233 := Tryz.underlying236
 a233 := Tryz.isAgg236
 z233 := Tryz.sizeOf236
 v233 := Tryz.zeroValue236
 g17 := by kernel_rfl
 g18 := by kernel_rfl
 g19 := by kernel_rfl
 i0 := by kernel_rfl
 i2 := by kernel_rfl
 i3 := by kernel_rfl
 i4 := by kernel_rfl
 i5 := by kernel_rfl
 i9 := by kernel_rfl
 i20 := by kernel_rfl
 i37 := by kernel_rfl
 i46 := by kernel_rfl
 i51 := by kernel_rfl
 i53 := by kernel_rfl
 i171 := by kernel_rfl
 i173 := by kernel_rfl
 i212 := by kernel_rfl
 i232 := by kernel_rfl
 i233 := by kernel_rfl
 m17 := by kernel_rfl
 m18 := by kernel_rfl
 m19 := by kernel_rfl }
end Go.Proofs.YtabmcfnefjipbaaGreatDoor
namespace Go.Proofs.YtabmcfnefjipbaaGreatDoor
open Go.RowKit
abbrev di (n : Int) : SV := .d (.u (.int .i64 n))
abbrev db (b : Bool) : SV := .d (.u (.bool b))
abbrev dby (n : Int) : SV := .d (.u (.int .u8 n))
abbrev dsr (s : ByteArray) : SV := .d (.u (.str s))
end Go.Proofs.YtabmcfnefjipbaaGreatDoor
namespace Go.Proofs.YtabmcfnefjipbaaGreatDoor
open Go.RowKit
def digB (c : Int) : Bool := decide (48 ≤ c) && decide (c ≤ 57)
theorem digit_R (c : Int) : CallsA Tryz.prog 63 [dby c] [] (Is (db (digB c))) := by
 by_cases h1 : 48 ≤ c
 ·have e : digB c = decide (c ≤ 57) := by simp [digB,h1]
  rw [e]
  refine callsA_of_vc (T := tt) Tryz.func63 rfl rfl rfl rfl rfl ?_
  repeat' ((conv => whnf);first | refine Gs.id ?_ | refine Brn.T (by (try simp only [smT]);first | rfl | assumption | fail) ?_ | fail)
  all_goals (conv => whnf)
  all_goals exact Ret.is rfl
 ·have e : digB c = false := by simp [digB,h1]
  rw [e]
  refine callsA_of_vc (T := tt) Tryz.func63 rfl rfl rfl rfl rfl ?_
  repeat' ((conv => whnf);first | refine Gs.id ?_ | refine Brn.F (by (try simp only [smT]);first | rfl | omega | fail) ?_ | fail)
  all_goals (conv => whnf)
  all_goals exact Ret.is rfl
def splitB (s : ByteArray) (c : UInt8) : Nat → List ByteArray × Nat
 | 0 => ([],0)
 | i + 1 => if i = s.size ∨ s.data[i]? = some c then ((splitB s c i).1 ++ [s.extract (splitB s c i).2 i],i + 1) else splitB s c i
theorem splitB_le (s : ByteArray) (c : UInt8) : ∀ i,(splitB s c i).1.length ≤ i ∧ (splitB s c i).2 ≤ i
 | 0 => by simp [splitB]
 | i + 1 => by
  have := splitB_le s c i
  rw [splitB]
  split
  ·simp;omega
  ·omega
abbrev strs (l : List ByteArray) : List (List V) := l.map fun s => [V.str s]
theorem splitB_ne (s : ByteArray) (c : UInt8) : (splitB s c (s.size + 1)).1 ≠ [] := by
 rw [splitB,if_pos (.inl rfl)];simp
set_option maxHeartbeats 1000000 in
theorem split_R (s : ByteArray) (c : UInt8) (hs : s.size ≤ 1000000000000) : CallsA Tryz.prog 66 [dsr s,dby c.toNat] [] (Is (.d (.u (.sl 1 (strs (splitB s c (s.size + 1)).1))))) := by
 refine callsA_of_vc (T := tt) Tryz.func66 rfl rfl rfl rfl rfl ?_
 repeat' ((conv => whnf);first | refine Gs.id ?_ | fail)
 all_goals (conv => whnf)
 refine ⟨⟨Nat,fun i => i ≤ s.size + 1,fun i => s.size + 1 - i,fun i => match (splitB s c i).1 with
  | [] => ⟨[(0,dsr s),(1,dby c.toNat),(5,.d (.u .nl)),(6,di (splitB s c i).2),(7,di i)],[]⟩
  | x :: r => ⟨[(0,dsr s),(1,dby c.toNat),(5,.d (.ow 900 (x :: r).length)),(6,di (splitB s c i).2),(7,di i)],[(900,.ar 9 1 (strs (x :: r)))]⟩,0,Nat.zero_le _,⟨[],⟨by (try dsimp only);(repeat (refine LeT.cons rfl (by first | exact LeS.d (by first | exact LeD.u rfl | fail) | fail) ?_));exact LeT.nil,by (try dsimp only);repeat (first | exact LeO.nil | fail)⟩⟩,fun i hi => ?_⟩⟩
 dsimp only at hi ⊢
 obtain ⟨q1,q2⟩ := splitB_le s c i
 have hst := splitB.eq_2 s c i
 have hne := splitB_ne s c
 obtain ⟨L,fr,hL⟩ : ∃ L fr,splitB s c i = (L,fr) := ⟨_,_,rfl⟩
 rw [hL] at q1 q2 hst ⊢
 dsimp only at q1 q2 hst ⊢
 by_cases h9 : i < s.size
 ·have hget : s.data[i]? = some s[i] := by simp [ByteArray.getElem_eq_getElem_data,h9]
  by_cases hc : s[i] = c
  ·rw [if_pos (.inr (by rw [hget,hc]))] at hst
   cases L with
   | nil =>
    dsimp only
    repeat' ((conv => whnf);first | refine Sbx.mk ⟨i,h9,rfl,?_⟩ | refine Slc.mk ⟨fr,i,rfl,rfl,by omega,by omega,?_⟩ | refine Gs.id ?_ | refine Brn.T (by (try simp only [smT]);first | rfl | omega | (simp only [*];done) | fail) ?_ | refine Brn.F (by (try simp only [smT]);first | rfl | omega | fail) ?_ | (refine Bnd.mk (fun hm => ?_);(try simp only [smT] at hm)) | refine Rng.mk (by (try simp only [smT]);omega) ?_ | refine Apd.mk (by first | rfl | fail) (by first | rfl | fail) (by (try simp only [smT]);first | omega | fail) (by unfold maxLen;first | (simp;done) | fail) ?_ | fail)
    all_goals (conv => whnf)
    all_goals
     refine ⟨i + 1,by omega,by omega,[(900,.k 31)],?_⟩
     rw [hst]
     exact ⟨by (try dsimp only);(repeat (refine LeT.cons rfl (by first | exact LeS.d (by first | exact LeD.u rfl | exact LeD.ow rfl rfl | fail) | fail) ?_));exact LeT.nil,by (try dsimp only);repeat (first | exact LeO.nil | refine LeO.ar rfl rfl (by first | rfl | fail) ?_ | fail)⟩
   | cons x r =>
    simp only [List.length_cons] at q1
    dsimp only
    repeat' ((conv => whnf);first | refine Sbx.mk ⟨i,h9,rfl,?_⟩ | refine Slc.mk ⟨fr,i,rfl,rfl,by omega,by omega,?_⟩ | refine Gs.id ?_ | refine Brn.T (by (try simp only [smT]);first | rfl | omega | (simp only [*];done) | fail) ?_ | refine Brn.F (by (try simp only [smT]);first | rfl | omega | fail) ?_ | (refine Bnd.mk (fun hm => ?_);(try simp only [smT] at hm)) | refine Rng.mk (by (try simp only [smT]);omega) ?_ | refine Apd.mk (by first | rfl | simp) (by first | rfl | fail) (by (try simp only [smT]);first | omega | fail) (by unfold maxLen;first | (simp;omega) | fail) ?_ | fail)
    all_goals (conv => whnf)
    all_goals
     refine ⟨i + 1,by omega,by omega,[(900,.k 31)],?_⟩
     rw [hst]
     exact ⟨by (try dsimp only);(repeat (refine LeT.cons rfl (by first | exact LeS.d (by first | exact LeD.u rfl | exact LeD.ow rfl (by simp) | fail) | fail) ?_));exact LeT.nil,by (try dsimp only);repeat (first | exact LeO.nil | refine LeO.ar rfl rfl (by first | simp) ?_ | fail)⟩
  ·have hcn : ¬ (s[i].toNat : Int) = (c.toNat : Int) := fun e => hc (UInt8.toNat_inj.1 (by omega))
   rw [if_neg (by rw [hget];simp;exact ⟨by omega,hc⟩)] at hst
   cases L with
   | nil =>
    dsimp only
    repeat' ((conv => whnf);first | refine Sbx.mk ⟨i,h9,rfl,?_⟩ | refine Gs.id ?_ | refine Brn.T (by (try simp only [smT]);first | rfl | omega | fail) ?_ | refine Brn.F (by (try simp only [smT]);first | rfl | assumption | omega | fail) ?_ | (refine Bnd.mk (fun hm => ?_);(try simp only [smT] at hm)) | refine Rng.mk (by (try simp only [smT]);omega) ?_ | fail)
    all_goals (conv => whnf)
    all_goals
     refine ⟨i + 1,by omega,by omega,[],?_⟩
     rw [hst]
     exact ⟨by (try dsimp only);(repeat (refine LeT.cons rfl (by first | exact LeS.d (by first | exact LeD.u rfl | fail) | fail) ?_));exact LeT.nil,by (try dsimp only);repeat (first | exact LeO.nil | fail)⟩
   | cons x r =>
    dsimp only
    repeat' ((conv => whnf);first | refine Sbx.mk ⟨i,h9,rfl,?_⟩ | refine Gs.id ?_ | refine Brn.T (by (try simp only [smT]);first | rfl | omega | fail) ?_ | refine Brn.F (by (try simp only [smT]);first | rfl | assumption | omega | fail) ?_ | (refine Bnd.mk (fun hm => ?_);(try simp only [smT] at hm)) | refine Rng.mk (by (try simp only [smT]);omega) ?_ | fail)
    all_goals (conv => whnf)
    all_goals
     refine ⟨i + 1,by omega,by omega,[(900,.k 900)],?_⟩
     rw [hst]
     exact ⟨by (try dsimp only);(repeat (refine LeT.cons rfl (by first | exact LeS.d (by first | exact LeD.u rfl | exact LeD.ow rfl rfl | fail) | fail) ?_));exact LeT.nil,by (try dsimp only);repeat (first | exact LeO.nil | refine LeO.ar rfl rfl (by first | rfl | fail) ?_ | fail)⟩
 ·by_cases h10 : i = s.size
  ·subst h10
   rw [if_pos (.inl rfl)] at hst
   cases L with
   | nil =>
    dsimp only
    repeat' ((conv => whnf);first | refine Slc.mk ⟨fr,s.size,rfl,rfl,by omega,by omega,?_⟩ | refine Gs.id ?_ | with_reducible refine Brn.T rfl ?_ | refine Brn.T (by (try simp only [smT]);first | rfl | omega | fail) ?_ | (refine Brn.mk (fun hb => ?_) (fun hb => ?_) <;> (try simp only [smT] at hb) <;> (try (exact absurd trivial hb)) <;> (try (exfalso;omega))) | (refine Bnd.mk (fun hm => ?_);(try simp only [smT] at hm)) | refine Rng.mk (by (try simp only [smT]);omega) ?_ | refine Apd.mk (by first | rfl | fail) (by first | rfl | fail) (by (try simp only [smT]);first | omega | fail) (by unfold maxLen;first | (simp;done) | fail) ?_ | fail)
    all_goals (conv => whnf)
    all_goals
     refine ⟨s.size + 1,by omega,by omega,[(900,.k 31)],?_⟩
     rw [hst]
     exact ⟨by (try dsimp only);(repeat (refine LeT.cons rfl (by first | exact LeS.d (by first | exact LeD.u rfl | exact LeD.ow rfl rfl | fail) | fail) ?_));exact LeT.nil,by (try dsimp only);repeat (first | exact LeO.nil | refine LeO.ar rfl rfl (by first | rfl | fail) ?_ | fail)⟩
   | cons x r =>
    simp only [List.length_cons] at q1
    dsimp only
    repeat' ((conv => whnf);first | refine Slc.mk ⟨fr,s.size,rfl,rfl,by omega,by omega,?_⟩ | refine Gs.id ?_ | with_reducible refine Brn.T rfl ?_ | refine Brn.T (by (try simp only [smT]);first | rfl | omega | fail) ?_ | (refine Brn.mk (fun hb => ?_) (fun hb => ?_) <;> (try simp only [smT] at hb) <;> (try (exact absurd trivial hb)) <;> (try (exfalso;omega))) | (refine Bnd.mk (fun hm => ?_);(try simp only [smT] at hm)) | refine Rng.mk (by (try simp only [smT]);omega) ?_ | refine Apd.mk (by first | rfl | simp) (by first | rfl | fail) (by (try simp only [smT]);first | omega | fail) (by unfold maxLen;first | (simp;omega) | fail) ?_ | fail)
    all_goals (conv => whnf)
    all_goals
     refine ⟨s.size + 1,by omega,by omega,[(900,.k 31)],?_⟩
     rw [hst]
     exact ⟨by (try dsimp only);(repeat (refine LeT.cons rfl (by first | exact LeS.d (by first | exact LeD.u rfl | exact LeD.ow rfl (by simp) | fail) | fail) ?_));exact LeT.nil,by (try dsimp only);repeat (first | exact LeO.nil | refine LeO.ar rfl rfl (by first | simp) ?_ | fail)⟩
  ·obtain rfl : i = s.size + 1 := by omega
   rw [hL] at hne ⊢
   dsimp only at hne ⊢
   cases L with
   | nil => exact absurd rfl hne
   | cons x r =>
    dsimp only
    repeat' ((conv => whnf);first | refine Gs.id ?_ | refine Brn.F (by (try simp only [smT]);first | rfl | omega | fail) ?_ | (refine Bnd.mk (fun hm => ?_);(try simp only [smT] at hm)) | refine Len.mk (by first | rfl | (simp;done) | fail) ?_ | fail)
    all_goals (conv => whnf)
    all_goals exact Ret.is rfl
end Go.Proofs.YtabmcfnefjipbaaGreatDoor
namespace Go.Proofs.YtabmcfnefjipbaaGreatDoor
open Go.RowKit
def chB (c : Int) : Bool := (decide (97 ≤ c) && decide (c ≤ 122)) || (decide (65 ≤ c) && decide (c ≤ 90)) || c == 95 || digB c
def okFrom (s : ByteArray) (i : Nat) : Bool := (s.data.toList.drop i).all fun b => chB (b.toNat : Int)
def nameB (s : ByteArray) : Bool := decide (0 < s.size) && decide (s.size ≤ 24) && !digB ((s.data[0]?.getD 0).toNat : Int) && okFrom s 0
theorem okFrom_step {s : ByteArray} {i : Nat} (h : i < s.size) : okFrom s i = (chB (s[i].toNat : Int) && okFrom s (i + 1)) := by
 have h' : i < s.data.toList.length := by simpa using h
 rw [okFrom,List.drop_eq_getElem_cons h',List.all_cons]
 rfl
theorem okFrom_end {s : ByteArray} : okFrom s s.size = true := by
 rw [okFrom,List.drop_eq_nil_of_le (by simp)];rfl
theorem toList_beq (a b : ByteArray) : (a.toList == b.toList) = decide (a = b) := by
 rw [ByteArray.toList_eq,ByteArray.toList_eq]
 by_cases h : a = b
 ·subst h;simp
 ·rw [decide_eq_false h]
  refine Bool.eq_false_iff.2 fun e => h ?_
  have e2 : a.data.toList = b.data.toList := by simpa using e
  obtain ⟨x⟩ := a
  obtain ⟨y⟩ := b
  have : x = y := Array.toList_inj.1 e2
  rw [this]
theorem str_nil {s : ByteArray} : (s.toList == (ByteArray.mk #[]).toList) = decide (s.size = 0) := by
 rw [toList_beq]
 by_cases h : s.size = 0
 ·obtain ⟨d⟩ := s
  have : d = #[] := Array.size_eq_zero_iff.1 h
  subst this;rfl
 ·rw [decide_eq_false h,decide_eq_false]
  intro e
  subst e
  exact h rfl
set_option maxHeartbeats 2000000 in
theorem name_R (s : ByteArray) : CallsA Tryz.prog 29 [dsr s] [] (Is (db (nameB s))) := by
 have hs0 := str_nil (s := s)
 by_cases h0 : s.size = 0
 ·have e : nameB s = false := by simp [nameB,h0]
  rw [decide_eq_true h0] at hs0
  rw [e]
  refine callsA_of_vc (T := tt) Tryz.func29 rfl rfl rfl rfl rfl ?_
  repeat' ((conv => whnf);first | refine Gs.id ?_ | with_reducible refine Brn.T rfl ?_ | refine Brn.T (by (try simp only [smT]);first | rfl | assumption | fail) ?_ | fail)
  all_goals (conv => whnf)
  all_goals exact Ret.is rfl
 ·rw [decide_eq_false h0] at hs0
  have hp : 0 < s.size := by omega
  have hg : s.data[0]?.getD 0 = s[0] := by simp [ByteArray.getElem_eq_getElem_data,hp]
  by_cases h1 : s.size ≤ 24
  ·have hd := digit_R (s[0].toNat : Int)
   by_cases h2 : digB (s[0].toNat : Int) = true
   ·have e : nameB s = false := by simp [nameB,hg,h2]
    rw [e]
    rw [h2] at hd
    refine callsA_of_vc (T := tt) Tryz.func29 rfl rfl rfl rfl rfl ?_
    repeat' ((conv => whnf);first | refine Sbx.mk ⟨0,hp,rfl,?_⟩ | refine Gs.id ?_ | with_reducible refine Brn.T rfl ?_ | refine Brn.F (by (try simp only [smT]);first | rfl | assumption | omega | fail) ?_ | (refine Bnd.mk (fun hm => ?_);(try simp only [smT] at hm)) | (refine CL.mk (Or.inl ?_);(conv => whnf);refine Cl.is (hd) rfl (by first | exact fun _ => rfl | fail) ?_) | fail)
    all_goals (conv => whnf)
    all_goals exact Ret.is rfl
   ·have h2 : digB (s[0].toNat : Int) = false := by simpa using h2
    have e : nameB s = okFrom s 0 := by rw [nameB,hg,h2,decide_eq_true hp,decide_eq_true h1];rfl
    rw [e]
    rw [h2] at hd
    refine callsA_of_vc (T := tt) Tryz.func29 rfl rfl rfl rfl rfl ?_
    repeat' ((conv => whnf);first | refine Sbx.mk ⟨0,hp,rfl,?_⟩ | refine Gs.id ?_ | with_reducible refine Brn.F rfl ?_ | refine Brn.F (by (try simp only [smT]);first | rfl | assumption | omega | fail) ?_ | (refine Bnd.mk (fun hm => ?_);(try simp only [smT] at hm)) | (refine CL.mk (Or.inl ?_);(conv => whnf);refine Cl.is (hd) rfl (by first | exact fun _ => rfl | fail) ?_) | fail)
    all_goals (conv => whnf)
    refine ⟨⟨Nat,fun i => i ≤ s.size ∧ okFrom s 0 = okFrom s i,fun i => s.size - i,fun i => ⟨[(0,dsr s),(3,di i)],[]⟩,0,⟨Nat.zero_le _,rfl⟩,⟨[],⟨by (try dsimp only);(repeat (refine LeT.cons rfl (by first | exact LeS.d (by first | exact LeD.u rfl | fail) | fail) ?_));exact LeT.nil,by (try dsimp only);repeat (first | exact LeO.nil | fail)⟩⟩,fun i hi => ?_⟩⟩
    obtain ⟨hi,he⟩ := hi
    dsimp only
    by_cases h9 : i < s.size
    ·rw [okFrom_step h9] at he
     have hdi := digit_R (s[i].toNat : Int)
     rw [he]
     clear he e hd hg h2
     generalize hx : (s[i].toNat : Int) = x at *
     by_cases hc : chB x = true
     ·rw [hc,Bool.true_and]
      repeat' ((conv => whnf);first | (refine Sbx.mk ⟨i,h9,rfl,?_⟩;rw [hx]) | refine Gs.id ?_ | with_reducible refine Brn.T rfl ?_ | with_reducible refine Brn.F rfl ?_ | refine Brn.T (by (try simp only [smT]);first | rfl | assumption | omega | fail) ?_ | refine Brn.F (by (try simp only [smT]);first | rfl | assumption | omega | fail) ?_ | (refine Brn.mk (fun hb => ?_) (fun hb => ?_) <;> (try simp only [smT] at hb) <;> (try (exact absurd trivial hb)) <;> (try (exfalso;omega))) | (refine Bnd.mk (fun hm => ?_);(try simp only [smT] at hm)) | refine Rng.mk (by (try simp only [smT]);omega) ?_ | (refine CL.mk (Or.inl ?_);(conv => whnf);refine Cl.is (hdi) rfl (by first | exact fun _ => rfl | fail) ?_) | fail)
      all_goals (conv => whnf)
      all_goals first
       | exact ⟨i + 1,⟨by omega,rfl⟩,by omega,[],⟨by (try dsimp only);(repeat (refine LeT.cons rfl (by first | exact LeS.d (by first | exact LeD.u rfl | fail) | fail) ?_));exact LeT.nil,by (try dsimp only);repeat (first | exact LeO.nil | fail)⟩⟩
       | (exfalso;simp [chB] at hc;simp_all;done)
       | (exfalso;simp [chB] at hc;simp_all;omega)
     ·have hc : chB x = false := by simpa using hc
      rw [hc,Bool.false_and]
      repeat' ((conv => whnf);first | (refine Sbx.mk ⟨i,h9,rfl,?_⟩;rw [hx]) | refine Gs.id ?_ | with_reducible refine Brn.T rfl ?_ | with_reducible refine Brn.F rfl ?_ | refine Brn.T (by (try simp only [smT]);first | rfl | assumption | omega | fail) ?_ | refine Brn.F (by (try simp only [smT]);first | rfl | assumption | omega | fail) ?_ | (refine Brn.mk (fun hb => ?_) (fun hb => ?_) <;> (try simp only [smT] at hb) <;> (try (exact absurd trivial hb)) <;> (try (exfalso;omega))) | (refine Bnd.mk (fun hm => ?_);(try simp only [smT] at hm)) | refine Rng.mk (by (try simp only [smT]);omega) ?_ | (refine CL.mk (Or.inl ?_);(conv => whnf);refine Cl.is (hdi) rfl (by first | exact fun _ => rfl | fail) ?_) | fail)
      all_goals (conv => whnf)
      all_goals first
       | exact Ret.is rfl
       | (exfalso;simp [chB] at hc;simp_all;done)
       | (exfalso;simp [chB] at hc;simp_all;omega)
    ·obtain rfl : i = s.size := by omega
     rw [he,okFrom_end]
     repeat' ((conv => whnf);first | refine Gs.id ?_ | refine Brn.F (by (try simp only [smT]);first | rfl | omega | fail) ?_ | (refine Bnd.mk (fun hm => ?_);(try simp only [smT] at hm)) | fail)
     all_goals (conv => whnf)
     all_goals exact Ret.is rfl
  ·have e : nameB s = false := by simp [nameB,h1]
   rw [e]
   refine callsA_of_vc (T := tt) Tryz.func29 rfl rfl rfl rfl rfl ?_
   repeat' ((conv => whnf);first | refine Gs.id ?_ | with_reducible refine Brn.T rfl ?_ | refine Brn.T (by (try simp only [smT]);first | rfl | omega | fail) ?_ | refine Brn.F (by (try simp only [smT]);first | rfl | assumption | fail) ?_ | (refine Bnd.mk (fun hm => ?_);(try simp only [smT] at hm)) | fail)
   all_goals (conv => whnf)
   all_goals exact Ret.is rfl
abbrev strs' (l : List ByteArray) : V := .sl 1 (strs l)
def joinB (l : List ByteArray) (sep : ByteArray) : Nat → ByteArray
 | 0 => ByteArray.mk #[]
 | n + 1 => (if 0 < n then joinB l sep n ++ sep else joinB l sep n) ++ (l[n]?.getD (ByteArray.mk #[]))
def total (l : List ByteArray) (sep : ByteArray) : Nat → Nat
 | 0 => 0
 | n + 1 => total l sep n + sep.size + (l[n]?.getD (ByteArray.mk #[])).size
theorem joinB_size (l : List ByteArray) (sep : ByteArray) : ∀ n,(joinB l sep n).size ≤ total l sep n
 | 0 => Nat.le_refl _
 | n + 1 => by
  have := joinB_size l sep n
  rw [joinB,total]
  split <;> simp <;> omega
theorem total_mono (l : List ByteArray) (sep : ByteArray) {a b : Nat} (h : a ≤ b) : total l sep a ≤ total l sep b := by
 induction b with
 | zero =>
  have : a = 0 := by omega
  subst this
  exact Nat.le_refl _
 | succ b ih =>
  by_cases h2 : a = b + 1
  ·subst h2;exact Nat.le_refl _
  ·have := ih (by omega)
   rw [total];omega
set_option maxHeartbeats 1000000 in
theorem join_R (l : List ByteArray) (sep : ByteArray) (ht : total l sep l.length ≤ 1000000000000) : CallsA Tryz.prog 69 [.d (.u (strs' l)),dsr sep] [] (Is (dsr (joinB l sep l.length))) := by
 refine callsA_of_vc (T := tt) Tryz.func69 rfl rfl rfl rfl rfl ?_
 repeat' ((conv => whnf);first | refine Gs.id ?_ | fail)
 all_goals (conv => whnf)
 refine ⟨⟨Nat,fun i => i ≤ l.length,fun i => l.length - i,fun i => ⟨[(0,.d (.u (strs' l))),(1,dsr sep),(5,dsr (joinB l sep i)),(6,di i)],[]⟩,0,Nat.zero_le _,⟨[],⟨by (try dsimp only);(repeat (refine LeT.cons rfl (by first | exact LeS.d (by first | exact LeD.u rfl | fail) | fail) ?_));exact LeT.nil,by (try dsimp only);repeat (first | exact LeO.nil | fail)⟩⟩,fun i hi => ?_⟩⟩
 dsimp only at hi ⊢
 by_cases h9 : i < l.length
 ·have hj := joinB_size l sep i
  have hm := total_mono l sep (a := i + 1) (b := l.length) (by omega)
  have hst : joinB l sep (i + 1) = (if 0 < i then joinB l sep i ++ sep else joinB l sep i) ++ l[i] := by rw [joinB,List.getElem?_eq_getElem h9];rfl
  have htt : total l sep (i + 1) = total l sep i + sep.size + (l[i]).size := by rw [total,List.getElem?_eq_getElem h9];rfl
  have hrow : ∀ {K : List V → Prop},K [V.str l[i]] → Ix (strs l) (i : Int) K := fun k => Ix.map rfl h9 k
  generalize l[i] = x at hst htt hrow
  generalize joinB l sep i = y at *
  by_cases h0 : 0 < i
  ·rw [if_pos h0] at hst
   repeat' ((conv => whnf);first | refine hrow ?_ | refine Cat.mk (by unfold maxLen;simp;omega) ?_ | refine Gs.id ?_ | refine Brn.T (by (try simp only [smT]);first | rfl | omega | fail) ?_ | (refine Bnd.mk (fun hm => ?_);(try simp only [smT] at hm)) | refine Rng.mk (by (try simp only [smT]);omega) ?_ | fail)
   all_goals (conv => whnf)
   all_goals
    refine ⟨i + 1,by omega,by omega,[],?_⟩
    rw [hst]
    exact ⟨by (try dsimp only);(repeat (refine LeT.cons rfl (by first | exact LeS.d (by first | exact LeD.u rfl | fail) | fail) ?_));exact LeT.nil,by (try dsimp only);repeat (first | exact LeO.nil | fail)⟩
  ·rw [if_neg h0] at hst
   repeat' ((conv => whnf);first | refine hrow ?_ | refine Cat.mk (by unfold maxLen;simp;omega) ?_ | refine Gs.id ?_ | refine Brn.T (by (try simp only [smT]);first | rfl | omega | fail) ?_ | refine Brn.F (by (try simp only [smT]);first | rfl | omega | fail) ?_ | (refine Bnd.mk (fun hm => ?_);(try simp only [smT] at hm)) | refine Rng.mk (by (try simp only [smT]);omega) ?_ | fail)
   all_goals (conv => whnf)
   all_goals
    refine ⟨i + 1,by omega,by omega,[],?_⟩
    rw [hst]
    exact ⟨by (try dsimp only);(repeat (refine LeT.cons rfl (by first | exact LeS.d (by first | exact LeD.u rfl | fail) | fail) ?_));exact LeT.nil,by (try dsimp only);repeat (first | exact LeO.nil | fail)⟩
 ·obtain rfl : i = l.length := by omega
  repeat' ((conv => whnf);first | refine Gs.id ?_ | refine Brn.F (by (try simp only [smT]);first | rfl | omega | fail) ?_ | (refine Bnd.mk (fun hm => ?_);(try simp only [smT] at hm)) | fail)
  all_goals (conv => whnf)
  all_goals exact Ret.is rfl
end Go.Proofs.YtabmcfnefjipbaaGreatDoor
namespace Go.Proofs.YtabmcfnefjipbaaGreatDoor
open Go.RowKit Go.Sort
theorem interc_snoc (sep x : List UInt8) : ∀ {l : List (List UInt8)},l ≠ [] → sep.intercalate (l ++ [x]) = sep.intercalate l ++ (sep ++ x)
 | [],h => absurd rfl h
 | [y],_ => by simp [List.intercalate]
 | y :: z :: r,_ => by
  have ih := interc_snoc sep x (l := z :: r) (by simp)
  simp only [List.intercalate,List.cons_append,List.intersperse_cons_cons,List.flatten_cons,List.append_assoc] at ih ⊢
  rw [ih]
theorem joinB_list (l : List ByteArray) (sep : ByteArray) : ∀ n,n ≤ l.length → (joinB l sep n).data.toList = Lib.join ((l.take n).map (·.data.toList)) sep.data.toList
 | 0,_ => rfl
 | n + 1,h => by
  have ih := joinB_list l sep n (by omega)
  have hn : l[n]? = some l[n] := List.getElem?_eq_getElem (by omega)
  rw [joinB,hn,List.take_add_one,hn]
  simp only [Option.getD_some,Option.toList_some,List.map_append,List.map_cons,List.map_nil]
  by_cases h0 : 0 < n
  ·rw [if_pos h0]
   simp only [ByteArray.data_append,Array.toList_append,List.append_assoc,ih]
   unfold Lib.join
   rw [interc_snoc _ _ (by intro e;have h1 : ((l.take n).map (·.data.toList)).length = 0 := by {rw [e];rfl};rw [List.length_map,List.length_take] at h1;omega)]
  ·have : n = 0 := by omega
   subst this
   rw [if_neg (by omega)]
   simp only [ByteArray.data_append,Array.toList_append,ih]
   simp [Lib.join,List.intercalate]
theorem bytes_ext {a b : ByteArray} (h : a.data.toList = b.data.toList) : a = b := by
 obtain ⟨x⟩ := a
 obtain ⟨y⟩ := b
 have : x = y := Array.toList_inj.1 h
 rw [this]
theorem joinB_eq (l : List ByteArray) (sep : ByteArray) : (⟨(Lib.join (l.map (·.data.toList)) sep.data.toList).toArray⟩ : ByteArray) = joinB l sep l.length := by
 refine bytes_ext ?_
 rw [joinB_list l sep l.length (Nat.le_refl _),List.take_length]
theorem strs_flat : ∀ xs : List ByteArray,(strs xs).flatten = xs.map V.str
 | [] => rfl
 | x :: r => by
  have ih := strs_flat r
  unfold strs at ih ⊢
  simp only [List.map_cons,List.flatten_cons,ih];rfl
theorem sjoin_T (xs : List ByteArray) (sep : ByteArray) (ht : total xs sep xs.length ≤ 100000000000) (hx : xs.length ≤ 100000000000) : CallsA Tryz.prog 42 [.d (.u (.sl 1 (strs xs))),dsr sep] [] (Is (dsr (joinB xs sep xs.length))) := by
 have hsz := joinB_size xs sep xs.length
 refine callsA_flat ⟨_,_,Tryz.func42,rfl,rfl⟩ (u := .string (joinB xs sep xs.length)) (fun _ _ => .d (.u (.str _ (by unfold maxLen;omega)))) fun ρ G w vs ⟨hl,hd,hg⟩ => ?_
 match vs,hl with
 | [v0,v1],_ =>
 have d0 := hd 0 _ _ rfl rfl
 have d1 := hd 1 _ _ rfl rfl
 cases d1 with | d d1 => cases d1 with | u d1 => cases d1 with | str _ hs1 =>
 cases d0 with | d d0 => cases d0 with | u d0 => cases d0 with | @sl _ _ A n c b o us hn hc hm hr hA hlu hu h1 hdd =>
 have hn' : n = xs.length := by rw [← hn];simp
 subst hn'
 by_cases h0 : xs = []
 ·subst h0
  exact (Any.strings_Join_none lays156 Builder_Extra_156 A c sep w).mono fun e w' ⟨he,hw⟩ => ⟨he,hw ▸ Below.refl _ _⟩
 ·obtain ⟨rfl,hb⟩ := hA (by simpa using h0)
  rw [strs_flat] at hlu hdd
  have hcells : ∀ (j : Nat) x,xs[j]? = some x → w.cell? ⟨b,o + j,none⟩ = some (.string x) := by
   intro j x hx
   have hj : j < us.length := by rw [hlu,List.length_map];exact (List.getElem?_eq_some_iff.1 hx).1
   have hu1 : us[j]? = some us[j] := List.getElem?_eq_getElem hj
   have := hdd j (.str x) us[j] (by rw [List.getElem?_map,hx];rfl) hu1
   rw [hu j _ hu1]
   generalize us[j] = u at this
   cases this
   rfl
  have := Any.strings_Join lays156 Builder_Extra_156 b o c xs sep w hcells (hg b hb) (by omega) hc (by
   have e := joinB_list xs sep xs.length (Nat.le_refl _)
   rw [List.take_length] at e
   rw [← e,Array.length_toList]
   show (joinB xs sep xs.length).size ≤ _
   omega)
  rw [joinB_eq] at this
  exact this
def itoaB (n : Int) : ByteArray := ⟨(Lib.itoa n).toArray⟩
theorem decD_len : ∀ (k u : Nat),u < 10 ^ (k + 1) → (Lib.decDigits u).length ≤ k + 1
 | 0,u,h => by rw [Lib.decDigits,dif_pos (by simpa using h)];simp
 | k + 1,u,h => by
  rw [Lib.decDigits]
  split
  ·simp
  ·have := decD_len k (u / 10) (by rw [Nat.pow_succ] at h;omega)
   simp;omega
theorem itoaB_size {n : Int} (h0 : -9223372036854775808 ≤ n) (h1 : n ≤ 9223372036854775807) : (itoaB n).size ≤ 21 := by
 show (Lib.itoa n).toArray.size ≤ 21
 rw [List.size_toArray,Lib.itoa]
 split
 ·have := decD_len 19 n.natAbs (by omega)
  simp;omega
 ·have := decD_len 19 n.toNat (by omega)
  omega
structure Tab (zt : Fz) : Prop where
 out : ∃ g, Tryz.prog.globalNamed "internal/strconv.uint64pow10" = some g ∧ zt.G g ∧ Lib.TabIs Tryz.prog zt.w0 "internal/strconv.uint64pow10" .u64 Lib.pow10Tab
abbrev tbOb (zt : Fz) : Ob := .ab [] [] zt (· = [])
theorem itoa_T (n : Int) (h0 : -9223372036854775808 ≤ n) (h1 : n ≤ 9223372036854775807) (zt : Fz) (ht : Tab zt) : CallsA Tryz.prog 43 [di n] [(907,tbOb zt)] (Iso (dsr (itoaB n)) [(907,tbOb zt)]) := by
 refine ⟨⟨_,_,Tryz.func43,rfl,rfl⟩,fun c ρ hp vs w hw hl g => ?_⟩
 match vs,hl with
 | [v0],_ =>
 obtain ⟨v,q1,q2⟩ := g.tm 0 _ rfl
 cases q1
 cases q2 with | d q2 => cases q2 with | u q2 => cases q2 with | int =>
 obtain ⟨X,hp',rfl,⟨rfl,hmz,_⟩,rfl⟩ := g.ob
 obtain ⟨gb,g1,g2,g3⟩ := ht.out
 have htab : Lib.TabIs Tryz.prog w "internal/strconv.uint64pow10" .u64 Lib.pow10Tab := by
  unfold Lib.TabIs World.var? at g3 ⊢
  rw [g1] at g3 ⊢
  simp only [Option.bind_some] at g3 ⊢
  have e : w.heap[gb]? = zt.w0.heap[gb]? := (hw.same.block gb (g.gF gb (hmz.g gb g2))).trans (hmz.w gb g2)
  rw [e]
  exact g3
 refine (Any.strconv_Itoa laysM171 n h0 h1 w htab).mono ?_
 rintro e w' ⟨rfl,k,os,rfl⟩
 have hb : Below w.heap.size w (grow (w.drewN k) os) := ⟨rfl,rfl,rfl,by simp [grow,World.drewN],fun j hj => by simp only [grow,World.drewN];rw [Array.getElem?_append_left hj]⟩
 refine ⟨_,⟨c.F,c.w,_⟩,dsr (itoaB n),_,ρ,c.G,rfl,hw.below hb,⟨fun _ h => h,Same.refl _ _,g.gF,fun _ h => .inl h,.refl _,fun k s' hk => ?_,g.ob⟩,rfl,rfl⟩
 simp only [lk] at hk ⊢
 cases hb : Nat.beq k 0 <;> rw [hb] at hk
 ·cases hk
 ·cases hk
  exact ⟨_,rfl,.d (.u (.str _ (by have := itoaB_size h0 h1;unfold maxLen;omega)))⟩
end Go.Proofs.YtabmcfnefjipbaaGreatDoor
namespace Go.Proofs.YtabmcfnefjipbaaGreatDoor
open Go.RowKit
abbrev byR (s : ByteArray) : List (List V) := s.data.toList.map fun b => [V.int .u8 (b.toNat : Int)]
set_option maxHeartbeats 2000000 in
theorem isName_T (s : ByteArray) : CallsA Tryz.prog 94 [dsr s] [] (Is (db (nameB s))) := by
 have hs0 := str_nil (s := s)
 by_cases h0 : s.size = 0
 ·have e : nameB s = false := by simp [nameB,h0]
  rw [decide_eq_true h0] at hs0
  rw [e]
  refine callsA_of_vc (T := tt) Tryz.func94 rfl rfl rfl rfl rfl ?_
  repeat' ((conv => whnf);first | refine Gs.id ?_ | with_reducible refine Brn.T rfl ?_ | refine Brn.T (by (try simp only [smT]);first | rfl | assumption | fail) ?_ | fail)
  all_goals (conv => whnf)
  all_goals exact Ret.is rfl
 ·rw [decide_eq_false h0] at hs0
  have hp : 0 < s.size := by omega
  have hg : s.data[0]?.getD 0 = s[0] := by simp [ByteArray.getElem_eq_getElem_data,hp]
  by_cases h1 : s.size ≤ 24
  ·by_cases h2 : digB (s[0].toNat : Int) = true
   ·have e : nameB s = false := by simp [nameB,hg,h2]
    rw [e]
    simp only [digB,Bool.and_eq_true,decide_eq_true_eq] at h2
    obtain ⟨h2,h3⟩ := h2
    refine callsA_of_vc (T := tt) Tryz.func94 rfl rfl rfl rfl rfl ?_
    repeat' ((conv => whnf);first | refine Sbx.mk ⟨0,hp,rfl,?_⟩ | refine Gs.id ?_ | refine Brn.T (by (try simp only [smT]);first | rfl | assumption | fail) ?_ | refine Brn.F (by (try simp only [smT]);first | rfl | assumption | omega | fail) ?_ | (refine Bnd.mk (fun hm => ?_);(try simp only [smT] at hm)) | fail)
    all_goals (conv => whnf)
    all_goals exact Ret.is rfl
   ·have h2 : digB (s[0].toNat : Int) = false := by simpa using h2
    have e : nameB s = okFrom s 0 := by rw [nameB,hg,h2,decide_eq_true hp,decide_eq_true h1];rfl
    rw [e]
    have h3 : 48 ≤ (s[0].toNat : Int) → ¬ (s[0].toNat : Int) ≤ 57 := fun a b => by simp [digB] at h2;omega
    clear h2
    have key : ∀ (_ : True),True := fun _ => trivial
    have hc48 : (s[0].toNat : Int) < 48 ∨ 57 < (s[0].toNat : Int) := by
     by_cases q : 48 ≤ (s[0].toNat : Int)
     ·right;have := h3 q;omega
     ·left;omega
    clear h3 key
    generalize hx0 : (s[0].toNat : Int) = x0 at hc48
    refine callsA_of_vc (T := tt) Tryz.func94 rfl rfl rfl rfl rfl ?_
    repeat' ((conv => whnf);first | (refine Sbx.mk ⟨0,hp,rfl,?_⟩;rw [hx0]) | refine Raw.convBytes (T := tt) rfl rfl rfl rfl rfl rfl rfl rfl ?_ | refine Gs.id ?_ | with_reducible refine Brn.F rfl ?_ | refine Brn.T (by (try simp only [smT]);first | rfl | assumption | fail) ?_ | refine Brn.F (by (try simp only [smT]);first | rfl | assumption | omega | fail) ?_ | (refine Brn.mk (fun hb => ?_) (fun hb => ?_) <;> (try simp only [smT] at hb) <;> (try (exact absurd trivial hb)) <;> (try (exfalso;omega))) | (refine Bnd.mk (fun hm => ?_);(try simp only [smT] at hm)) | fail)
    all_goals (conv => whnf)
    all_goals
     refine ⟨⟨Nat,fun i => i ≤ s.size ∧ okFrom s 0 = okFrom s i,fun i => s.size - i,fun i => ⟨[(23,.d (.u (.sl 1 (byR s)))),(24,di s.size),(25,di i)],[]⟩,0,⟨Nat.zero_le _,rfl⟩,⟨[],⟨by (try dsimp only);(repeat (refine LeT.cons rfl (by first | exact LeS.d (by first | exact LeD.u rfl | exact LeD.u (by simp;done) | fail) | fail) ?_));exact LeT.nil,by (try dsimp only);repeat (first | exact LeO.nil | fail)⟩⟩,fun i hi => ?_⟩⟩
     obtain ⟨hi,he⟩ := hi
     dsimp only
     by_cases h9 : i < s.size
     ·rw [okFrom_step h9] at he
      rw [he]
      clear he e hg
      have hrow : ∀ {K : List V → Prop},K [V.int .u8 (s[i].toNat : Int)] → Ix (byR s) (i : Int) K := fun k => Ix.map rfl (by simpa using h9) k
      generalize hx : (s[i].toNat : Int) = x at *
      by_cases hc : chB x = true
      ·rw [hc,Bool.true_and]
       repeat' ((conv => whnf);first | refine hrow ?_ | refine Gs.id ?_ | with_reducible refine Brn.T rfl ?_ | with_reducible refine Brn.F rfl ?_ | refine Brn.T (by (try simp only [smT]);first | rfl | assumption | omega | fail) ?_ | refine Brn.F (by (try simp only [smT]);first | rfl | assumption | omega | fail) ?_ | (refine Brn.mk (fun hb => ?_) (fun hb => ?_) <;> (try simp only [smT] at hb) <;> (try (exact absurd trivial hb)) <;> (try (exfalso;omega))) | refine Rng.mk (by (try simp only [smT]);omega) ?_ | fail)
       all_goals (conv => whnf)
       all_goals first
        | exact ⟨i + 1,⟨by omega,rfl⟩,by omega,[],⟨by (try dsimp only);(repeat (refine LeT.cons rfl (by first | exact LeS.d (by first | exact LeD.u rfl | fail) | fail) ?_));exact LeT.nil,by (try dsimp only);repeat (first | exact LeO.nil | fail)⟩⟩
        | (exfalso;simp [chB,digB] at hc;simp_all;done)
        | (exfalso;simp [chB,digB] at hc;simp_all;omega)
      ·have hc : chB x = false := by simpa using hc
       rw [hc,Bool.false_and]
       repeat' ((conv => whnf);first | refine hrow ?_ | refine Gs.id ?_ | with_reducible refine Brn.T rfl ?_ | with_reducible refine Brn.F rfl ?_ | refine Brn.T (by (try simp only [smT]);first | rfl | assumption | omega | fail) ?_ | refine Brn.F (by (try simp only [smT]);first | rfl | assumption | omega | fail) ?_ | (refine Brn.mk (fun hb => ?_) (fun hb => ?_) <;> (try simp only [smT] at hb) <;> (try (exact absurd trivial hb)) <;> (try (exfalso;omega))) | refine Rng.mk (by (try simp only [smT]);omega) ?_ | fail)
       all_goals (conv => whnf)
       all_goals first
        | exact Ret.is rfl
        | (exfalso;simp [chB,digB] at hc;simp_all;done)
        | (exfalso;simp [chB,digB] at hc;simp_all;omega)
     ·obtain rfl : i = s.size := by omega
      rw [he,okFrom_end]
      repeat' ((conv => whnf);first | refine Gs.id ?_ | refine Brn.F (by (try simp only [smT]);first | rfl | omega | fail) ?_ | fail)
      all_goals (conv => whnf)
      all_goals exact Ret.is rfl
  ·have e : nameB s = false := by simp [nameB,h1]
   rw [e]
   refine callsA_of_vc (T := tt) Tryz.func94 rfl rfl rfl rfl rfl ?_
   repeat' ((conv => whnf);first | refine Gs.id ?_ | with_reducible refine Brn.T rfl ?_ | refine Brn.T (by (try simp only [smT]);first | rfl | omega | fail) ?_ | refine Brn.F (by (try simp only [smT]);first | rfl | assumption | fail) ?_ | (refine Bnd.mk (fun hm => ?_);(try simp only [smT] at hm)) | fail)
   all_goals (conv => whnf)
   all_goals exact Ret.is rfl
end Go.Proofs.YtabmcfnefjipbaaGreatDoor
namespace Go.Proofs.YtabmcfnefjipbaaGreatDoor
open Go.RowKit
theorem isName_T' (s : ByteArray) : CallsA Tryz.prog 57 [dsr s] [] (Is (db (nameB s))) := by
 have h := isName_T s
 refine callsA_of_vc (T := tt) Tryz.func57 rfl rfl rfl rfl rfl ?_
 repeat' ((conv => whnf);first | refine Gs.id ?_ | (refine CL.mk (Or.inl ?_);(conv => whnf);refine Cl.is (h) rfl (by first | exact fun _ => rfl | fail) ?_) | fail)
 all_goals (conv => whnf)
 all_goals exact Ret.is rfl
def parts (s : ByteArray) : List ByteArray := (splitB s 46 (s.size + 1)).1
def dottedB (s : ByteArray) : Bool := (parts s).all nameB && decide ((s.size : Int) ≤ 60)
theorem split46_R (s : ByteArray) (hs : s.size ≤ 1000000000000) : CallsA Tryz.prog 66 [dsr s,dby 46] [] (Is (.d (.u (.sl 1 (strs (parts s)))))) := split_R s 46 hs
theorem dotted_R (s : ByteArray) (hs : s.size ≤ 1000000000000) : CallsA Tryz.prog 36 [dsr s] [] (Is (db (dottedB s))) := by
 have h := split46_R s hs
 rw [dottedB]
 generalize parts s = l at *
 refine callsA_of_vc (T := tt) Tryz.func36 rfl rfl rfl rfl rfl ?_
 repeat' ((conv => whnf);first | refine Gs.id ?_ | (refine CL.mk (Or.inl ?_);(conv => whnf);refine Cl.is (h) rfl (by first | (intro e;cases e;done) | fail) ?_) | fail)
 all_goals (conv => whnf)
 refine ⟨⟨Nat,fun i => i ≤ l.length ∧ l.all nameB = (l.drop i).all nameB,fun i => l.length - i,fun i => ⟨[(0,dsr s),(3,.d (.u (.sl 1 (strs l)))),(4,di i)],[]⟩,0,⟨Nat.zero_le _,rfl⟩,⟨[],⟨by (try dsimp only);(repeat (refine LeT.cons rfl (by first | exact LeS.d (by first | exact LeD.u rfl | fail) | fail) ?_));exact LeT.nil,by (try dsimp only);repeat (first | exact LeO.nil | fail)⟩⟩,fun i hi => ?_⟩⟩
 obtain ⟨hi,he⟩ := hi
 dsimp only
 by_cases h9 : i < l.length
 ·rw [List.drop_eq_getElem_cons h9,List.all_cons] at he
  have hrow : ∀ {K : List V → Prop},K [V.str l[i]] → Ix (strs l) (i : Int) K := fun k => Ix.map rfl h9 k
  generalize l[i] = x at *
  have hn := name_R x
  rw [he]
  cases hx : nameB x
  ·rw [hx] at hn
   rw [Bool.false_and,Bool.false_and]
   repeat' ((conv => whnf);first | refine hrow ?_ | refine Gs.id ?_ | with_reducible refine Brn.T rfl ?_ | refine Brn.T (by (try simp only [smT]);first | rfl | omega | fail) ?_ | (refine Bnd.mk (fun hm => ?_);(try simp only [smT] at hm)) | (refine CL.mk (Or.inl ?_);(conv => whnf);refine Cl.is (hn) rfl (by first | exact fun _ => rfl | fail) ?_) | fail)
   all_goals (conv => whnf)
   all_goals exact Ret.is rfl
  ·rw [hx] at hn
   rw [Bool.true_and]
   repeat' ((conv => whnf);first | refine hrow ?_ | refine Gs.id ?_ | with_reducible refine Brn.F rfl ?_ | refine Brn.T (by (try simp only [smT]);first | rfl | omega | fail) ?_ | (refine Bnd.mk (fun hm => ?_);(try simp only [smT] at hm)) | refine Rng.mk (by (try simp only [smT]);omega) ?_ | (refine CL.mk (Or.inl ?_);(conv => whnf);refine Cl.is (hn) rfl (by first | exact fun _ => rfl | fail) ?_) | fail)
   all_goals (conv => whnf)
   all_goals exact ⟨i + 1,⟨by omega,rfl⟩,by omega,[],⟨by (try dsimp only);(repeat (refine LeT.cons rfl (by first | exact LeS.d (by first | exact LeD.u rfl | fail) | fail) ?_));exact LeT.nil,by (try dsimp only);repeat (first | exact LeO.nil | fail)⟩⟩
 ·obtain rfl : i = l.length := by omega
  have ha : l.all nameB = true := by rw [he];simp
  rw [ha,Bool.true_and]
  repeat' ((conv => whnf);first | refine Gs.id ?_ | refine Brn.F (by (try simp only [smT]);first | rfl | omega | fail) ?_ | (refine Bnd.mk (fun hm => ?_);(try simp only [smT] at hm)) | fail)
  all_goals (conv => whnf)
  all_goals exact Ret.is rfl
theorem strings_R (a b : List ByteArray) : CallsA Tryz.prog 15 [.d (.u (strs' a)),.d (.u (strs' b))] [] (Is (db (decide (a = b)))) := by
 by_cases hl : a.length = b.length
 ·refine callsA_of_vc (T := tt) Tryz.func15 rfl rfl rfl rfl rfl ?_
  repeat' ((conv => whnf);first | refine Gs.id ?_ | refine Brn.F (by (try simp only [smT]);first | rfl | omega | fail) ?_ | (refine Bnd.mk (fun hm => ?_);(try simp only [smT] at hm)) | fail)
  all_goals (conv => whnf)
  refine ⟨⟨Nat,fun i => i ≤ a.length ∧ decide (a = b) = decide (a.drop i = b.drop i),fun i => a.length - i,fun i => ⟨[(0,.d (.u (strs' a))),(1,.d (.u (strs' b))),(5,di i)],[]⟩,0,⟨Nat.zero_le _,rfl⟩,⟨[],⟨by (try dsimp only);(repeat (refine LeT.cons rfl (by first | exact LeS.d (by first | exact LeD.u rfl | fail) | fail) ?_));exact LeT.nil,by (try dsimp only);repeat (first | exact LeO.nil | fail)⟩⟩,fun i hi => ?_⟩⟩
  obtain ⟨hi,he⟩ := hi
  dsimp only
  by_cases h9 : i < a.length
  ·have h10 : i < b.length := by omega
   rw [List.drop_eq_getElem_cons h9,List.drop_eq_getElem_cons h10] at he
   have hra : ∀ {K : List V → Prop},K [V.str a[i]] → Ix (strs a) (i : Int) K := fun k => Ix.map rfl h9 k
   have hrb : ∀ {K : List V → Prop},K [V.str b[i]] → Ix (strs b) (i : Int) K := fun k => Ix.map rfl h10 k
   have hxy := toList_beq a[i] b[i]
   generalize a[i] = x at *
   generalize b[i] = y at *
   by_cases hq : x = y
   ·subst hq
    rw [decide_eq_true rfl] at hxy
    have he2 : decide (a = b) = decide (a.drop (i + 1) = b.drop (i + 1)) := by rw [he];simp
    clear he
    rw [he2]
    repeat' ((conv => whnf);first | refine hra ?_ | refine hrb ?_ | refine Gs.id ?_ | refine Brn.T (by (try simp only [smT]);first | rfl | omega | fail) ?_ | refine Brn.F (by (try simp only [smT]);first | rfl | assumption | fail) ?_ | (refine Bnd.mk (fun hm => ?_);(try simp only [smT] at hm)) | refine Rng.mk (by (try simp only [smT]);omega) ?_ | refine Drw.of (T := tt) (i := 6) [] [] [(0,true),(1,true),(2,true),(3,true),(4,true),(5,true),(6,true),(7,true),(8,true)] (by kernel_rfl) ?_)
    all_goals (conv => whnf)
    all_goals exact ⟨i + 1,⟨by omega,rfl⟩,by omega,[],⟨by (try dsimp only);(repeat (refine LeT.cons rfl (by first | exact LeS.d (by first | exact LeD.u rfl | fail) | fail) ?_));exact LeT.nil,by (try dsimp only);repeat (first | exact LeO.nil | fail)⟩⟩
   ·rw [decide_eq_false hq] at hxy
    have he2 : decide (a = b) = false := by rw [he];exact decide_eq_false fun e => hq (List.cons.inj e).1
    rw [he2]
    clear he he2
    repeat' ((conv => whnf);first | refine hra ?_ | refine hrb ?_ | refine Gs.id ?_ | refine Brn.T (by (try simp only [smT]);first | rfl | assumption | omega | fail) ?_ | (refine Bnd.mk (fun hm => ?_);(try simp only [smT] at hm)) | refine Drw.of (T := tt) (i := 6) [] [] [(0,true),(1,true),(2,true),(3,true),(4,true),(5,true),(6,true),(7,true),(8,true)] (by kernel_rfl) ?_)
    all_goals (conv => whnf)
    all_goals exact Ret.is rfl
  ·obtain rfl : i = a.length := by omega
   have e2 : decide (a = b) = true := by rw [he];simp;omega
   rw [e2]
   repeat' ((conv => whnf);first | refine Gs.id ?_ | refine Brn.F (by (try simp only [smT]);first | rfl | omega | fail) ?_ | (refine Bnd.mk (fun hm => ?_);(try simp only [smT] at hm)) | fail)
   all_goals (conv => whnf)
   all_goals exact Ret.is rfl
 ·have e : decide (a = b) = false := decide_eq_false fun e => hl (by rw [e])
  rw [e]
  refine callsA_of_vc (T := tt) Tryz.func15 rfl rfl rfl rfl rfl ?_
  repeat' ((conv => whnf);first | refine Gs.id ?_ | refine Brn.T (by (try simp only [smT]);first | rfl | omega | fail) ?_ | (refine Bnd.mk (fun hm => ?_);(try simp only [smT] at hm)) | fail)
  all_goals (conv => whnf)
  all_goals exact Ret.is rfl
end Go.Proofs.YtabmcfnefjipbaaGreatDoor
namespace Go.Proofs.YtabmcfnefjipbaaGreatDoor
open Go.RowKit
theorem byte_backs (c : UInt8) : ((c.toNat : Int)).toNat.toUInt8 = c := by simp
theorem indexByteQ_T (s : ByteArray) (c : UInt8) : CallsA Tryz.prog 156 [dsr s,dby c.toNat] [] (Is (di (Go.Lib.indexByte s.data.toList c))) := by
 have hr : ∀ w,(Extern.BytealgIndexByte.indexByte #[.string s,.int .u8 (c.toNat : Int)]).run Tryz.prog w = .ok (.int .i64 (Go.Lib.indexByte s.data.toList c)) w := fun w => by
  rw [Go.Lib.run_indexByteString,byte_backs]
 have hf := Tryz.func169
 refine callsA_of_vc (T := tt) Tryz.func156 rfl rfl rfl rfl rfl ?_
 repeat' ((conv => whnf);first | (refine CL.mk (Or.inr (Raw.extSB (e := Extern.BytealgIndexByte.indexByte) rfl rfl hf (by kernel_rfl) (by kernel_rfl) (by kernel_rfl) (by kernel_rfl) hr rfl ?_))) | refine Gs.id ?_ | fail)
 all_goals (conv => whnf)
 all_goals exact Ret.is rfl
abbrev spc : ByteArray := ⟨#[32]⟩
theorem indexByteQ_T' (s : ByteArray) : CallsA Tryz.prog 156 [dsr s,dby 32] [] (Is (di (Go.Lib.indexByte s.data.toList 32))) := indexByteQ_T s 32
theorem index0Q_T (s : ByteArray) : CallsA Tryz.prog 141 [dsr s,dsr spc] [] (Is (di (if s = spc then 0 else Go.Lib.indexByte s.data.toList 32))) := by
 have hb := toList_beq spc s
 have hi := indexByteQ_T' s
 have hd : (spc[0].toNat : Int) = 32 := rfl
 by_cases h : s = spc
 ·rw [if_pos h]
  rw [decide_eq_true h.symm] at hb
  refine callsA_of_vc (T := tt) Tryz.func141 rfl rfl rfl rfl rfl ?_
  repeat' ((conv => whnf);first | refine Gs.id ?_ | with_reducible refine Brn.F rfl ?_ | refine Brn.T (by (try simp only [smT]);first | rfl | assumption | fail) ?_ | (refine Bnd.mk (fun hm => ?_);(try simp only [smT] at hm)) | fail)
  all_goals (conv => whnf)
  all_goals exact Ret.is rfl
 ·rw [if_neg h]
  rw [decide_eq_false fun e => h e.symm] at hb
  refine callsA_of_vc (T := tt) Tryz.func141 rfl rfl rfl rfl rfl ?_
  repeat' ((conv => whnf);first | (refine Sbx.mk ⟨0,(by decide),rfl,?_⟩;rw [hd]) | refine Gs.id ?_ | with_reducible refine Brn.T rfl ?_ | with_reducible refine Brn.F rfl ?_ | refine Brn.F (by (try simp only [smT]);first | rfl | assumption | fail) ?_ | (refine Bnd.mk (fun hm => ?_);(try simp only [smT] at hm)) | (refine CL.mk (Or.inl ?_);(conv => whnf);refine Cl.is (hi) rfl (by first | exact fun _ => rfl | fail) ?_) | fail)
  all_goals (conv => whnf)
  all_goals exact Ret.is rfl
theorem indexQ_T (s : ByteArray) : CallsA Tryz.prog 140 [dsr s,dsr spc] [] (Is (di (Go.Lib.indexByte s.data.toList 32))) := by
 have h := index0Q_T s
 have e : (if s = spc then 0 else Go.Lib.indexByte s.data.toList 32) = Go.Lib.indexByte s.data.toList 32 := by
  by_cases h : s = spc
  ·subst h;decide
  ·rw [if_neg h]
 rw [e] at h
 refine callsA_of_vc (T := tt) Tryz.func140 rfl rfl rfl rfl rfl ?_
 repeat' ((conv => whnf);first | refine Gs.id ?_ | (refine CL.mk (Or.inl ?_);(conv => whnf);refine Cl.is (h) rfl (by first | exact fun _ => rfl | fail) ?_) | fail)
 all_goals (conv => whnf)
 all_goals exact Ret.is rfl
end Go.Proofs.YtabmcfnefjipbaaGreatDoor
namespace Go.Proofs.YtabmcfnefjipbaaGreatDoor
open Go.RowKit
theorem byte_back (c : UInt8) : ((c.toNat : Int)).toNat.toUInt8 = c := by simp
theorem indexByte_T (s : ByteArray) (c : UInt8) : CallsA Tryz.prog 156 [dsr s,dby c.toNat] [] (Is (di (Go.Lib.indexByte s.data.toList c))) := by
 have hr : ∀ w,(Extern.BytealgIndexByte.indexByte #[.string s,.int .u8 (c.toNat : Int)]).run Tryz.prog w = .ok (.int .i64 (Go.Lib.indexByte s.data.toList c)) w := fun w => by
  rw [Go.Lib.run_indexByteString,byte_back]
 have hf := Tryz.func169
 refine callsA_of_vc (T := tt) Tryz.func156 rfl rfl rfl rfl rfl ?_
 repeat' ((conv => whnf);first | (refine CL.mk (Or.inr (Raw.extSB (e := Extern.BytealgIndexByte.indexByte) rfl rfl hf (by kernel_rfl) (by kernel_rfl) (by kernel_rfl) (by kernel_rfl) hr rfl ?_))) | refine Gs.id ?_ | fail)
 all_goals (conv => whnf)
 all_goals exact Ret.is rfl
abbrev dot : ByteArray := ⟨#[46]⟩
theorem indexByte_T' (s : ByteArray) : CallsA Tryz.prog 156 [dsr s,dby 46] [] (Is (di (Go.Lib.indexByte s.data.toList 46))) := indexByte_T s 46
theorem index0_T (s : ByteArray) : CallsA Tryz.prog 141 [dsr s,dsr dot] [] (Is (di (if s = dot then 0 else Go.Lib.indexByte s.data.toList 46))) := by
 have hb := toList_beq dot s
 have hi := indexByte_T' s
 have hd : (dot[0].toNat : Int) = 46 := rfl
 by_cases h : s = dot
 ·rw [if_pos h]
  rw [decide_eq_true h.symm] at hb
  refine callsA_of_vc (T := tt) Tryz.func141 rfl rfl rfl rfl rfl ?_
  repeat' ((conv => whnf);first | refine Gs.id ?_ | with_reducible refine Brn.F rfl ?_ | refine Brn.T (by (try simp only [smT]);first | rfl | assumption | fail) ?_ | (refine Bnd.mk (fun hm => ?_);(try simp only [smT] at hm)) | fail)
  all_goals (conv => whnf)
  all_goals exact Ret.is rfl
 ·rw [if_neg h]
  rw [decide_eq_false fun e => h e.symm] at hb
  refine callsA_of_vc (T := tt) Tryz.func141 rfl rfl rfl rfl rfl ?_
  repeat' ((conv => whnf);first | (refine Sbx.mk ⟨0,(by decide),rfl,?_⟩;rw [hd]) | refine Gs.id ?_ | with_reducible refine Brn.T rfl ?_ | with_reducible refine Brn.F rfl ?_ | refine Brn.F (by (try simp only [smT]);first | rfl | assumption | fail) ?_ | (refine Bnd.mk (fun hm => ?_);(try simp only [smT] at hm)) | (refine CL.mk (Or.inl ?_);(conv => whnf);refine Cl.is (hi) rfl (by first | exact fun _ => rfl | fail) ?_) | fail)
  all_goals (conv => whnf)
  all_goals exact Ret.is rfl
theorem count_T (s : ByteArray) : CallsA Tryz.prog 139 [dsr s,dsr dot] [] (Is (di (Go.Lib.countByte s.data.toList 46))) := by
 have hd : (dot[0].toNat : Int) = 46 := rfl
 have hr : ∀ w,(Extern.BytealgCount.count #[.string s,.int .u8 46]).run Tryz.prog w = .ok (.int .i64 (Go.Lib.countByte s.data.toList 46)) w := fun w => by
  rw [Go.Lib.run_countString];rfl
 have hf := Tryz.func155
 refine callsA_of_vc (T := tt) Tryz.func139 rfl rfl rfl rfl rfl ?_
 repeat' ((conv => whnf);first | (refine CL.mk (Or.inr (Raw.extSB (e := Extern.BytealgCount.count) rfl rfl hf (by kernel_rfl) (by kernel_rfl) (by kernel_rfl) (by kernel_rfl) hr rfl ?_))) | (refine Sbx.mk ⟨0,(by decide),rfl,?_⟩;rw [hd]) | refine Gs.id ?_ | with_reducible refine Brn.T rfl ?_ | with_reducible refine Brn.F rfl ?_ | (refine Bnd.mk (fun hm => ?_);(try simp only [smT] at hm)) | fail)
 all_goals (conv => whnf)
 all_goals exact Ret.is rfl
theorem index_T (s : ByteArray) : CallsA Tryz.prog 140 [dsr s,dsr dot] [] (Is (di (Go.Lib.indexByte s.data.toList 46))) := by
 have h := index0_T s
 have e : (if s = dot then 0 else Go.Lib.indexByte s.data.toList 46) = Go.Lib.indexByte s.data.toList 46 := by
  by_cases h : s = dot
  ·subst h;decide
  ·rw [if_neg h]
 rw [e] at h
 refine callsA_of_vc (T := tt) Tryz.func140 rfl rfl rfl rfl rfl ?_
 repeat' ((conv => whnf);first | refine Gs.id ?_ | (refine CL.mk (Or.inl ?_);(conv => whnf);refine Cl.is (h) rfl (by first | exact fun _ => rfl | fail) ?_) | fail)
 all_goals (conv => whnf)
 all_goals exact Ret.is rfl
end Go.Proofs.YtabmcfnefjipbaaGreatDoor
namespace Go.Proofs.YtabmcfnefjipbaaGreatDoor
open Go.RowKit
def cutI (s : ByteArray) : Int := Go.Lib.indexByte s.data.toList 46
def stI (s : ByteArray) : Nat → ByteArray × List ByteArray
 | 0 => (s,[])
 | i + 1 => ((stI s i).1.extract ((cutI (stI s i).1).toNat + 1) (stI s i).1.size,(stI s i).2 ++ [(stI s i).1.extract 0 (cutI (stI s i).1).toNat])
def cntB (s : ByteArray) : Nat := Go.Lib.countByte s.data.toList 46
theorem idx_cnt : ∀ (l : List UInt8),0 < l.count 46 → 0 ≤ Go.Lib.indexByte l 46 ∧ (Go.Lib.indexByte l 46).toNat < l.length ∧ (l.drop ((Go.Lib.indexByte l 46).toNat + 1)).count 46 + 1 = l.count 46
 | [],h => by simp at h
 | b :: l,h => by
  by_cases hb : b = 46
  ·subst hb
   simp [Go.Lib.indexByte]
  ·have hc : (b :: l).count 46 = l.count 46 := by rw [List.count_cons];simp [hb]
   rw [hc] at h
   obtain ⟨h1,h2,h3⟩ := idx_cnt l h
   have e : Go.Lib.indexByte (b :: l) 46 = Go.Lib.indexByte l 46 + 1 := by
    rw [Go.Lib.indexByte]
    have h4 : (b == 46) = false := by simpa using hb
    have h5 : (Go.Lib.indexByte l 46 == -1) = false := by simp;omega
    rw [h4,h5];rfl
   rw [e,hc]
   have e2 : (Go.Lib.indexByte l 46 + 1).toNat = (Go.Lib.indexByte l 46).toNat + 1 := by omega
   rw [e2]
   exact ⟨by omega,by simp;omega,by simpa using h3⟩
theorem cut_ok {s : ByteArray} (h : 0 < cntB s) : 0 ≤ cutI s ∧ (cutI s).toNat < s.size ∧ cntB (s.extract ((cutI s).toNat + 1) s.size) + 1 = cntB s := by
 obtain ⟨h1,h2,h3⟩ := idx_cnt s.data.toList h
 refine ⟨h1,by simpa [cutI] using h2,?_⟩
 have e : (s.extract ((cutI s).toNat + 1) s.size).data.toList = s.data.toList.drop ((cutI s).toNat + 1) := by
  simp [ByteArray.data_extract,Array.toList_extract,List.extract_eq_take_drop]
  rw [List.take_of_length_le (by simp)]
 rw [cntB,e]
 exact h3
theorem stI_ok (s : ByteArray) : ∀ i,i ≤ cntB s → cntB (stI s i).1 + i = cntB s ∧ (stI s i).2.length = i ∧ (stI s i).1.size ≤ s.size
 | 0,_ => ⟨rfl,rfl,Nat.le_refl _⟩
 | i + 1,h => by
  obtain ⟨h1,h2,h3⟩ := stI_ok s i (by omega)
  obtain ⟨c1,c2,c3⟩ := cut_ok (s := (stI s i).1) (by omega)
  refine ⟨by rw [stI];dsimp only;omega,by rw [stI];simp [h2],?_⟩
  rw [stI]
  simp
  omega
theorem cnt_le (s : ByteArray) : cntB s ≤ s.size := by
 have := List.count_le_length (a := (46 : UInt8)) (l := s.data.toList)
 simpa [cntB,Go.Lib.countByte] using this
abbrev zs (n : Nat) : List (List V) := List.replicate n [V.str (ByteArray.mk #[])]
theorem zs_set (L : List ByteArray) (n : Nat) (x : ByteArray) : (strs L ++ zs (n + 1)).set L.length [V.str x] = strs (L ++ [x]) ++ zs n := by
 rw [List.set_append_right _ _ (by simp)]
 simp [List.replicate_succ]
def splitM (s : ByteArray) : List ByteArray := (stI s (cntB s)).2 ++ [(stI s (cntB s)).1]
set_option maxHeartbeats 2000000 in
theorem genSplit_T (s : ByteArray) (hs : s.size ≤ 60) : CallsA Tryz.prog 113 [dsr s,dsr dot,di 0,di (-1)] [] (Is (.d (.u (.sl 1 (strs (splitM s)))))) := by
 have hc := count_T s
 have hle := cnt_le s
 have hix := fun r : ByteArray => index_T r
 have hcn : (Go.Lib.countByte s.data.toList 46 : Nat) = cntB s := rfl
 rw [hcn] at hc
 have hok := stI_ok s
 rw [splitM]
 have hcut : ∀ i,i < cntB s → 0 ≤ cutI (stI s i).1 ∧ (cutI (stI s i).1).toNat < (stI s i).1.size := fun i hi => by
  obtain ⟨h1,_,_⟩ := hok i (by omega)
  obtain ⟨c1,c2,_⟩ := cut_ok (s := (stI s i).1) (by omega)
  exact ⟨c1,c2⟩
 have hcc : ∀ i,i ≤ cntB s → (stI s i).2.length = i ∧ (stI s i).1.size ≤ s.size := fun i hi => (hok i hi).2
 clear hok
 generalize cntB s = n at *
 have hmin : min (n : Int) (s.size : Int) = n := by omega
 refine callsA_of_vc (T := tt) Tryz.func113 rfl rfl rfl rfl rfl ?_
 repeat' ((conv => whnf);first | refine Raw.makeSlice (T := tt) (n + 1) rfl rfl (by omega) (by omega) rfl rfl rfl rfl rfl rfl rfl (by omega) (by omega) ?_ | refine Gs.id ?_ | with_reducible refine Brn.T rfl ?_ | with_reducible refine Brn.F rfl ?_ | refine Brn.F (by (try simp only [smT]);first | rfl | (simp [*];done) | fail) ?_ | (refine Bnd.mk (fun hm => ?_);(try simp only [smT] at hm)) | refine Rng.mk (by (try simp only [smT]);omega) ?_ | (refine CL.mk (Or.inl ?_);(conv => whnf);refine Cl.is (hc) rfl (by first | exact fun _ => rfl | fail) ?_) | fail)
 all_goals (conv => whnf)
 refine ⟨⟨Nat,fun i => i ≤ n,fun i => n - i,fun i => ⟨[(0,dsr (stI s i).1),(1,dsr dot),(2,di 0),(3,di n),(9,.d (.ow 900 (n + 1))),(10,di i)],[(900,.ar 9 1 (strs (stI s i).2 ++ zs (n + 1 - i)))]⟩,0,Nat.zero_le _,⟨[(900,.k 31)],⟨by (try dsimp only);(repeat (refine LeT.cons rfl (by first | exact LeS.d (by first | exact LeD.u rfl | exact LeD.ow rfl rfl | exact LeD.u (by simp [hmin];done) | fail) | fail) ?_));exact LeT.nil,by (try dsimp only);repeat (first | exact LeO.nil | refine LeO.ar rfl rfl (by first | rfl | fail) ?_ | fail)⟩⟩,fun i hi => ?_⟩⟩
 dsimp only at hi ⊢
 obtain ⟨l1,l2⟩ := hcc i hi
 by_cases h9 : i < n
 ·obtain ⟨c1,c2⟩ := hcut i h9
  have hst := stI.eq_2 s i
  have hi2 : CallsA Tryz.prog 140 [dsr (stI s i).1,dsr dot] [] (Is (di (cutI (stI s i).1))) := hix (stI s i).1
  generalize cutI (stI s i).1 = m at *
  obtain ⟨m,rfl⟩ : ∃ k : Nat,m = (k : Int) := ⟨m.toNat,by omega⟩
  rw [Int.toNat_natCast] at hst c2
  generalize (stI s i).1 = r at *
  generalize (stI s i).2 = L at *
  have hds : dot.size = 1 := rfl
  have hzz : zs (n + 1 - i) = zs ((n - i) + 1) := by rw [show n + 1 - i = n - i + 1 by omega]
  have hset := zs_set L (n - i) (r.extract 0 m)
  rw [l1] at hset
  rw [hzz]
  have hrw : ∀ {K : List V → Prop},K [V.str (ByteArray.mk #[])] → Rw (strs L ++ zs (n - i + 1)) i K := fun k => Rw.get (by rw [List.getElem?_append_right (by simp [l1])];simp [l1]) k
  repeat' ((conv => whnf);first | refine Slc.mk ⟨0,m,rfl,(by omega),by omega,by omega,?_⟩ | refine Slc.mk ⟨(m + 1),r.size,(by rw [hds];omega),rfl,by omega,by omega,?_⟩ | refine Ixo.mk ⟨i,rfl,by omega,?_⟩ | refine hrw ?_ | refine Gs.id ?_ | with_reducible refine Brn.F rfl ?_ | refine Brn.T (by (try simp only [smT]);first | rfl | omega | fail) ?_ | (refine Bnd.mk (fun hm => ?_);(try simp only [smT] at hm)) | refine Rng.mk (by (try simp only [smT]);omega) ?_ | (refine CL.mk (Or.inl ?_);(conv => whnf);refine Cl.is (hi2) rfl (by first | exact fun _ => rfl | fail) ?_) | fail)
  all_goals (conv => whnf)
  have hz2 : n + 1 - (i + 1) = n - i := by omega
  all_goals
   refine ⟨i + 1,by omega,by omega,[(900,.k 900)],?_⟩
   rw [hst,hz2]
   exact ⟨by (try dsimp only);(repeat (refine LeT.cons rfl (by first | exact LeS.d (by first | exact LeD.u rfl | exact LeD.ow rfl rfl | fail) | fail) ?_));exact LeT.nil,by (try dsimp only);repeat (first | exact LeO.nil | refine LeO.ar rfl rfl (by first | simp [hset]) ?_ | fail)⟩
 ·obtain rfl : i = n := by omega
  clear hcut hcc hmin
  generalize (stI s i).1 = r at *
  generalize (stI s i).2 = L at *
  have hzz : zs (i + 1 - i) = zs (0 + 1) := by rw [show i + 1 - i = 1 by omega]
  have hset := zs_set L 0 r
  rw [l1] at hset
  rw [hzz]
  have hrw : ∀ {K : List V → Prop},K [V.str (ByteArray.mk #[])] → Rw (strs L ++ zs (0 + 1)) i K := fun k => Rw.get (by rw [List.getElem?_append_right (by simp [l1])];simp [l1]) k
  repeat' ((conv => whnf);first | refine Ixo.mk ⟨i,rfl,by omega,?_⟩ | refine hrw ?_ | refine Slc.mk ⟨0,i + 1,rfl,rfl,by omega,by simp [l1],?_⟩ | refine Gs.id ?_ | refine Brn.F (by (try simp only [smT]);first | rfl | omega | fail) ?_ | refine Rng.mk (by (try simp only [smT]);omega) ?_ | fail)
  all_goals (conv => whnf)
  all_goals
   refine Len.mk (by simp [l1]) ?_
   exact Ret.is (by simp at hset;simp [tupT,SC.up];exact hset)
end Go.Proofs.YtabmcfnefjipbaaGreatDoor
namespace Go.Proofs.YtabmcfnefjipbaaGreatDoor
open Go.RowKit
theorem split_T (s : ByteArray) (hs : s.size ≤ 60) : CallsA Tryz.prog 92 [dsr s,dsr dot] [] (Is (.d (.u (.sl 1 (strs (splitM s)))))) := by
 have h := genSplit_T s hs
 refine callsA_of_vc (T := tt) Tryz.func92 rfl rfl rfl rfl rfl ?_
 repeat' ((conv => whnf);first | refine Gs.id ?_ | (refine CL.mk (Or.inl ?_);(conv => whnf);refine Cl.is (h) rfl (by first | (intro e;cases e;done) | fail) ?_) | fail)
 all_goals (conv => whnf)
 all_goals exact Ret.is rfl
def badI : List ByteArray → Nat → Int
 | [],_ => -1
 | x :: l,i => if nameB x then badI l (i + 1) else i
theorem badI_all : ∀ (l : List ByteArray) (i : Nat),decide (0 ≤ badI l i) = !l.all nameB
 | [],i => rfl
 | x :: l,i => by
  rw [badI,List.all_cons]
  cases nameB x
  ·simp
  ·simpa using badI_all l (i + 1)
theorem splitM_len (s : ByteArray) : (splitM s).length ≤ s.size + 1 := by
 have h1 := (stI_ok s (cntB s) (Nat.le_refl _)).2.1
 have h2 := cnt_le s
 simp [splitM,h1]
 omega
def dottedM (s : ByteArray) : Bool := decide ((s.size : Int) ≤ 60) && (splitM s).all nameB
end Go.Proofs.YtabmcfnefjipbaaGreatDoor
namespace Go.Proofs.YtabmcfnefjipbaaGreatDoor
open Go.RowKit
theorem notName_T (s : ByteArray) : CallsA Tryz.prog 136 [dsr s] [] (Is (db (!nameB s))) := by
 have h := isName_T' s
 refine callsA_of_vc (T := tt) Tryz.func136 rfl rfl rfl rfl rfl ?_
 repeat' ((conv => whnf);first | refine Gs.id ?_ | (refine CL.mk (Or.inl ?_);(conv => whnf);refine Cl.is (h) rfl (by first | exact fun _ => rfl | fail) ?_) | fail)
 all_goals (conv => whnf)
 all_goals exact Ret.is rfl
abbrev fnD : V := .fn 136
theorem indexFunc_T (l : List ByteArray) (hl : l.length ≤ 1000000) : CallsA Tryz.prog 112 [.d (.u (.sl 1 (strs l))),.d (.u fnD)] [] (Is (di (badI l 0))) := by
 refine callsA_of_vc (T := tt) Tryz.func112 rfl rfl rfl rfl rfl ?_
 repeat' ((conv => whnf);first | refine Gs.id ?_ | (refine Bnd.mk (fun hm => ?_);(try simp only [smT] at hm)) | fail)
 all_goals (conv => whnf)
 refine ⟨⟨Nat,fun i => i ≤ l.length ∧ badI l 0 = badI (l.drop i) i,fun i => l.length - i,fun i => ⟨[(0,.d (.u (.sl 1 (strs l)))),(1,.d (.u fnD)),(7,di l.length),(8,di i)],[]⟩,0,⟨Nat.zero_le _,rfl⟩,⟨[],⟨by (try dsimp only);(repeat (refine LeT.cons rfl (by first | exact LeS.d (by first | exact LeD.u rfl | exact LeD.u (by simp;done) | fail) | fail) ?_));exact LeT.nil,by (try dsimp only);repeat (first | exact LeO.nil | fail)⟩⟩,fun i hi => ?_⟩⟩
 obtain ⟨hi,he⟩ := hi
 dsimp only
 rw [he]
 by_cases h9 : i < l.length
 ·rw [List.drop_eq_getElem_cons h9,badI]
  have hrow : ∀ {K : List V → Prop},K [V.str l[i]] → Ix (strs l) (i : Int) K := fun k => Ix.map rfl h9 k
  generalize l[i] = x at *
  have hn := notName_T x
  cases hx : nameB x
  ·rw [hx] at hn
   repeat' ((conv => whnf);first | refine hrow ?_ | refine Gs.id ?_ | with_reducible refine Brn.T rfl ?_ | refine Brn.T (by (try simp only [smT]);first | rfl | omega | fail) ?_ | (refine Raw.callF [] [] rfl rfl rfl rfl rfl rfl rfl rfl (hn) ?_;rintro _ _ ⟨rfl,rfl⟩;refine Bk.mk rfl rfl ?_))
   all_goals (conv => whnf)
   all_goals exact Ret.is rfl
  ·rw [hx] at hn
   repeat' ((conv => whnf);first | refine hrow ?_ | refine Gs.id ?_ | with_reducible refine Brn.F rfl ?_ | refine Brn.T (by (try simp only [smT]);first | rfl | omega | fail) ?_ | refine Rng.mk (by (try simp only [smT]);omega) ?_ | (refine Raw.callF [] [] rfl rfl rfl rfl rfl rfl rfl rfl (hn) ?_;rintro _ _ ⟨rfl,rfl⟩;refine Bk.mk rfl rfl ?_))
   all_goals (conv => whnf)
   all_goals exact ⟨i + 1,⟨by omega,by rw [if_pos rfl]⟩,by omega,[],⟨by (try dsimp only);(repeat (refine LeT.cons rfl (by first | exact LeS.d (by first | exact LeD.u rfl | fail) | fail) ?_));exact LeT.nil,by (try dsimp only);repeat (first | exact LeO.nil | fail)⟩⟩
 ·obtain rfl : i = l.length := by omega
  rw [List.drop_length,badI]
  repeat' ((conv => whnf);first | refine Gs.id ?_ | refine Brn.F (by (try simp only [smT]);first | rfl | omega | fail) ?_ | fail)
  all_goals (conv => whnf)
  all_goals exact Ret.is rfl
theorem containsFunc_T (l : List ByteArray) (hl : l.length ≤ 1000000) : CallsA Tryz.prog 91 [.d (.u (.sl 1 (strs l))),.d (.u fnD)] [] (Is (db (!l.all nameB))) := by
 have h := indexFunc_T l hl
 rw [← badI_all l 0]
 refine callsA_of_vc (T := tt) Tryz.func91 rfl rfl rfl rfl rfl ?_
 repeat' ((conv => whnf);first | refine Gs.id ?_ | (refine CL.mk (Or.inl ?_);(conv => whnf);refine Cl.is (h) rfl (by first | exact fun _ => rfl | fail) ?_) | fail)
 all_goals (conv => whnf)
 all_goals exact Ret.is rfl
theorem dotted_T (s : ByteArray) : CallsA Tryz.prog 109 [dsr s] [] (Is (db (dottedM s))) := by
 by_cases h : (s.size : Int) ≤ 60
 ·have e : dottedM s = (splitM s).all nameB := by simp [dottedM,h]
  rw [e]
  have h1 := split_T s (by omega)
  have h2 := containsFunc_T (splitM s) (by have := splitM_len s;omega)
  have h3 : (!!(splitM s).all nameB) = (splitM s).all nameB := by simp
  refine callsA_of_vc (T := tt) Tryz.func109 rfl rfl rfl rfl rfl ?_
  repeat' ((conv => whnf);first | refine Gs.id ?_ | refine Brn.T (by (try simp only [smT]);first | rfl | assumption | fail) ?_ | (refine Bnd.mk (fun hm => ?_);(try simp only [smT] at hm)) | (refine CL.mk (Or.inl ?_);(conv => whnf);first | refine Cl.is (h1) rfl (by first | (intro e;cases e;done) | fail) ?_ | refine Cl.is (h2) rfl (by first | exact fun _ => rfl | fail) ?_) | fail)
  all_goals (conv => whnf)
  all_goals exact Ret.is (by simp [tupT,SC.up])
 ·have e : dottedM s = false := by simp [dottedM,h]
  rw [e]
  refine callsA_of_vc (T := tt) Tryz.func109 rfl rfl rfl rfl rfl ?_
  repeat' ((conv => whnf);first | refine Gs.id ?_ | refine Brn.F (by (try simp only [smT]);first | rfl | omega | fail) ?_ | (refine Bnd.mk (fun hm => ?_);(try simp only [smT] at hm)) | fail)
  all_goals (conv => whnf)
  all_goals exact Ret.is rfl
end Go.Proofs.YtabmcfnefjipbaaGreatDoor
namespace Go.Proofs.YtabmcfnefjipbaaGreatDoor
def dotL : List UInt8 → List (List UInt8)
 | [] => [[]]
 | b :: l => if b = 46 then [] :: dotL l else match dotL l with
  | [] => [[b]]
  | x :: r => (b :: x) :: r
theorem dotL_ne : ∀ l,dotL l ≠ []
 | [] => by simp [dotL]
 | b :: l => by
  rw [dotL]
  split
  ·simp
  ·split <;> simp
def preL (x : List UInt8) : List (List UInt8) → List (List UInt8)
 | [] => [x]
 | y :: r => (x ++ y) :: r
theorem dotL_cons {b : UInt8} {l : List UInt8} (h : b ≠ 46) : dotL (b :: l) = preL [b] (dotL l) := by
 rw [dotL,if_neg h]
 cases dotL l <;> rfl
theorem preL_preL (x y : List UInt8) (l : List (List UInt8)) : preL x (preL y l) = preL (x ++ y) l := by
 cases l <;> simp [preL]
theorem dotL_idx : ∀ (l : List UInt8),0 < l.count 46 → dotL l = l.take (Go.Lib.indexByte l 46).toNat :: dotL (l.drop ((Go.Lib.indexByte l 46).toNat + 1))
 | [],h => by simp at h
 | b :: l,h => by
  by_cases hb : b = 46
  ·subst hb
   simp [dotL,Go.Lib.indexByte]
  ·have hc : (b :: l).count 46 = l.count 46 := by rw [List.count_cons];simp [hb]
   rw [hc] at h
   obtain ⟨h1,h2,h3⟩ := idx_cnt l h
   have e : Go.Lib.indexByte (b :: l) 46 = Go.Lib.indexByte l 46 + 1 := by
    rw [Go.Lib.indexByte]
    have h4 : (b == 46) = false := by simpa using hb
    have h5 : (Go.Lib.indexByte l 46 == -1) = false := by simp;omega
    rw [h4,h5];rfl
   have e2 : (Go.Lib.indexByte l 46 + 1).toNat = (Go.Lib.indexByte l 46).toNat + 1 := by omega
   rw [e,e2,dotL_cons hb,dotL_idx l h]
   simp [preL]
theorem dotL_none : ∀ (l : List UInt8),l.count 46 = 0 → dotL l = [l]
 | [],_ => rfl
 | b :: l,h => by
  have hb : b ≠ 46 := fun e => by subst e;simp at h
  have hc : (b :: l).count 46 = l.count 46 := by rw [List.count_cons];simp [hb]
  rw [dotL_cons hb,dotL_none l (by omega)]
  rfl
abbrev tl (l : List ByteArray) : List (List UInt8) := l.map fun s => s.data.toList
theorem extract_tl (s : ByteArray) (a b : Nat) : (s.extract a b).data.toList = (s.data.toList.drop a).take (b - a) := by
 simp [ByteArray.data_extract,Array.toList_extract,List.extract_eq_take_drop]
theorem stI_dotL (s : ByteArray) : ∀ i,i ≤ cntB s → dotL s.data.toList = tl (stI s i).2 ++ dotL (stI s i).1.data.toList
 | 0,_ => rfl
 | i + 1,h => by
  obtain ⟨h1,_,_⟩ := stI_ok s i (by omega)
  have hp : 0 < (stI s i).1.data.toList.count 46 := by
   have : cntB (stI s i).1 = (stI s i).1.data.toList.count 46 := rfl
   omega
  rw [stI_dotL s i (by omega),dotL_idx _ hp,stI]
  have e1 := extract_tl (stI s i).1 0 (cutI (stI s i).1).toNat
  have e2 := extract_tl (stI s i).1 ((cutI (stI s i).1).toNat + 1) (stI s i).1.size
  rw [List.take_of_length_le (by simp)] at e2
  simp only [tl,List.map_append,List.map_cons,List.map_nil,List.append_assoc,List.singleton_append]
  rw [e1,e2]
  simp [cutI]
theorem splitM_dotL (s : ByteArray) : tl (splitM s) = dotL s.data.toList := by
 obtain ⟨h1,_,_⟩ := stI_ok s (cntB s) (Nat.le_refl _)
 have h0 : (stI s (cntB s)).1.data.toList.count 46 = 0 := by
  have : cntB (stI s (cntB s)).1 = (stI s (cntB s)).1.data.toList.count 46 := rfl
  omega
 rw [stI_dotL s _ (Nat.le_refl _),dotL_none _ h0]
 simp [tl,splitM]
theorem preL_nil {l : List (List UInt8)} (h : l ≠ []) : preL [] l = l := by
 cases l with
 | nil => exact absurd rfl h
 | cons y r => rfl
theorem splitB_dotL (s : ByteArray) : ∀ i,i ≤ s.size → dotL s.data.toList = tl (splitB s 46 i).1 ++ preL ((s.data.toList.drop (splitB s 46 i).2).take (i - (splitB s 46 i).2)) (dotL (s.data.toList.drop i))
 | 0,_ => by simp [splitB,preL_nil (dotL_ne _)]
 | i + 1,h => by
  have ih := splitB_dotL s i (by omega)
  have hle := splitB_le s 46 i
  have hi : i < s.data.toList.length := by simp;omega
  have hd : s.data.toList.drop i = s.data.toList[i] :: s.data.toList.drop (i + 1) := List.drop_eq_getElem_cons hi
  have hg : s.data[i]? = some s.data.toList[i] := by simp at hi ⊢
  rw [splitB,hg]
  rw [hd] at ih
  generalize hb : s.data.toList[i] = b at *
  by_cases hc : b = 46
  ·subst hc
   rw [if_pos (.inr rfl),ih,dotL,if_pos rfl]
   have e1 := extract_tl s (splitB s 46 i).2 i
   have hne := dotL_ne (s.data.toList.drop (i + 1))
   generalize dotL (s.data.toList.drop (i + 1)) = Y at *
   cases Y with
   | nil => exact absurd rfl hne
   | cons y r =>
    simp only [tl,List.map_append,List.map_cons,List.map_nil,List.append_assoc,List.singleton_append,preL,List.append_nil,Nat.sub_self,List.take_zero,List.nil_append]
    rw [e1]
  ·rw [if_neg (by simp [hc];omega),ih,dotL_cons hc,preL_preL]
   congr 2
   have e : i + 1 - (splitB s 46 i).2 = (i - (splitB s 46 i).2) + 1 := by omega
   have hlen : i - (splitB s 46 i).2 < (s.data.toList.drop (splitB s 46 i).2).length := by simp;simp at hi;omega
   rw [e,List.take_succ_eq_append_getElem hlen]
   congr 1
   rw [List.getElem_drop]
   have : (splitB s 46 i).2 + (i - (splitB s 46 i).2) = i := by omega
   simp only [this,hb]
theorem parts_dotL (s : ByteArray) : tl (parts s) = dotL s.data.toList := by
 have h := splitB_dotL s s.size (Nat.le_refl _)
 rw [parts,splitB,if_pos (.inl rfl),h]
 have e1 := extract_tl s (splitB s 46 s.size).2 s.size
 have e2 : s.data.toList.drop s.size = [] := List.drop_eq_nil_of_le (by simp)
 rw [e2]
 simp only [tl,List.map_append,List.map_cons,List.map_nil,dotL,preL,List.append_nil]
 rw [e1]
theorem tl_inj {a b : List ByteArray} (h : tl a = tl b) : a = b := by
 induction a generalizing b with
 | nil => cases b with
  | nil => rfl
  | cons => simp [tl] at h
 | cons x r ih =>
  cases b with
  | nil => simp [tl] at h
  | cons y q =>
   simp only [tl,List.map_cons,List.cons.injEq] at h
   obtain ⟨h1,h2⟩ := h
   obtain ⟨x⟩ := x
   obtain ⟨y⟩ := y
   have : x = y := Array.toList_inj.1 h1
   rw [this,ih h2]
theorem splitM_parts (s : ByteArray) : splitM s = parts s := tl_inj ((splitM_dotL s).trans (parts_dotL s).symm)
theorem dottedM_eq (s : ByteArray) : dottedM s = dottedB s := by rw [dottedM,dottedB,splitM_parts,Bool.and_comm]
end Go.Proofs.YtabmcfnefjipbaaGreatDoor
namespace Go.Proofs.YtabmcfnefjipbaaGreatDoor
open Go.RowKit
structure Ev where
 kind : Int
 md : ByteArray
 fn : ByteArray
 line : Int
 depth : Int
 fuel : Int
 text : ByteArray
 locs : List (ByteArray × ByteArray)
abbrev locR (p : ByteArray × ByteArray) : List V := [.str p.1,.str p.2]
abbrev Ev.row (e : Ev) : List V := [.int .i64 e.kind,.str e.md,.str e.fn,.int .i64 e.line,.int .i64 e.depth,.int .i64 e.fuel,.str e.text,.sl 2 (e.locs.map locR)]
abbrev Ev.ds (e : Ev) : List D := [.u (.int .i64 e.kind),.u (.str e.md),.u (.str e.fn),.u (.int .i64 e.line),.u (.int .i64 e.depth),.u (.int .i64 e.fuel),.u (.str e.text),.u (.sl 2 (e.locs.map locR))]
abbrev evs (l : List Ev) : V := .sl 8 (l.map Ev.row)
abbrev dfa (c i : Int) : SV := .a [.u (.int .i64 c),.u (.int .i64 i)]
abbrev Fu := ByteArray × ByteArray
def Ev.fu (e : Ev) : Fu := (e.md,e.fn)
def shapeM (e : Ev) (fuel : Int) : Int :=
 if e.kind < 1 ∨ 4 < e.kind then 5
 else if (e.kind ≠ 1 ∧ 0 < e.locs.length) ∨ (e.kind ≤ 2 ∧ e.text.size ≠ 0) then 6
 else if dottedM e.md = false ∨ nameB e.fn = false then 7
 else if e.line < 0 ∨ e.fuel < fuel then 4 else 0
theorem of_T (e : Ev) : CallsA Tryz.prog 72 [.a e.ds] [] (Is (.a [.u (.str e.md),.u (.str e.fn)])) := by
 refine callsA_of_vc (T := tt) Tryz.func72 rfl rfl rfl rfl rfl ?_
 repeat' ((conv => whnf);first | refine Gs.id ?_ | fail)
 all_goals (conv => whnf)
 all_goals exact Ret.is rfl
set_option maxHeartbeats 2000000 in
theorem shape_T (e : Ev) (fuel : Int) : CallsA Tryz.prog 84 [.a e.ds,di fuel] [] (Is (di (shapeM e fuel))) := by
 have hd := dotted_T e.md
 have hn := isName_T' e.fn
 have hs0 := str_nil (s := e.text)
 have hl : ((e.locs.map locR).length : Int) = (e.locs.length : Int) := by simp
 generalize hz : (e.text.toList == (ByteArray.mk #[]).toList) = bz at *
 unfold shapeM
 generalize dottedM e.md = bd at *
 generalize nameB e.fn = bn at *
 refine callsA_of_vc (T := tt) Tryz.func84 rfl rfl rfl rfl rfl ?_
 repeat' ((conv => whnf);first | rw [hz] | refine Gs.id ?_ | with_reducible refine Brn.T rfl ?_ | with_reducible refine Brn.F rfl ?_ | refine Brn.T (by (try simp only [smT]);first | rfl | assumption | omega | fail) ?_ | refine Brn.F (by (try simp only [smT]);first | rfl | assumption | omega | fail) ?_ | (refine Brn.mk (fun hb => ?_) (fun hb => ?_) <;> (try simp only [smT] at hb) <;> (try (exact absurd trivial hb)) <;> (try (exfalso;omega))) | (refine Bnd.mk (fun hm => ?_);(try simp only [smT] at hm)) | (refine CL.mk (Or.inl ?_);(conv => whnf);first | refine Cl.is (hd) rfl (by first | exact fun _ => rfl | fail) ?_ | refine Cl.is (hn) rfl (by first | exact fun _ => rfl | fail) ?_) | fail)
 all_goals (conv => whnf)
 all_goals refine Ret.is (congrArg di ?_)
 all_goals grind
end Go.Proofs.YtabmcfnefjipbaaGreatDoor
namespace Go.Proofs.YtabmcfnefjipbaaGreatDoor
open Go.RowKit
def cutJ (s : ByteArray) : Int := Go.Lib.indexByte s.data.toList 32
theorem idxJ_lt : ∀ (l : List UInt8),-1 ≤ Go.Lib.indexByte l 32 ∧ Go.Lib.indexByte l 32 < (l.length : Int)
 | [] => by simp [Go.Lib.indexByte]
 | b :: l => by
  have ih := idxJ_lt l
  rw [Go.Lib.indexByte,List.length_cons]
  split
  ·omega
  ·split <;> omega
theorem cutJ_lt (s : ByteArray) : -1 ≤ cutJ s ∧ cutJ s < (s.size : Int) := by
 have := idxJ_lt s.data.toList
 simpa [cutJ] using this
def cutW (s : ByteArray) : ByteArray := if 0 ≤ cutJ s then s.extract 0 (cutJ s).toNat else s
def cutR' (s : ByteArray) : ByteArray := if 0 ≤ cutJ s then s.extract ((cutJ s).toNat + 1) s.size else ByteArray.mk #[]
theorem cutJ0_T (s : ByteArray) (hs : s.size ≤ 1000000) : CallsA Tryz.prog 114 [dsr s,dsr spc] [] (Is (.t [.d (.u (.str (cutW s))),.d (.u (.str (cutR' s))),.d (.u (.bool (decide (0 ≤ cutJ s))))])) := by
 have h := index0Q_T s
 have e : (if s = spc then 0 else Go.Lib.indexByte s.data.toList 32) = cutJ s := by
  by_cases h : s = spc
  ·subst h;decide
  ·rw [if_neg h];rfl
 rw [e] at h
 obtain ⟨l1,l2⟩ := cutJ_lt s
 by_cases h0 : 0 ≤ cutJ s
 ·obtain ⟨m,hm0⟩ : ∃ m : Nat,cutJ s = m := ⟨(cutJ s).toNat,by omega⟩
  have e1 : cutW s = s.extract 0 m := by rw [cutW,if_pos h0,hm0];rfl
  have e2 : cutR' s = s.extract (m + 1) s.size := by rw [cutR',if_pos h0,hm0];rfl
  rw [e1,e2,decide_eq_true h0]
  rw [hm0] at h l2
  have hd : spc.size = 1 := rfl
  refine callsA_of_vc (T := tt) Tryz.func114 rfl rfl rfl rfl rfl ?_
  repeat' ((conv => whnf);first | refine Gs.id ?_ | with_reducible refine Brn.T rfl ?_ | (refine Bnd.mk (fun hm => ?_);(try simp only [smT] at hm)) | refine Rng.mk (by (try simp only [smT]);omega) ?_ | refine Slc.mk ⟨_,_,rfl,rfl,(by (try simp only [smT]);omega),(by (try simp only [smT]);omega),?_⟩ | refine Drw.of (T := tt) (i := 3) [] [] [(0,true),(1,true),(2,true),(3,true),(4,true),(5,true),(6,true),(7,true),(8,true),(9,true),(10,true),(11,true)] (by kernel_rfl) ?_ | (refine CL.mk (Or.inl ?_);(conv => whnf);refine Cl.is (h) rfl (by first | exact fun _ => rfl | fail) ?_) | fail)
  all_goals (conv => whnf)
  all_goals exact Ret.is rfl
 ·have e1 : cutW s = s := by rw [cutW,if_neg h0]
  have e2 : cutR' s = ByteArray.mk #[] := by rw [cutR',if_neg h0]
  rw [e1,e2,decide_eq_false h0]
  refine callsA_of_vc (T := tt) Tryz.func114 rfl rfl rfl rfl rfl ?_
  repeat' ((conv => whnf);first | refine Gs.id ?_ | refine Brn.F (by (try simp only [smT]);first | rfl | omega | fail) ?_ | (refine CL.mk (Or.inl ?_);(conv => whnf);refine Cl.is (h) rfl (by first | exact fun _ => rfl | fail) ?_) | fail)
  all_goals (conv => whnf)
  all_goals exact Ret.is rfl
theorem cutJ_T (s : ByteArray) (hs : s.size ≤ 1000000) : CallsA Tryz.prog 96 [dsr s,dsr spc] [] (Is (.t [.d (.u (.str (cutW s))),.d (.u (.str (cutR' s))),.d (.u (.bool (decide (0 ≤ cutJ s))))])) := by
 have h := cutJ0_T s hs
 refine callsA_of_vc (T := tt) Tryz.func96 rfl rfl rfl rfl rfl ?_
 repeat' ((conv => whnf);first | refine Gs.id ?_ | (refine CL.mk (Or.inl ?_);(conv => whnf);refine Cl.is (h) rfl (by first | exact fun _ => rfl | fail) ?_) | fail)
 all_goals (conv => whnf)
 all_goals exact Ret.is rfl
abbrev showK : ByteArray := ByteArray.mk #[115,104,111,119,32]
def isShow (c : ByteArray) : Bool := decide (5 ≤ c.size) && decide (c.extract 0 5 = showK)
theorem hasShow_T (c : ByteArray) : CallsA Tryz.prog 101 [dsr c,dsr showK] [] (Is (db (isShow c))) := by
 have h : CallsA Tryz.prog 118 [dsr c,dsr showK] [] (Is (db (isShow c))) := by
  have hd : showK.size = 5 := rfl
  have hq := toList_beq (c.extract 0 5) showK
  unfold isShow
  by_cases h5 : 5 ≤ c.size
  ·rw [decide_eq_true h5,Bool.true_and]
   generalize decide (c.extract 0 5 = showK) = b at *
   refine callsA_of_vc (T := tt) Tryz.func118 rfl rfl rfl rfl rfl ?_
   repeat' ((conv => whnf);first | refine Slc.mk ⟨0,5,rfl,rfl,by omega,by omega,?_⟩ | rw [hq] | refine Gs.id ?_ | refine Brn.T (by (try simp only [smT]);first | rfl | omega | fail) ?_ | (refine Bnd.mk (fun hm => ?_);(try simp only [smT] at hm)) | fail)
   all_goals (conv => whnf)
   all_goals first | exact Ret.is rfl | (exfalso;simp at *;omega)
  ·rw [decide_eq_false h5,Bool.false_and]
   refine callsA_of_vc (T := tt) Tryz.func118 rfl rfl rfl rfl rfl ?_
   repeat' ((conv => whnf);first | refine Gs.id ?_ | refine Brn.F (by (try simp only [smT]);first | rfl | omega | fail) ?_ | (refine Bnd.mk (fun hm => ?_);(try simp only [smT] at hm)) | fail)
   all_goals (conv => whnf)
   all_goals first | exact Ret.is rfl | (exfalso;simp at *;omega)
 refine callsA_of_vc (T := tt) Tryz.func101 rfl rfl rfl rfl rfl ?_
 repeat' ((conv => whnf);first | refine Gs.id ?_ | (refine CL.mk (Or.inl ?_);(conv => whnf);refine Cl.is (h) rfl (by first | exact fun _ => rfl | fail) ?_) | fail)
 all_goals (conv => whnf)
 all_goals exact Ret.is rfl
def spN : Nat → ByteArray → List ByteArray
 | 0,s => [s]
 | k + 1,s => if 0 ≤ cutJ s then s.extract 0 (cutJ s).toNat :: spN k (s.extract ((cutJ s).toNat + 1) s.size) else [s]
theorem spN_len : ∀ (k : Nat) (s : ByteArray),1 ≤ (spN k s).length ∧ (spN k s).length ≤ k + 1
 | 0,s => by simp [spN]
 | k + 1,s => by
  rw [spN]
  split
  ·have := spN_len k (s.extract ((cutJ s).toNat + 1) s.size)
   simp;omega
  ·simp
theorem spN_small : ∀ (k j : Nat) (s : ByteArray),s.size ≤ k → spN (k + j) s = spN k s
 | 0,0,s,_ => rfl
 | 0,j + 1,s,h => by
  have := cutJ_lt s
  rw [Nat.zero_add]
  show (if 0 ≤ cutJ s then s.extract 0 (cutJ s).toNat :: spN j (s.extract ((cutJ s).toNat + 1) s.size) else [s]) = [s]
  rw [if_neg (by omega)]
 | k + 1,j,s,h => by
  rw [show k + 1 + j = (k + j) + 1 by omega,spN,spN]
  split
  ·rename_i h0
   have := cutJ_lt s
   rw [spN_small k j _ (by simp;omega)]
  ·rfl
set_option maxHeartbeats 2000000 in
theorem genSplitN_T (s : ByteArray) (hs : s.size ≤ 1000000) : CallsA Tryz.prog 113 [dsr s,dsr spc,di 0,di 4] [] (Is (.d (.u (.sl 1 (strs (spN 3 s)))))) := by
 obtain ⟨k,hk,hk2⟩ : ∃ k : Nat,min (4 : Int) ((s.size : Int) + 1) = (k : Int) + 1 ∧ spN 3 s = spN k s := by
  by_cases h3 : 3 ≤ s.size
  ·exact ⟨3,by omega,rfl⟩
  ·exact ⟨s.size,by omega,by rw [show 3 = s.size + (3 - s.size) by omega];exact spN_small _ _ _ (Nat.le_refl _)⟩
 have hk3 : k ≤ 3 := by omega
 rw [hk2]
 have hemp : (spc.toList == (ByteArray.mk #[]).toList) = false := by rw [toList_beq];decide
 refine callsA_of_vc (T := tt) Tryz.func113 rfl rfl rfl rfl rfl ?_
 repeat' ((conv => whnf);first | rw [hemp] | refine Raw.makeSlice (T := tt) (k + 1) rfl rfl (by omega) (by omega) rfl rfl rfl rfl rfl rfl rfl (by omega) (by omega) ?_ | refine Gs.id ?_ | with_reducible refine Brn.F rfl ?_ | (refine Bnd.mk (fun hm => ?_);(try simp only [smT] at hm)) | refine Rng.mk (by (try simp only [smT]);omega) ?_ | fail)
 all_goals (conv => whnf)
 refine ⟨⟨Nat × ByteArray × List ByteArray,fun q => q.1 ≤ k ∧ q.2.2.length = q.1 ∧ q.2.1.size ≤ s.size ∧ spN k s = q.2.2 ++ spN (k - q.1) q.2.1,fun q => k - q.1,fun q => ⟨[(0,dsr q.2.1),(1,dsr spc),(2,di 0),(3,di k),(9,.d (.ow 900 (k + 1))),(10,di q.1)],[(900,.ar 9 1 (strs q.2.2 ++ zs (k + 1 - q.1)))]⟩,(0,s,[]),⟨Nat.zero_le _,rfl,Nat.le_refl _,rfl⟩,⟨[(900,.k 31)],⟨by (try dsimp only);(repeat (refine LeT.cons rfl (by first | exact LeS.d (by first | exact LeD.u rfl | exact LeD.ow rfl rfl | exact LeD.u (by simp [hk];done) | fail) | fail) ?_));exact LeT.nil,by (try dsimp only);repeat (first | exact LeO.nil | refine LeO.ar rfl rfl (by first | rfl | fail) ?_ | fail)⟩⟩,fun q hq => ?_⟩⟩
 obtain ⟨i,r,L⟩ := q
 obtain ⟨hi,l1,l2,hsp⟩ := hq
 dsimp only at hi l1 l2 hsp ⊢
 have hix : CallsA Tryz.prog 140 [dsr r,dsr spc] [] (Is (di (cutJ r))) := indexQ_T r
 obtain ⟨c1,c2⟩ := cutJ_lt r
 have hds : spc.size = 1 := rfl
 have fin : ∀ (i : Nat) (L : List ByteArray),L.length = i → i ≤ k → ((strs L ++ zs ((k - i) + 1)).set i [V.str r]).take (i + 1) = strs (L ++ [r]) := fun i L h1 h2 => by
  subst h1
  rw [zs_set,List.take_append_of_le_length (by simp),List.take_of_length_le (by simp)]
 have hrw : ∀ {K : List V → Prop},K [V.str (ByteArray.mk #[])] → Rw (strs L ++ zs ((k - i) + 1)) i K := fun kk => Rw.get (by rw [List.getElem?_append_right (by simp [l1])];simp [l1]) kk
 have hkk : k + 1 - i = (k - i) + 1 := by omega
 rw [hsp,hkk]
 clear hsp
 by_cases h9 : i < k
 ·by_cases h0 : 0 ≤ cutJ r
  ·have hst : spN (k - i) r = r.extract 0 (cutJ r).toNat :: spN (k - (i + 1)) (r.extract ((cutJ r).toNat + 1) r.size) := by
    rw [show k - i = (k - (i + 1)) + 1 by omega,spN,if_pos h0]
   rw [hst]
   generalize cutJ r = m at *
   obtain ⟨m,rfl⟩ : ∃ k : Nat,m = (k : Int) := ⟨m.toNat,by omega⟩
   rw [Int.toNat_natCast] at *
   have hset := zs_set L (k - i) (r.extract 0 m)
   rw [l1] at hset
   clear fin hst
   repeat' ((conv => whnf);first | refine Slc.mk ⟨0,m,rfl,(by omega),by omega,by omega,?_⟩ | refine Slc.mk ⟨(m + 1),r.size,(by rw [hds];omega),rfl,by omega,by omega,?_⟩ | refine Ixo.mk ⟨i,rfl,by omega,?_⟩ | refine hrw ?_ | refine Gs.id ?_ | with_reducible refine Brn.F rfl ?_ | refine Brn.T (by (try simp only [smT]);first | rfl | omega | fail) ?_ | (refine Bnd.mk (fun hm => ?_);(try simp only [smT] at hm)) | refine Rng.mk (by (try simp only [smT]);omega) ?_ | (refine CL.mk (Or.inl ?_);(conv => whnf);refine Cl.is (hix) rfl (by first | exact fun _ => rfl | fail) ?_) | fail)
   all_goals (conv => whnf)
   have hz2 : k + 1 - (i + 1) = k - i := by omega
   all_goals
    refine ⟨(i + 1,r.extract (m + 1) r.size,L ++ [r.extract 0 m]),⟨by dsimp only;omega,by simp [l1],by simp;omega,by simp⟩,by dsimp only;omega,[(900,.k 900)],?_⟩
    dsimp only
    rw [hz2]
    exact ⟨by (try dsimp only);(repeat (refine LeT.cons rfl (by first | exact LeS.d (by first | exact LeD.u rfl | exact LeD.ow rfl rfl | fail) | fail) ?_));exact LeT.nil,by (try dsimp only);repeat (first | exact LeO.nil | refine LeO.ar rfl rfl (by first | simp [hset]) ?_ | fail)⟩
  ·have hst : spN (k - i) r = [r] := by
    rw [show k - i = (k - (i + 1)) + 1 by omega,spN,if_neg h0]
   rw [hst]
   have hf := fin i L l1 hi
   clear fin hst
   repeat' ((conv => whnf);first | refine Ixo.mk ⟨i,rfl,by omega,?_⟩ | refine hrw ?_ | refine Slc.mk ⟨0,i + 1,rfl,rfl,by omega,(by first | (simp [l1];done) | fail),?_⟩ | refine Gs.go (i := 1000) (Ghost.trunc 900 (i + 1) rfl (by first | (simp [l1];done) | fail) hf) ?_ | refine Gs.id ?_ | refine Brn.T (by (try simp only [smT]);first | rfl | omega | fail) ?_ | refine Rng.mk (by (try simp only [smT]);omega) ?_ | refine Len.mk (by first | rfl | (simp only [smT];omega)) ?_ | (refine CL.mk (Or.inl ?_);(conv => whnf);refine Cl.is (hix) rfl (by first | exact fun _ => rfl | fail) ?_) | fail)
   all_goals (conv => whnf)
   all_goals exact Ret.is rfl
 ·obtain rfl : i = k := by omega
  rw [show spN (i - i) r = [r] by rw [Nat.sub_self];rfl]
  have hf := fin i L l1 (Nat.le_refl _)
  rw [Nat.sub_self] at *
  clear fin
  repeat' ((conv => whnf);first | refine Ixo.mk ⟨i,rfl,by omega,?_⟩ | refine hrw ?_ | refine Slc.mk ⟨0,i + 1,rfl,rfl,by omega,(by first | (simp [l1];done) | fail),?_⟩ | refine Gs.go (i := 1000) (Ghost.trunc 900 (i + 1) rfl (by first | (simp [l1];done) | fail) hf) ?_ | refine Gs.id ?_ | refine Brn.F (by (try simp only [smT]);first | rfl | omega | fail) ?_ | refine Rng.mk (by (try simp only [smT]);omega) ?_ | refine Len.mk (by first | rfl | (simp only [smT];omega)) ?_ | fail)
  all_goals (conv => whnf)
  all_goals exact Ret.is rfl
theorem splitN_T (s : ByteArray) (hs : s.size ≤ 1000000) : CallsA Tryz.prog 98 [dsr s,dsr spc,di 4] [] (Is (.d (.u (.sl 1 (strs (spN 3 s)))))) := by
 have h := genSplitN_T s hs
 refine callsA_of_vc (T := tt) Tryz.func98 rfl rfl rfl rfl rfl ?_
 repeat' ((conv => whnf);first | refine Gs.id ?_ | (refine CL.mk (Or.inl ?_);(conv => whnf);refine Cl.is (h) rfl (by first | (intro e;cases e;done) | fail) ?_) | fail)
 all_goals (conv => whnf)
 all_goals exact Ret.is rfl
end Go.Proofs.YtabmcfnefjipbaaGreatDoor
namespace Go.Proofs.YtabmcfnefjipbaaGreatDoor
open Go.RowKit
theorem notName_T_d (s : ByteArray) : CallsA Tryz.prog 93 [dsr s] [] (Is (db (!nameB s))) := by
 have h := isName_T' s
 refine callsA_of_vc (T := tt) Tryz.func93 rfl rfl rfl rfl rfl ?_
 repeat' ((conv => whnf);first | refine Gs.id ?_ | (refine CL.mk (Or.inl ?_);(conv => whnf);refine Cl.is (h) rfl (by first | exact fun _ => rfl | fail) ?_) | fail)
 all_goals (conv => whnf)
 all_goals exact Ret.is rfl
abbrev fnD_d : V := .fn 93
theorem indexFunc_T_d (l : List ByteArray) (hl : l.length ≤ 1000000) : CallsA Tryz.prog 112 [.d (.u (.sl 1 (strs l))),.d (.u fnD_d)] [] (Is (di (badI l 0))) := by
 refine callsA_of_vc (T := tt) Tryz.func112 rfl rfl rfl rfl rfl ?_
 repeat' ((conv => whnf);first | refine Gs.id ?_ | (refine Bnd.mk (fun hm => ?_);(try simp only [smT] at hm)) | fail)
 all_goals (conv => whnf)
 refine ⟨⟨Nat,fun i => i ≤ l.length ∧ badI l 0 = badI (l.drop i) i,fun i => l.length - i,fun i => ⟨[(0,.d (.u (.sl 1 (strs l)))),(1,.d (.u fnD_d)),(7,di l.length),(8,di i)],[]⟩,0,⟨Nat.zero_le _,rfl⟩,⟨[],⟨by (try dsimp only);(repeat (refine LeT.cons rfl (by first | exact LeS.d (by first | exact LeD.u rfl | exact LeD.u (by simp;done) | fail) | fail) ?_));exact LeT.nil,by (try dsimp only);repeat (first | exact LeO.nil | fail)⟩⟩,fun i hi => ?_⟩⟩
 obtain ⟨hi,he⟩ := hi
 dsimp only
 rw [he]
 by_cases h9 : i < l.length
 ·rw [List.drop_eq_getElem_cons h9,badI]
  have hrow : ∀ {K : List V → Prop},K [V.str l[i]] → Ix (strs l) (i : Int) K := fun k => Ix.map rfl h9 k
  generalize l[i] = x at *
  have hn := notName_T_d x
  cases hx : nameB x
  ·rw [hx] at hn
   repeat' ((conv => whnf);first | refine hrow ?_ | refine Gs.id ?_ | with_reducible refine Brn.T rfl ?_ | refine Brn.T (by (try simp only [smT]);first | rfl | omega | fail) ?_ | (refine Raw.callF [] [] rfl rfl rfl rfl rfl rfl rfl rfl (hn) ?_;rintro _ _ ⟨rfl,rfl⟩;refine Bk.mk rfl rfl ?_))
   all_goals (conv => whnf)
   all_goals exact Ret.is rfl
  ·rw [hx] at hn
   repeat' ((conv => whnf);first | refine hrow ?_ | refine Gs.id ?_ | with_reducible refine Brn.F rfl ?_ | refine Brn.T (by (try simp only [smT]);first | rfl | omega | fail) ?_ | refine Rng.mk (by (try simp only [smT]);omega) ?_ | (refine Raw.callF [] [] rfl rfl rfl rfl rfl rfl rfl rfl (hn) ?_;rintro _ _ ⟨rfl,rfl⟩;refine Bk.mk rfl rfl ?_))
   all_goals (conv => whnf)
   all_goals exact ⟨i + 1,⟨by omega,by rw [if_pos rfl]⟩,by omega,[],⟨by (try dsimp only);(repeat (refine LeT.cons rfl (by first | exact LeS.d (by first | exact LeD.u rfl | fail) | fail) ?_));exact LeT.nil,by (try dsimp only);repeat (first | exact LeO.nil | fail)⟩⟩
 ·obtain rfl : i = l.length := by omega
  rw [List.drop_length,badI]
  repeat' ((conv => whnf);first | refine Gs.id ?_ | refine Brn.F (by (try simp only [smT]);first | rfl | omega | fail) ?_ | fail)
  all_goals (conv => whnf)
  all_goals exact Ret.is rfl
theorem containsFunc_T_d (l : List ByteArray) (hl : l.length ≤ 1000000) : CallsA Tryz.prog 91 [.d (.u (.sl 1 (strs l))),.d (.u fnD_d)] [] (Is (db (!l.all nameB))) := by
 have h := indexFunc_T_d l hl
 rw [← badI_all l 0]
 refine callsA_of_vc (T := tt) Tryz.func91 rfl rfl rfl rfl rfl ?_
 repeat' ((conv => whnf);first | refine Gs.id ?_ | (refine CL.mk (Or.inl ?_);(conv => whnf);refine Cl.is (h) rfl (by first | exact fun _ => rfl | fail) ?_) | fail)
 all_goals (conv => whnf)
 all_goals exact Ret.is rfl
theorem dotted_T_d (s : ByteArray) : CallsA Tryz.prog 56 [dsr s] [] (Is (db (dottedM s))) := by
 by_cases h : (s.size : Int) ≤ 60
 ·have e : dottedM s = (splitM s).all nameB := by simp [dottedM,h]
  rw [e]
  have h1 := split_T s (by omega)
  have h2 := containsFunc_T_d (splitM s) (by have := splitM_len s;omega)
  have h3 : (!!(splitM s).all nameB) = (splitM s).all nameB := by simp
  refine callsA_of_vc (T := tt) Tryz.func56 rfl rfl rfl rfl rfl ?_
  repeat' ((conv => whnf);first | refine Gs.id ?_ | refine Brn.T (by (try simp only [smT]);first | rfl | assumption | fail) ?_ | (refine Bnd.mk (fun hm => ?_);(try simp only [smT] at hm)) | (refine CL.mk (Or.inl ?_);(conv => whnf);first | refine Cl.is (h1) rfl (by first | (intro e;cases e;done) | fail) ?_ | refine Cl.is (h2) rfl (by first | exact fun _ => rfl | fail) ?_) | fail)
  all_goals (conv => whnf)
  all_goals exact Ret.is (by simp [tupT,SC.up])
 ·have e : dottedM s = false := by simp [dottedM,h]
  rw [e]
  refine callsA_of_vc (T := tt) Tryz.func56 rfl rfl rfl rfl rfl ?_
  repeat' ((conv => whnf);first | refine Gs.id ?_ | refine Brn.F (by (try simp only [smT]);first | rfl | omega | fail) ?_ | (refine Bnd.mk (fun hm => ?_);(try simp only [smT] at hm)) | fail)
  all_goals (conv => whnf)
  all_goals exact Ret.is rfl
end Go.Proofs.YtabmcfnefjipbaaGreatDoor
namespace Go.Proofs.YtabmcfnefjipbaaGreatDoor
open Go.RowKit
structure Bp where
 md : ByteArray
 line : Int
 nm : ByteArray
 tx : ByteArray
abbrev Bp.row (b : Bp) : List V := [.str b.md,.int .i64 b.line,.str b.nm,.str b.tx]
abbrev Bp.ds (b : Bp) : List D := [.u (.str b.md),.u (.int .i64 b.line),.u (.str b.nm),.u (.str b.tx)]
abbrev bks (l : List Bp) : V := .sl 4 (l.map Bp.row)
abbrev emB : ByteArray := ByteArray.mk #[]
def varM (n : ByteArray) : List (ByteArray × ByteArray) → Option ByteArray
 | [] => none
 | p :: r => if p.1 = n then some p.2 else varM n r
abbrev varS (o : Option ByteArray) : SV := .t [.d (.u (.str (o.getD emB))),.d (.u (.bool o.isSome))]
set_option maxHeartbeats 1000000 in
theorem value_T (e : Ev) (n : ByteArray) (hl : e.locs.length ≤ 9000000000) : CallsA Tryz.prog 70 [.a e.ds,dsr n] [] (Is (varS (varM n e.locs))) := by
 refine callsA_of_vc (T := tt) Tryz.func70 rfl rfl rfl rfl rfl ?_
 repeat' ((conv => whnf);first | refine Gs.id ?_ | (refine Bnd.mk (fun hm => ?_);(try simp only [smT] at hm)) | fail)
 all_goals (conv => whnf)
 refine ⟨⟨Nat,fun i => i ≤ e.locs.length ∧ varM n e.locs = varM n (e.locs.drop i),fun i => e.locs.length - i,fun i => ⟨[(1,dsr n),(9,.d (.u (.sl 2 (e.locs.map locR)))),(10,di e.locs.length),(11,di i)],[]⟩,0,⟨Nat.zero_le _,rfl⟩,⟨[],⟨by (try dsimp only);(repeat (refine LeT.cons rfl (by first | exact LeS.d (by first | exact LeD.u rfl | exact LeD.u (by simp;done) | fail) | fail) ?_));exact LeT.nil,by (try dsimp only);repeat (first | exact LeO.nil | fail)⟩⟩,fun i hi => ?_⟩⟩
 obtain ⟨hi,he⟩ := hi
 dsimp only
 rw [he]
 by_cases h9 : i < e.locs.length
 ·rw [List.drop_eq_getElem_cons h9,varM]
  have hrow : ∀ {K : List V → Prop},K (locR e.locs[i]) → Ix (e.locs.map locR) (i : Int) K := fun k => Ix.map rfl h9 k
  generalize e.locs[i] = p at *
  have hq := toList_beq p.1 n
  by_cases hp : p.1 = n
  ·rw [decide_eq_true hp] at hq
   rw [if_pos hp]
   repeat' ((conv => whnf);first | refine hrow ?_ | rw [hq] | refine Gs.id ?_ | with_reducible refine Brn.T rfl ?_ | refine Brn.T (by (try simp only [smT]);first | rfl | omega | fail) ?_ | fail)
   all_goals (conv => whnf)
   all_goals exact Ret.is rfl
  ·rw [decide_eq_false hp] at hq
   rw [if_neg hp]
   repeat' ((conv => whnf);first | refine hrow ?_ | rw [hq] | refine Gs.id ?_ | with_reducible refine Brn.F rfl ?_ | refine Brn.T (by (try simp only [smT]);first | rfl | omega | fail) ?_ | refine Rng.mk (by (try simp only [smT]);omega) ?_ | fail)
   all_goals (conv => whnf)
   all_goals exact ⟨i + 1,⟨by omega,rfl⟩,by omega,[],⟨by (try dsimp only);(repeat (refine LeT.cons rfl (by first | exact LeS.d (by first | exact LeD.u rfl | fail) | fail) ?_));exact LeT.nil,by (try dsimp only);repeat (first | exact LeO.nil | fail)⟩⟩
 ·obtain rfl : i = e.locs.length := by omega
  rw [List.drop_length,varM]
  repeat' ((conv => whnf);first | refine Gs.id ?_ | refine Brn.F (by (try simp only [smT]);first | rfl | omega | fail) ?_ | fail)
  all_goals (conv => whnf)
  all_goals exact Ret.is rfl
def hitB (e : Ev) (b : Bp) : Bool := decide (b.md = e.md) && (decide (b.line = e.line) && (decide (b.nm = emB) || ((varM b.nm e.locs).isSome && decide ((varM b.nm e.locs).getD emB = b.tx))))
abbrev fnH (e : Ev) : V := .cl 111 [e.row]
set_option maxHeartbeats 1000000 in
theorem hit1_T (e : Ev) (b : Bp) (hl : e.locs.length ≤ 9000000000) : CallsA Tryz.prog 111 [.a b.ds,.d (.q e.row 0)] [] (Is (db (hitB e b))) := by
 have hv := value_T e b.nm hl
 have h1 := toList_beq b.md e.md
 have h2 := toList_beq b.nm emB
 have h3 := toList_beq ((varM b.nm e.locs).getD emB) b.tx
 unfold hitB
 generalize decide (b.md = e.md) = x1 at *
 generalize decide (b.nm = emB) = x2 at *
 generalize decide ((varM b.nm e.locs).getD emB = b.tx) = x3 at *
 generalize varM b.nm e.locs = o at *
 have hE : ∀ x : Bool,(decide (b.line = e.line) = x) → decide (b.line = e.line) = x := fun _ h => h
 generalize hx4 : decide (b.line = e.line) = x4 at *
 generalize hx5 : o.isSome = x5 at *
 cases x1 <;> cases x4 <;> cases x2 <;> cases x5 <;> cases x3
 all_goals
  refine callsA_of_vc (T := tt) Tryz.func111 rfl rfl rfl rfl rfl ?_
  repeat' ((conv => whnf);first | rw [h1] | rw [h2] | rw [h3] | refine Gs.id ?_ | with_reducible refine Brn.T rfl ?_ | with_reducible refine Brn.F rfl ?_ | refine Brn.T (by (try simp only [smT]);first | rfl | assumption | fail) ?_ | refine Brn.F (by (try simp only [smT]);first | rfl | assumption | fail) ?_ | (refine Brn.mk (fun hb => ?_) (fun hb => ?_) <;> (try simp only [smT] at hb) <;> (try (exact absurd trivial hb)) <;> (try (exfalso;omega))) | (refine CL.mk (Or.inl ?_);(conv => whnf);refine Cl.is (hv) rfl (by first | exact fun _ => rfl | fail) ?_) | fail)
  all_goals (conv => whnf)
  all_goals first | exact Ret.is rfl | (exfalso;simp_all;done)
def hitI (e : Ev) : List Bp → Nat → Int
 | [],_ => -1
 | b :: r,i => if hitB e b then i else hitI e r (i + 1)
theorem hitI_any (e : Ev) : ∀ (l : List Bp) (i : Nat),decide (0 ≤ hitI e l i) = l.any (hitB e)
 | [],i => rfl
 | b :: r,i => by
  have ih := hitI_any e r (i + 1)
  rw [hitI]
  cases h : hitB e b
  ·simp [h,ih]
  ·simp [h]
  done
theorem hitIdx_T (e : Ev) (l : List Bp) (he : e.locs.length ≤ 9000000000) (hl : l.length ≤ 1000000) : CallsA Tryz.prog 137 [.d (.u (bks l)),.d (.u (fnH e))] [] (Is (di (hitI e l 0))) := by
 refine callsA_of_vc (T := tt) Tryz.func137 rfl rfl rfl rfl rfl ?_
 repeat' ((conv => whnf);first | refine Gs.id ?_ | (refine Bnd.mk (fun hm => ?_);(try simp only [smT] at hm)) | fail)
 all_goals (conv => whnf)
 refine ⟨⟨Nat,fun i => i ≤ l.length ∧ hitI e l 0 = hitI e (l.drop i) i,fun i => l.length - i,fun i => ⟨[(0,.d (.u (bks l))),(1,.d (.u (fnH e))),(7,di l.length),(8,di i)],[]⟩,0,⟨Nat.zero_le _,rfl⟩,⟨[],⟨by (try dsimp only);(repeat (refine LeT.cons rfl (by first | exact LeS.d (by first | exact LeD.u rfl | exact LeD.u (by simp;done) | fail) | fail) ?_));exact LeT.nil,by (try dsimp only);repeat (first | exact LeO.nil | fail)⟩⟩,fun i hi => ?_⟩⟩
 obtain ⟨hi,hq⟩ := hi
 dsimp only
 rw [hq]
 by_cases h9 : i < l.length
 ·rw [List.drop_eq_getElem_cons h9,hitI]
  have hrow : ∀ {K : List V → Prop},K (Bp.row l[i]) → Ix (l.map Bp.row) (i : Int) K := fun k => Ix.map rfl h9 k
  generalize l[i] = b at *
  have hn := hit1_T e b he
  cases hx : hitB e b
  ·rw [hx] at hn
   repeat' ((conv => whnf);first | refine hrow ?_ | refine Gs.id ?_ | with_reducible refine Brn.F rfl ?_ | refine Brn.T (by (try simp only [smT]);first | rfl | omega | fail) ?_ | refine Rng.mk (by (try simp only [smT]);omega) ?_ | (refine Raw.callF [] [] rfl rfl rfl rfl rfl rfl rfl rfl (hn) ?_;rintro _ _ ⟨rfl,rfl⟩;refine Bk.mk rfl rfl ?_))
   all_goals (conv => whnf)
   all_goals exact ⟨i + 1,⟨by omega,rfl⟩,by omega,[],⟨by (try dsimp only);(repeat (refine LeT.cons rfl (by first | exact LeS.d (by first | exact LeD.u rfl | fail) | fail) ?_));exact LeT.nil,by (try dsimp only);repeat (first | exact LeO.nil | fail)⟩⟩
  ·rw [hx] at hn
   repeat' ((conv => whnf);first | refine hrow ?_ | refine Gs.id ?_ | with_reducible refine Brn.T rfl ?_ | refine Brn.T (by (try simp only [smT]);first | rfl | omega | fail) ?_ | (refine Raw.callF [] [] rfl rfl rfl rfl rfl rfl rfl rfl (hn) ?_;rintro _ _ ⟨rfl,rfl⟩;refine Bk.mk rfl rfl ?_))
   all_goals (conv => whnf)
   all_goals exact Ret.is rfl
 ·obtain rfl : i = l.length := by omega
  rw [List.drop_length,hitI]
  repeat' ((conv => whnf);first | refine Gs.id ?_ | refine Brn.F (by (try simp only [smT]);first | rfl | omega | fail) ?_ | fail)
  all_goals (conv => whnf)
  all_goals exact Ret.is rfl
theorem hit_T (e : Ev) (l : List Bp) (he : e.locs.length ≤ 9000000000) (hl : l.length ≤ 1000000) : CallsA Tryz.prog 90 [.a e.ds,.d (.u (bks l))] [] (Is (db (l.any (hitB e)))) := by
 have h := hitIdx_T e l he hl
 have h2 : CallsA Tryz.prog 110 [.d (.u (bks l)),.d (.u (fnH e))] [] (Is (db (l.any (hitB e)))) := by
  rw [← hitI_any e l 0]
  refine callsA_of_vc (T := tt) Tryz.func110 rfl rfl rfl rfl rfl ?_
  repeat' ((conv => whnf);first | refine Gs.id ?_ | (refine CL.mk (Or.inl ?_);(conv => whnf);refine Cl.is (h) rfl (by first | exact fun _ => rfl | fail) ?_) | fail)
  all_goals (conv => whnf)
  all_goals exact Ret.is rfl
 refine callsA_of_vc (T := tt) Tryz.func90 rfl rfl rfl rfl rfl ?_
 repeat' ((conv => whnf);first | refine Gs.go (i := 1) (Ghost.frzB 2 rfl rfl) ?_ | refine Gs.id ?_ | (refine CL.mk (Or.inl ?_);(conv => whnf);refine Cl.is (h2) rfl (by first | exact fun _ => rfl | fail) ?_) | fail)
 all_goals (conv => whnf)
 all_goals exact Ret.is rfl
end Go.Proofs.YtabmcfnefjipbaaGreatDoor
namespace Go.Proofs.YtabmcfnefjipbaaGreatDoor
open Go.RowKit
def eqBk (a b : Bp) : Bool := decide (a.md = b.md) && (decide (a.line = b.line) && (decide (a.nm = b.nm) && decide (a.tx = b.tx)))
def bkI (b : Bp) : List Bp → Nat → Int
 | [],_ => -1
 | x :: r,i => if eqBk b x then i else bkI b r (i + 1)
theorem bkI_any (b : Bp) : ∀ (l : List Bp) (i : Nat),decide (0 ≤ bkI b l i) = l.any (eqBk b)
 | [],i => rfl
 | x :: r,i => by
  have ih := bkI_any b r (i + 1)
  rw [bkI]
  cases h : eqBk b x
  ·simp [h,ih]
  ·simp [h]
set_option maxHeartbeats 1000000 in
theorem bkIdx_T (b : Bp) (l : List Bp) (hl : l.length ≤ 1000000) : CallsA Tryz.prog 95 [.d (.u (bks l)),.a b.ds] [] (Is (di (bkI b l 0))) := by
 refine callsA_of_vc (T := tt) Tryz.func95 rfl rfl rfl rfl rfl ?_
 repeat' ((conv => whnf);first | refine Gs.id ?_ | (refine Bnd.mk (fun hm => ?_);(try simp only [smT] at hm)) | fail)
 all_goals (conv => whnf)
 refine ⟨⟨Nat,fun i => i ≤ l.length ∧ bkI b l 0 = bkI b (l.drop i) i,fun i => l.length - i,fun i => ⟨[(0,.d (.u (bks l))),(3,.d (.p 3 0)),(7,di l.length),(8,di i)],[(3,.bx 62 b.ds)]⟩,0,⟨Nat.zero_le _,rfl⟩,⟨[(3,.k 3)],⟨by (try dsimp only);(repeat (refine LeT.cons rfl (by first | exact LeS.d (by first | exact LeD.u rfl | exact LeD.p rfl | exact LeD.u (by simp;done) | fail) | fail) ?_));exact LeT.nil,by (try dsimp only);repeat (first | exact LeO.nil | refine LeO.bx rfl rfl (by repeat (first | exact LeL.nil | refine LeL.cons (by first | exact LeD.u rfl | fail) ?_)) ?_ | fail)⟩⟩,fun i hi => ?_⟩⟩
 obtain ⟨hi,hq⟩ := hi
 dsimp only
 rw [hq]
 by_cases h9 : i < l.length
 ·rw [List.drop_eq_getElem_cons h9,bkI]
  have hrow : ∀ {K : List V → Prop},K (Bp.row l[i]) → Ix (l.map Bp.row) (i : Int) K := fun k => Ix.map rfl h9 k
  generalize l[i] = x at *
  have h1 := toList_beq b.md x.md
  have h3 := toList_beq b.nm x.nm
  have h4 := toList_beq b.tx x.tx
  unfold eqBk
  generalize decide (b.md = x.md) = x1 at *
  generalize decide (b.nm = x.nm) = x3 at *
  generalize decide (b.tx = x.tx) = x4 at *
  repeat' ((conv => whnf);first | refine hrow ?_ | rw [h1] | rw [h3] | rw [h4] | refine Gs.id ?_ | refine Brn.T (by (try simp only [smT]);first | rfl | omega | fail) ?_ | (refine Brn.mk (fun hb => ?_) (fun hb => ?_) <;> (try simp only [smT] at hb) <;> (try (exact absurd trivial hb)) <;> (try (exfalso;omega))) | refine Rng.mk (by (try simp only [smT]);omega) ?_ | refine Eqv.mk (by kernel_rfl) ?_ | refine Drw.of (T := tt) (i := 4) [] [] [(0,true),(1,true),(2,true),(3,true),(4,true),(5,true)] (by kernel_rfl) ?_)
  all_goals (conv => whnf)
  all_goals first | (rw [if_pos (by revert hb;cases x1 <;> cases x3 <;> cases x4 <;> simp)];exact Ret.is rfl) | (rw [if_neg (by revert hb;cases x1 <;> cases x3 <;> cases x4 <;> simp)];exact ⟨i + 1,⟨by omega,rfl⟩,by omega,[(3,.k 3)],⟨by (try dsimp only);(repeat (refine LeT.cons rfl (by first | exact LeS.d (by first | exact LeD.u rfl | exact LeD.p rfl | fail) | fail) ?_));exact LeT.nil,by (try dsimp only);repeat (first | exact LeO.nil | refine LeO.bx rfl rfl (by repeat (first | exact LeL.nil | refine LeL.cons (by first | exact LeD.u rfl | fail) ?_)) ?_ | fail)⟩⟩)
 ·obtain rfl : i = l.length := by omega
  rw [List.drop_length,bkI]
  repeat' ((conv => whnf);first | refine Gs.id ?_ | refine Brn.F (by (try simp only [smT]);first | rfl | omega | fail) ?_ | fail)
  all_goals (conv => whnf)
  all_goals exact Ret.is rfl
theorem bkHas_T (b : Bp) (l : List Bp) (hl : l.length ≤ 1000000) : CallsA Tryz.prog 58 [.d (.u (bks l)),.a b.ds] [] (Is (db (l.any (eqBk b)))) := by
 have h := bkIdx_T b l hl
 rw [← bkI_any b l 0]
 refine callsA_of_vc (T := tt) Tryz.func58 rfl rfl rfl rfl rfl ?_
 repeat' ((conv => whnf);first | refine Gs.id ?_ | (refine CL.mk (Or.inl ?_);(conv => whnf);refine Cl.is (h) rfl (by first | exact fun _ => rfl | fail) ?_) | fail)
 all_goals (conv => whnf)
 all_goals exact Ret.is rfl
def codeB (b : Bp) (before : List Bp) : Int :=
 if dottedM b.md = false ∨ (b.nm ≠ emB ∧ nameB b.nm = false) then 7
 else if b.line < 1 then 4
 else if b.nm = emB ∧ b.tx ≠ emB then 6
 else if 4000 < (b.tx.size : Int) then 3
 else if before.any (eqBk b) then 8 else 0
def bFrom (i : Nat) (before : List Bp) : List Bp → Int × Int
 | [] => (0,0)
 | b :: r => if codeB b before ≠ 0 then (codeB b before,i) else bFrom (i + 1) (before ++ [b]) r
def validB (l : List Bp) : Int × Int := if 50 < l.length then (2,-1) else bFrom 0 [] l
set_option maxHeartbeats 4000000 in
theorem validateB_T (l : List Bp) : CallsA Tryz.prog 18 [.d (.u (bks l))] [] (Is (dfa (validB l).1 (validB l).2)) := by
 by_cases hl : 50 < l.length
 ·have e : validB l = (2,-1) := by rw [validB,if_pos hl]
  rw [e]
  refine callsA_of_vc (T := tt) Tryz.func18 rfl rfl rfl rfl rfl ?_
  repeat' ((conv => whnf);first | refine Gs.id ?_ | refine Brn.T (by (try simp only [smT]);first | rfl | omega | fail) ?_ | (refine Bnd.mk (fun hm => ?_);(try simp only [smT] at hm)) | fail)
  all_goals (conv => whnf)
  all_goals exact Ret.is rfl
 ·have e : validB l = bFrom 0 [] l := by rw [validB,if_neg hl]
  rw [e]
  refine callsA_of_vc (T := tt) Tryz.func18 rfl rfl rfl rfl rfl ?_
  repeat' ((conv => whnf);first | refine Gs.id ?_ | refine Brn.F (by (try simp only [smT]);first | rfl | omega | fail) ?_ | (refine Bnd.mk (fun hm => ?_);(try simp only [smT] at hm)) | fail)
  all_goals (conv => whnf)
  refine ⟨⟨Nat,fun i => i ≤ l.length ∧ bFrom 0 [] l = bFrom i (l.take i) (l.drop i),fun i => l.length - i,fun i => ⟨[(0,.d (.u (bks l))),(2,.d (.p 2 0)),(10,.d (.u (bks l))),(11,di l.length),(12,di i)],[(2,.bx 25 [.u (.int .i64 0),.u (.int .i64 0)])]⟩,0,⟨Nat.zero_le _,rfl⟩,⟨[(2,.k 2)],⟨by (try dsimp only);(repeat (refine LeT.cons rfl (by first | exact LeS.d (by first | exact LeD.u rfl | exact LeD.p rfl | exact LeD.u (by simp;done) | fail) | fail) ?_));exact LeT.nil,by (try dsimp only);repeat (first | exact LeO.nil | refine LeO.bx rfl rfl (by repeat (first | exact LeL.nil | refine LeL.cons (by first | exact LeD.u rfl | fail) ?_)) ?_ | fail)⟩⟩,fun i hi => ?_⟩⟩
  obtain ⟨hi,hq⟩ := hi
  dsimp only
  rw [hq]
  by_cases h9 : i < l.length
  ·have hdr := List.drop_eq_getElem_cons h9
   have hrow : ∀ {K : List V → Prop},K (Bp.row l[i]) → Ix (l.map Bp.row) (i : Int) K := fun k => Ix.map rfl h9 k
   have htk : l.take (i + 1) = l.take i ++ [l[i]] := by rw [List.take_add_one,List.getElem?_eq_getElem h9];rfl
   have hmt : (l.map Bp.row).take i = (l.take i).map Bp.row := by rw [List.map_take]
   have hhs := bkHas_T l[i] (l.take i) (by rw [List.length_take];omega)
   rw [show bks (l.take i) = .sl 4 ((l.map Bp.row).take i) from by rw [bks,hmt]] at hhs
   rw [hdr,bFrom,← htk]
   generalize hcd : codeB l[i] (l.take i) = cd at *
   unfold codeB at hcd
   generalize (l.take i).any (eqBk l[i]) = has at *
   generalize l[i] = b at *
   have hd := dotted_T_d b.md
   have hn := isName_T' b.nm
   have h1 := toList_beq b.nm emB
   have h2 := toList_beq b.tx emB
   generalize dottedM b.md = bd at *
   generalize nameB b.nm = bn at *
   by_cases h0 : cd = 0
   ·rw [if_neg (by simpa using h0)]
    repeat' ((conv => whnf);first | rw [h1] | rw [h2] | refine hrow ?_ | refine Slc.mk ⟨0,i,rfl,rfl,by omega,by simp;omega,?_⟩ | refine Gs.id ?_ | with_reducible refine Brn.T rfl ?_ | with_reducible refine Brn.F rfl ?_ | refine Brn.T (by (try simp only [smT]);first | rfl | assumption | omega | fail) ?_ | refine Brn.F (by (try simp only [smT]);first | rfl | assumption | omega | fail) ?_ | (refine Brn.mk (fun hb => ?_) (fun hb => ?_) <;> (try simp only [smT] at hb) <;> (try (exact absurd trivial hb)) <;> (try (exfalso;omega))) | (refine Bnd.mk (fun hm => ?_);(try simp only [smT] at hm)) | refine Rng.mk (by (try simp only [smT]);omega) ?_ | refine Drw.of (T := tt) (i := 15) [] [] [(0,true),(1,true),(2,true),(3,true),(4,false),(5,true)] (by kernel_rfl) ?_ | (refine CL.mk (Or.inl ?_);(conv => whnf);first | refine Cl.is (hd) rfl (by first | exact fun _ => rfl | fail) ?_ | refine Cl.is (hn) rfl (by first | exact fun _ => rfl | fail) ?_ | refine Cl.is (hhs) rfl (by first | exact fun _ => rfl | fail) ?_) | fail)
    all_goals (conv => whnf)
    all_goals first | exact ⟨i + 1,⟨by omega,rfl⟩,by omega,[(2,.k 2)],⟨by (try dsimp only);(repeat (refine LeT.cons rfl (by first | exact LeS.d (by first | exact LeD.u rfl | exact LeD.p rfl | fail) | fail) ?_));exact LeT.nil,by (try dsimp only);repeat (first | exact LeO.nil | refine LeO.bx rfl rfl (by repeat (first | exact LeL.nil | refine LeL.cons (by first | exact LeD.u rfl | fail) ?_)) ?_ | fail)⟩⟩ | (exfalso;subst h0;clear hhs hd hn hrow hdr hq htk hmt e;grind)
   ·rw [if_pos h0]
    repeat' ((conv => whnf);first | rw [h1] | rw [h2] | refine hrow ?_ | refine Slc.mk ⟨0,i,rfl,rfl,by omega,by simp;omega,?_⟩ | refine Gs.id ?_ | with_reducible refine Brn.T rfl ?_ | with_reducible refine Brn.F rfl ?_ | refine Brn.T (by (try simp only [smT]);first | rfl | assumption | omega | fail) ?_ | refine Brn.F (by (try simp only [smT]);first | rfl | assumption | fail) ?_ | (refine Brn.mk (fun hb => ?_) (fun hb => ?_) <;> (try simp only [smT] at hb) <;> (try (exact absurd trivial hb)) <;> (try (exfalso;omega))) | (refine Bnd.mk (fun hm => ?_);(try simp only [smT] at hm)) | refine Rng.mk (by (try simp only [smT]);omega) ?_ | refine Drw.of (T := tt) (i := 15) [] [] [(0,true),(1,true),(2,true),(3,true),(4,false),(5,true)] (by kernel_rfl) ?_ | (refine CL.mk (Or.inl ?_);(conv => whnf);first | refine Cl.is (hd) rfl (by first | exact fun _ => rfl | fail) ?_ | refine Cl.is (hn) rfl (by first | exact fun _ => rfl | fail) ?_ | refine Cl.is (hhs) rfl (by first | exact fun _ => rfl | fail) ?_) | fail)
    all_goals (conv => whnf)
    all_goals first | (rw [show cd = 7 from by clear hhs hd hn hrow hdr hq htk hmt e;grind];exact Ret.is rfl) | (rw [show cd = 4 from by clear hhs hd hn hrow hdr hq htk hmt e;grind];exact Ret.is rfl) | (rw [show cd = 6 from by clear hhs hd hn hrow hdr hq htk hmt e;grind];exact Ret.is rfl) | (rw [show cd = 3 from by clear hhs hd hn hrow hdr hq htk hmt e;grind];exact Ret.is rfl) | (rw [show cd = 8 from by clear hhs hd hn hrow hdr hq htk hmt e;grind];exact Ret.is rfl) | (exfalso;clear hhs hd hn hrow hdr hq htk hmt e;grind)
  ·obtain rfl : i = l.length := by omega
   rw [List.drop_length,bFrom]
   repeat' ((conv => whnf);first | refine Gs.id ?_ | refine Brn.F (by (try simp only [smT]);first | rfl | omega | fail) ?_ | fail)
   all_goals (conv => whnf)
   all_goals exact Ret.is rfl
end Go.Proofs.YtabmcfnefjipbaaGreatDoor
namespace Go.Proofs.YtabmcfnefjipbaaGreatDoor
open Go.RowKit
def depM (l : List Ev) (p : Int) : Int := if p < 0 ∨ p = (l.length : Int) then 0 else (match l[p.toNat]? with | some e => e.depth | none => 0)
theorem depth_T (l : List Ev) (p : Int) (hp : -1 ≤ p ∧ p ≤ (l.length : Int)) : CallsA Tryz.prog 85 [.d (.u (evs l)),di p] [] (Is (di (depM l p))) := by
 by_cases h1 : p < 0
 ·have e : depM l p = 0 := by rw [depM,if_pos (.inl h1)]
  rw [e]
  refine callsA_of_vc (T := tt) Tryz.func85 rfl rfl rfl rfl rfl ?_
  repeat' ((conv => whnf);first | refine Gs.id ?_ | with_reducible refine Brn.T rfl ?_ | refine Brn.T (by (try simp only [smT]);first | rfl | assumption | fail) ?_ | fail)
  all_goals (conv => whnf)
  all_goals exact Ret.is rfl
 ·by_cases h2 : p = (l.length : Int)
  ·have e : depM l p = 0 := by rw [depM,if_pos (.inr h2)]
   rw [e]
   refine callsA_of_vc (T := tt) Tryz.func85 rfl rfl rfl rfl rfl ?_
   repeat' ((conv => whnf);first | refine Gs.id ?_ | refine Brn.T (by (try simp only [smT]);first | rfl | assumption | fail) ?_ | refine Brn.F (by (try simp only [smT]);first | rfl | omega | fail) ?_ | (refine Bnd.mk (fun hm => ?_);(try simp only [smT] at hm)) | fail)
   all_goals (conv => whnf)
   all_goals first | exact Ret.is rfl | (exfalso;simp at *;omega)
  ·obtain ⟨m,rfl⟩ : ∃ m : Nat,p = m := ⟨p.toNat,by omega⟩
   have hm : m < l.length := by omega
   have he : l[m]? = some l[m] := List.getElem?_eq_getElem hm
   have e : depM l m = (l[m]).depth := by rw [depM,if_neg (by omega),Int.toNat_natCast,he]
   have hrow : ∀ {K : List V → Prop},K (l[m]).row → Ix (l.map Ev.row) (m : Int) K := fun k => Ix.map rfl hm k
   rw [e]
   generalize l[m] = x at *
   refine callsA_of_vc (T := tt) Tryz.func85 rfl rfl rfl rfl rfl ?_
   repeat' ((conv => whnf);first | refine hrow ?_ | refine Gs.id ?_ | with_reducible refine Brn.F rfl ?_ | refine Brn.F (by (try simp only [smT]);first | rfl | assumption | fail) ?_ | (refine Bnd.mk (fun hm => ?_);(try simp only [smT] at hm)) | fail)
   all_goals (conv => whnf)
   all_goals first | exact Ret.is rfl | (exfalso;simp at *;omega)
abbrev fnAny : V := .fn 86
abbrev fnLev (d : Int) : V := .cl 87 [[.int .i64 d]]
abbrev fnAbv (d : Int) : V := .cl 88 [[.int .i64 d]]
abbrev fnMrk (bv : V) : V := .cl 89 [[bv]]
theorem any_T (e : Ev) : CallsA Tryz.prog 86 [.a e.ds] [] (Is (db true)) := by
 refine callsA_of_vc (T := tt) Tryz.func86 rfl rfl rfl rfl rfl ?_
 repeat' ((conv => whnf);first | refine Gs.id ?_ | fail)
 all_goals (conv => whnf)
 all_goals exact Ret.is rfl
theorem lev_T (d : Int) (e : Ev) : CallsA Tryz.prog 87 [.a e.ds,.d (.q [.int .i64 d] 0)] [] (Is (db (decide (d = 0) || decide (e.depth ≤ d)))) := by
 refine callsA_of_vc (T := tt) Tryz.func87 rfl rfl rfl rfl rfl ?_
 repeat' ((conv => whnf);first | refine Gs.id ?_ | refine Brn.T (by (try simp only [smT]);first | rfl | assumption | fail) ?_ | refine Brn.F (by (try simp only [smT]);first | rfl | assumption | fail) ?_ | (refine Brn.mk (fun hb => ?_) (fun hb => ?_) <;> (try simp only [smT] at hb) <;> (try (exact absurd trivial hb)) <;> (try (exfalso;omega))) | fail)
 all_goals (conv => whnf)
 all_goals first | exact Ret.is rfl | (refine Ret.is ?_;simp_all [tupT,SC.up];done)
theorem abv_T (d : Int) (e : Ev) : CallsA Tryz.prog 88 [.a e.ds,.d (.q [.int .i64 d] 0)] [] (Is (db (decide (d = 0) || decide (e.depth < d)))) := by
 refine callsA_of_vc (T := tt) Tryz.func88 rfl rfl rfl rfl rfl ?_
 repeat' ((conv => whnf);first | refine Gs.id ?_ | refine Brn.T (by (try simp only [smT]);first | rfl | assumption | fail) ?_ | refine Brn.F (by (try simp only [smT]);first | rfl | assumption | fail) ?_ | (refine Brn.mk (fun hb => ?_) (fun hb => ?_) <;> (try simp only [smT] at hb) <;> (try (exact absurd trivial hb)) <;> (try (exfalso;omega))) | fail)
 all_goals (conv => whnf)
 all_goals first | exact Ret.is rfl | (refine Ret.is ?_;simp_all [tupT,SC.up];done)
theorem mrk_T (bs : List Bp) (e : Ev) (he : e.locs.length ≤ 9000000000) (hb : bs.length ≤ 1000000) : CallsA Tryz.prog 89 [.a e.ds,.d (.q [bks bs] 0)] [] (Is (db (bs.any (hitB e)))) := by
 have h := hit_T e bs he hb
 refine callsA_of_vc (T := tt) Tryz.func89 rfl rfl rfl rfl rfl ?_
 repeat' ((conv => whnf);first | refine Gs.id ?_ | (refine CL.mk (Or.inl ?_);(conv => whnf);refine Cl.is (h) rfl (by first | exact fun _ => rfl | fail) ?_) | fail)
 all_goals (conv => whnf)
 all_goals exact Ret.is rfl
theorem kOk_put {k : Tk} : ∀ {es : List (List V × List V)} {x v : List V},(∀ e ∈ es,keyT k e.1 = true) → keyT k x = true → ∀ e ∈ mputT es x v,keyT k e.1 = true
 | [],x,v,_,hx,e,he => by simp [mputT] at he;subst he;exact hx
 | y :: r,x,v,h,hx,e,he => by
  rw [mputT] at he
  cases hc : eqCs x y.1
  ·rw [hc] at he
   simp only [cond_false,List.mem_cons] at he
   rcases he with rfl | he
   ·exact h _ (by simp)
   ·exact kOk_put (fun e he => h e (by simp [he])) hx e he
  ·rw [hc] at he
   simp only [cond_true,List.mem_cons] at he
   rcases he with rfl | he
   ·exact hx
   ·exact h e (by simp [he])
abbrev stepK : ByteArray := ByteArray.mk #[115,116,101,112]
abbrev overK : ByteArray := ByteArray.mk #[111,118,101,114]
abbrev outK' : ByteArray := ByteArray.mk #[111,117,116]
abbrev goK : ByteArray := ByteArray.mk #[103,111]
abbrev backK : ByteArray := ByteArray.mk #[98,97,99,107]
abbrev underK : ByteArray := ByteArray.mk #[117,110,100,101,114]
abbrev rewindK : ByteArray := ByteArray.mk #[114,101,119,105,110,100]
def motE (d : Int) (bv : V) : List (List V × List V) := mputT (mputT (mputT (mputT (mputT (mputT (mputT [] [.str stepK] [.int .i64 1,fnAny]) [.str overK] [.int .i64 1,fnLev d]) [.str outK'] [.int .i64 1,fnAbv d]) [.str goK] [.int .i64 1,fnMrk bv]) [.str backK] [.int .i64 (-1),fnAny]) [.str underK] [.int .i64 (-1),fnLev d]) [.str rewindK] [.int .i64 (-1),fnMrk bv]
theorem motE_ok (d : Int) (bv : V) : ∀ e ∈ motE d bv,keyT .sr e.1 = true := by
 unfold motE
 repeat (refine kOk_put ?_ rfl)
 simp
set_option maxHeartbeats 2000000 in
theorem motions_T (l : List Ev) (bs : List Bp) (p : Int) (hp : -1 ≤ p ∧ p ≤ (l.length : Int)) : CallsA Tryz.prog 54 [.d (.u (evs l)),.d (.u (bks bs)),di p] [] (Iso (.d (.mp 920)) [(920,.mp false true (motE (depM l p) (bks bs)))]) := by
 have h := depth_T l p hp
 generalize depM l p = d at *
 refine callsA_of_vcO (T := tt) Tryz.func54 rfl rfl rfl rfl rfl ?_
 repeat' ((conv => whnf);first | refine Raw.mapUpdate (T := tt) (.inr rfl) rfl rfl rfl rfl rfl rfl rfl rfl rfl rfl rfl (by repeat (first | (simp;done) | refine kOk_put ?_ rfl)) ?_ | refine Gs.go (i := 3) (Ghost.frzB 7 rfl rfl) ?_ | refine Gs.go (i := 5) (Ghost.frzB 4 rfl rfl) ?_ | refine Gs.id ?_ | refine Raw.makeMap (T := tt) rfl rfl rfl rfl rfl rfl (.inl rfl) rfl rfl ?_ | (refine CL.mk (Or.inl ?_);(conv => whnf);refine Cl.is (h) rfl (by first | exact fun _ => rfl | fail) ?_) | fail)
 all_goals (conv => whnf)
 all_goals refine RetO.mk ⟨[(920,.k 18)],_,_,(by first | exact LeS.d (by first | exact LeD.mp rfl | fail) | fail),(by repeat (first | exact LeO.nil | refine LeO.mp rfl rfl (by first | rfl | fail) ?_ | fail)),rfl,rfl⟩
set_option maxHeartbeats 2000000 in
theorem motions0_T (l : List Ev) (p : Int) (hp : -1 ≤ p ∧ p ≤ (l.length : Int)) : CallsA Tryz.prog 54 [.d (.u (evs l)),.d (.u (.nl)),di p] [] (Iso (.d (.mp 920)) [(920,.mp false true (motE (depM l p) (.nl)))]) := by
 have h := depth_T l p hp
 generalize depM l p = d at *
 refine callsA_of_vcO (T := tt) Tryz.func54 rfl rfl rfl rfl rfl ?_
 repeat' ((conv => whnf);first | refine Raw.mapUpdate (T := tt) (.inr rfl) rfl rfl rfl rfl rfl rfl rfl rfl rfl rfl rfl (by repeat (first | (simp;done) | refine kOk_put ?_ rfl)) ?_ | refine Gs.go (i := 3) (Ghost.frzB 7 rfl rfl) ?_ | refine Gs.go (i := 5) (Ghost.frzB 4 rfl rfl) ?_ | refine Gs.id ?_ | refine Raw.makeMap (T := tt) rfl rfl rfl rfl rfl rfl (.inl rfl) rfl rfl ?_ | (refine CL.mk (Or.inl ?_);(conv => whnf);refine Cl.is (h) rfl (by first | exact fun _ => rfl | fail) ?_) | fail)
 all_goals (conv => whnf)
 all_goals refine RetO.mk ⟨[(920,.k 18)],_,_,(by first | exact LeS.d (by first | exact LeD.mp rfl | fail) | fail),(by repeat (first | exact LeO.nil | refine LeO.mp rfl rfl (by first | rfl | fail) ?_ | fail)),rfl,rfl⟩
theorem mrk0_T (e : Ev) (he : e.locs.length ≤ 9000000000) : CallsA Tryz.prog 89 [.a e.ds,.d (.q [.nl] 0)] [] (Is (db (([] : List Bp).any (hitB e)))) := by
 have h := hit_T e [] he (by simp)
 refine callsA_of_vc (T := tt) Tryz.func89 rfl rfl rfl rfl rfl ?_
 repeat' ((conv => whnf);first | refine Gs.id ?_ | (refine CL.mk (Or.inl ?_);(conv => whnf);refine Cl.nl (by repeat (first | exact NlSs.nil | exact NlS.refl | exact NlD.u (NlV.nl (by first | rfl | fail)) | refine NlSs.cons ?_ ?_ | refine NlS.d ?_ | fail)) (h) rfl (by first | exact fun _ => rfl | fail) ?_) | fail)
 all_goals (conv => whnf)
 all_goals exact Ret.is rfl
end Go.Proofs.YtabmcfnefjipbaaGreatDoor
