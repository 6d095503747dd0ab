/-
  Part 6 of the proofs of stacks_holds: laws and contracts that they need.
-/
import Derived.Test.YtabmcfnefjipbaaGreatDoorR5
import Derived.Lib.Builder
import Derived.Lib.UnsafeStr
import Derived.Lib.AppendStr
import Derived.RangeFuncRecord
set_option linter.unusedVariables false
set_option linter.unusedSimpArgs false
namespace Go.Proofs.YtabmcfnefjipbaaGreatDoor
open Go.RowKit
theorem byte_back (c : UInt8) : ((c.toNat : Int)).toNat.toUInt8 = c := by simp
theorem indexByte_T (s : ByteArray) (c : UInt8) : CallsA Tryz.prog 156 [dsr s, dby c.toNat] [] (Is (di (Go.Lib.indexByte s.data.toList c))) := by
  have hr : ∀ w, (Extern.BytealgIndexByte.indexByte #[.string s, .int .u8 (c.toNat : Int)]).run Tryz.prog w = .ok (.int .i64 (Go.Lib.indexByte s.data.toList c)) w := fun w => by
    rw [Go.Lib.run_indexByteString, byte_back]
  have hf := Tryz.func169
  refine callsA_of_vc (T := tt) Tryz.func156 rfl rfl rfl rfl rfl ?_
  repeat' ((conv => whnf); first | (refine CL.mk (Or.inr (Raw.extSB (e := Extern.BytealgIndexByte.indexByte) rfl rfl hf (by kernel_rfl) (by kernel_rfl) (by kernel_rfl) (by kernel_rfl) hr rfl ?_))) | refine Gs.id ?_ | fail)
  all_goals (conv => whnf)
  all_goals exact Ret.is rfl
abbrev dot : ByteArray := ⟨#[46]⟩
theorem indexByte_T' (s : ByteArray) : CallsA Tryz.prog 156 [dsr s, dby 46] [] (Is (di (Go.Lib.indexByte s.data.toList 46))) := indexByte_T s 46
theorem index0_T (s : ByteArray) : CallsA Tryz.prog 141 [dsr s, dsr dot] [] (Is (di (if s = dot then 0 else Go.Lib.indexByte s.data.toList 46))) := by
  have hb := toList_beq dot s
  have hi := indexByte_T' s
  have hd : (dot[0].toNat : Int) = 46 := rfl
  by_cases h : s = dot
  · rw [if_pos h]
    rw [decide_eq_true h.symm] at hb
    refine callsA_of_vc (T := tt) Tryz.func141 rfl rfl rfl rfl rfl ?_
    repeat' ((conv => whnf); first | refine Gs.id ?_ | with_reducible refine Brn.F rfl ?_ | refine Brn.T (by (try simp only [smT]); first | rfl | assumption | fail) ?_ | (refine Bnd.mk (fun hm => ?_); (try simp only [smT] at hm)) | fail)
    all_goals (conv => whnf)
    all_goals exact Ret.is rfl
  · rw [if_neg h]
    rw [decide_eq_false fun e => h e.symm] at hb
    refine callsA_of_vc (T := tt) Tryz.func141 rfl rfl rfl rfl rfl ?_
    repeat' ((conv => whnf); first | (refine Sbx.mk ⟨0, (by decide), rfl, ?_⟩; rw [hd]) | refine Gs.id ?_ | with_reducible refine Brn.T rfl ?_ | with_reducible refine Brn.F rfl ?_ | refine Brn.F (by (try simp only [smT]); first | rfl | assumption | fail) ?_ | (refine Bnd.mk (fun hm => ?_); (try simp only [smT] at hm)) | (refine CL.mk (Or.inl ?_); (conv => whnf); refine Cl.is (hi) rfl (by first | exact fun _ => rfl | fail) ?_) | fail)
    all_goals (conv => whnf)
    all_goals exact Ret.is rfl
theorem count_T (s : ByteArray) : CallsA Tryz.prog 139 [dsr s, dsr dot] [] (Is (di (Go.Lib.countByte s.data.toList 46))) := by
  have hd : (dot[0].toNat : Int) = 46 := rfl
  have hr : ∀ w, (Extern.BytealgCount.count #[.string s, .int .u8 46]).run Tryz.prog w = .ok (.int .i64 (Go.Lib.countByte s.data.toList 46)) w := fun w => by
    rw [Go.Lib.run_countString]; rfl
  have hf := Tryz.func155
  refine callsA_of_vc (T := tt) Tryz.func139 rfl rfl rfl rfl rfl ?_
  repeat' ((conv => whnf); first | (refine CL.mk (Or.inr (Raw.extSB (e := Extern.BytealgCount.count) rfl rfl hf (by kernel_rfl) (by kernel_rfl) (by kernel_rfl) (by kernel_rfl) hr rfl ?_))) | (refine Sbx.mk ⟨0, (by decide), rfl, ?_⟩; rw [hd]) | refine Gs.id ?_ | with_reducible refine Brn.T rfl ?_ | with_reducible refine Brn.F rfl ?_ | (refine Bnd.mk (fun hm => ?_); (try simp only [smT] at hm)) | fail)
  all_goals (conv => whnf)
  all_goals exact Ret.is rfl
theorem index_T (s : ByteArray) : CallsA Tryz.prog 140 [dsr s, dsr dot] [] (Is (di (Go.Lib.indexByte s.data.toList 46))) := by
  have h := index0_T s
  have e : (if s = dot then 0 else Go.Lib.indexByte s.data.toList 46) = Go.Lib.indexByte s.data.toList 46 := by
    by_cases h : s = dot
    · subst h; decide
    · rw [if_neg h]
  rw [e] at h
  refine callsA_of_vc (T := tt) Tryz.func140 rfl rfl rfl rfl rfl ?_
  repeat' ((conv => whnf); first | refine Gs.id ?_ | (refine CL.mk (Or.inl ?_); (conv => whnf); refine Cl.is (h) rfl (by first | exact fun _ => rfl | fail) ?_) | fail)
  all_goals (conv => whnf)
  all_goals exact Ret.is rfl
end Go.Proofs.YtabmcfnefjipbaaGreatDoor
namespace Go.Proofs.YtabmcfnefjipbaaGreatDoor
open Go.RowKit
def cutI (s : ByteArray) : Int := Go.Lib.indexByte s.data.toList 46
def stI (s : ByteArray) : Nat → ByteArray × List ByteArray
  | 0 => (s, [])
  | i + 1 => ((stI s i).1.extract ((cutI (stI s i).1).toNat + 1) (stI s i).1.size, (stI s i).2 ++ [(stI s i).1.extract 0 (cutI (stI s i).1).toNat])
def cntB (s : ByteArray) : Nat := Go.Lib.countByte s.data.toList 46
theorem idx_cnt : ∀ (l : List UInt8), 0 < l.count 46 → 0 ≤ Go.Lib.indexByte l 46 ∧ (Go.Lib.indexByte l 46).toNat < l.length ∧ (l.drop ((Go.Lib.indexByte l 46).toNat + 1)).count 46 + 1 = l.count 46
  | [], h => by simp at h
  | b :: l, h => by
    by_cases hb : b = 46
    · subst hb
      simp [Go.Lib.indexByte]
    · have hc : (b :: l).count 46 = l.count 46 := by rw [List.count_cons]; simp [hb]
      rw [hc] at h
      obtain ⟨h1, h2, h3⟩ := idx_cnt l h
      have e : Go.Lib.indexByte (b :: l) 46 = Go.Lib.indexByte l 46 + 1 := by
        rw [Go.Lib.indexByte]
        have h4 : (b == 46) = false := by simpa using hb
        have h5 : (Go.Lib.indexByte l 46 == -1) = false := by simp; omega
        rw [h4, h5]; rfl
      rw [e, hc]
      have e2 : (Go.Lib.indexByte l 46 + 1).toNat = (Go.Lib.indexByte l 46).toNat + 1 := by omega
      rw [e2]
      exact ⟨by omega, by simp; omega, by simpa using h3⟩
theorem cut_ok {s : ByteArray} (h : 0 < cntB s) : 0 ≤ cutI s ∧ (cutI s).toNat < s.size ∧ cntB (s.extract ((cutI s).toNat + 1) s.size) + 1 = cntB s := by
  obtain ⟨h1, h2, h3⟩ := idx_cnt s.data.toList h
  refine ⟨h1, by simpa [cutI] using h2, ?_⟩
  have e : (s.extract ((cutI s).toNat + 1) s.size).data.toList = s.data.toList.drop ((cutI s).toNat + 1) := by
    simp [ByteArray.data_extract, Array.toList_extract, List.extract_eq_take_drop]
    rw [List.take_of_length_le (by simp)]
  rw [cntB, e]
  exact h3
theorem stI_ok (s : ByteArray) : ∀ i, i ≤ cntB s → cntB (stI s i).1 + i = cntB s ∧ (stI s i).2.length = i ∧ (stI s i).1.size ≤ s.size
  | 0, _ => ⟨rfl, rfl, Nat.le_refl _⟩
  | i + 1, h => by
    obtain ⟨h1, h2, h3⟩ := stI_ok s i (by omega)
    obtain ⟨c1, c2, c3⟩ := cut_ok (s := (stI s i).1) (by omega)
    refine ⟨by rw [stI]; dsimp only; omega, by rw [stI]; simp [h2], ?_⟩
    rw [stI]
    simp
    omega
theorem cnt_le (s : ByteArray) : cntB s ≤ s.size := by
  have := List.count_le_length (a := (46 : UInt8)) (l := s.data.toList)
  simpa [cntB, Go.Lib.countByte] using this
abbrev zs (n : Nat) : List (List V) := List.replicate n [V.str (ByteArray.mk #[])]
theorem zs_set (L : List ByteArray) (n : Nat) (x : ByteArray) : (strs L ++ zs (n + 1)).set L.length [V.str x] = strs (L ++ [x]) ++ zs n := by
  rw [List.set_append_right _ _ (by simp)]
  simp [List.replicate_succ]
def splitM (s : ByteArray) : List ByteArray := (stI s (cntB s)).2 ++ [(stI s (cntB s)).1]
set_option maxHeartbeats 2000000 in
theorem genSplit_T (s : ByteArray) (hs : s.size ≤ 60) : CallsA Tryz.prog 113 [dsr s, dsr dot, di 0, di (-1)] [] (Is (.d (.u (.sl 1 (strs (splitM s)))))) := by
  have hc := count_T s
  have hle := cnt_le s
  have hix := fun r : ByteArray => index_T r
  have hcn : (Go.Lib.countByte s.data.toList 46 : Nat) = cntB s := rfl
  rw [hcn] at hc
  have hok := stI_ok s
  rw [splitM]
  have hcut : ∀ i, i < cntB s → 0 ≤ cutI (stI s i).1 ∧ (cutI (stI s i).1).toNat < (stI s i).1.size := fun i hi => by
    obtain ⟨h1, _, _⟩ := hok i (by omega)
    obtain ⟨c1, c2, _⟩ := cut_ok (s := (stI s i).1) (by omega)
    exact ⟨c1, c2⟩
  have hcc : ∀ i, i ≤ cntB s → (stI s i).2.length = i ∧ (stI s i).1.size ≤ s.size := fun i hi => (hok i hi).2
  clear hok
  generalize cntB s = n at *
  have hmin : min (n : Int) (s.size : Int) = n := by omega
  refine callsA_of_vc (T := tt) Tryz.func113 rfl rfl rfl rfl rfl ?_
  repeat' ((conv => whnf); first | refine Raw.makeSlice (T := tt) (n + 1) rfl rfl (by omega) (by omega) rfl rfl rfl rfl rfl rfl rfl (by omega) (by omega) ?_ | refine Gs.id ?_ | with_reducible refine Brn.T rfl ?_ | with_reducible refine Brn.F rfl ?_ | refine Brn.F (by (try simp only [smT]); first | rfl | (simp [*]; done) | fail) ?_ | (refine Bnd.mk (fun hm => ?_); (try simp only [smT] at hm)) | refine Rng.mk (by (try simp only [smT]); omega) ?_ | (refine CL.mk (Or.inl ?_); (conv => whnf); refine Cl.is (hc) rfl (by first | exact fun _ => rfl | fail) ?_) | fail)
  all_goals (conv => whnf)
  refine ⟨⟨Nat, fun i => i ≤ n, fun i => n - i, fun i => ⟨[(0, dsr (stI s i).1), (1, dsr dot), (2, di 0), (3, di n), (9, .d (.ow 900 (n + 1))), (10, di i)], [(900, .ar 9 1 (strs (stI s i).2 ++ zs (n + 1 - i)))]⟩, 0, Nat.zero_le _, ⟨[(900, .k 31)], ⟨by (try dsimp only); (repeat (refine LeT.cons rfl (by first | exact LeS.d (by first | exact LeD.u rfl | exact LeD.ow rfl rfl | exact LeD.u (by simp [hmin]; done) | fail) | fail) ?_)); exact LeT.nil, by (try dsimp only); repeat (first | exact LeO.nil | refine LeO.ar rfl rfl (by first | rfl | fail) ?_ | fail)⟩⟩, fun i hi => ?_⟩⟩
  dsimp only at hi ⊢
  obtain ⟨l1, l2⟩ := hcc i hi
  by_cases h9 : i < n
  · obtain ⟨c1, c2⟩ := hcut i h9
    have hst := stI.eq_2 s i
    have hi2 : CallsA Tryz.prog 140 [dsr (stI s i).1, dsr dot] [] (Is (di (cutI (stI s i).1))) := hix (stI s i).1
    generalize cutI (stI s i).1 = m at *
    obtain ⟨m, rfl⟩ : ∃ k : Nat, m = (k : Int) := ⟨m.toNat, by omega⟩
    rw [Int.toNat_natCast] at hst c2
    generalize (stI s i).1 = r at *
    generalize (stI s i).2 = L at *
    have hds : dot.size = 1 := rfl
    have hzz : zs (n + 1 - i) = zs ((n - i) + 1) := by rw [show n + 1 - i = n - i + 1 by omega]
    have hset := zs_set L (n - i) (r.extract 0 m)
    rw [l1] at hset
    rw [hzz]
    have hrw : ∀ {K : List V → Prop}, K [V.str (ByteArray.mk #[])] → Rw (strs L ++ zs (n - i + 1)) i K := fun k => Rw.get (by rw [List.getElem?_append_right (by simp [l1])]; simp [l1]) k
    repeat' ((conv => whnf); first | refine Slc.mk ⟨0, m, rfl, (by omega), by omega, by omega, ?_⟩ | refine Slc.mk ⟨(m + 1), r.size, (by rw [hds]; omega), rfl, by omega, by omega, ?_⟩ | refine Ixo.mk ⟨i, rfl, by omega, ?_⟩ | refine hrw ?_ | refine Gs.id ?_ | with_reducible refine Brn.F rfl ?_ | refine Brn.T (by (try simp only [smT]); first | rfl | omega | fail) ?_ | (refine Bnd.mk (fun hm => ?_); (try simp only [smT] at hm)) | refine Rng.mk (by (try simp only [smT]); omega) ?_ | (refine CL.mk (Or.inl ?_); (conv => whnf); refine Cl.is (hi2) rfl (by first | exact fun _ => rfl | fail) ?_) | fail)
    all_goals (conv => whnf)
    have hz2 : n + 1 - (i + 1) = n - i := by omega
    all_goals
      refine ⟨i + 1, by omega, by omega, [(900, .k 900)], ?_⟩
      rw [hst, hz2]
      exact ⟨by (try dsimp only); (repeat (refine LeT.cons rfl (by first | exact LeS.d (by first | exact LeD.u rfl | exact LeD.ow rfl rfl | fail) | fail) ?_)); exact LeT.nil, by (try dsimp only); repeat (first | exact LeO.nil | refine LeO.ar rfl rfl (by first | simp [hset]) ?_ | fail)⟩
  · obtain rfl : i = n := by omega
    clear hcut hcc hmin
    generalize (stI s i).1 = r at *
    generalize (stI s i).2 = L at *
    have hzz : zs (i + 1 - i) = zs (0 + 1) := by rw [show i + 1 - i = 1 by omega]
    have hset := zs_set L 0 r
    rw [l1] at hset
    rw [hzz]
    have hrw : ∀ {K : List V → Prop}, K [V.str (ByteArray.mk #[])] → Rw (strs L ++ zs (0 + 1)) i K := fun k => Rw.get (by rw [List.getElem?_append_right (by simp [l1])]; simp [l1]) k
    repeat' ((conv => whnf); first | refine Ixo.mk ⟨i, rfl, by omega, ?_⟩ | refine hrw ?_ | refine Slc.mk ⟨0, i + 1, rfl, rfl, by omega, by simp [l1], ?_⟩ | refine Gs.id ?_ | refine Brn.F (by (try simp only [smT]); first | rfl | omega | fail) ?_ | refine Rng.mk (by (try simp only [smT]); omega) ?_ | fail)
    all_goals (conv => whnf)
    all_goals
      refine Len.mk (by simp [l1]) ?_
      exact Ret.is (by simp at hset; simp [tupT, SC.up]; exact hset)
end Go.Proofs.YtabmcfnefjipbaaGreatDoor
namespace Go.Proofs.YtabmcfnefjipbaaGreatDoor
open Go.RowKit
theorem split_T (s : ByteArray) (hs : s.size ≤ 60) : CallsA Tryz.prog 92 [dsr s, dsr dot] [] (Is (.d (.u (.sl 1 (strs (splitM s)))))) := by
  have h := genSplit_T s hs
  refine callsA_of_vc (T := tt) Tryz.func92 rfl rfl rfl rfl rfl ?_
  repeat' ((conv => whnf); first | refine Gs.id ?_ | (refine CL.mk (Or.inl ?_); (conv => whnf); refine Cl.is (h) rfl (by first | (intro e; cases e; done) | fail) ?_) | fail)
  all_goals (conv => whnf)
  all_goals exact Ret.is rfl
/-- Where the first stands that is no name, from i on; -1: nowhere. -/
def badI : List ByteArray → Nat → Int
  | [], _ => -1
  | x :: l, i => if nameB x then badI l (i + 1) else i
theorem badI_all : ∀ (l : List ByteArray) (i : Nat), decide (0 ≤ badI l i) = !l.all nameB
  | [], i => rfl
  | x :: l, i => by
    rw [badI, List.all_cons]
    cases nameB x
    · simp
    · simpa using badI_all l (i + 1)
theorem splitM_len (s : ByteArray) : (splitM s).length ≤ s.size + 1 := by
  have h1 := (stI_ok s (cntB s) (Nat.le_refl _)).2.1
  have h2 := cnt_le s
  simp [splitM, h1]
  omega
def dottedM (s : ByteArray) : Bool := decide ((s.size : Int) ≤ 60) && (splitM s).all nameB
end Go.Proofs.YtabmcfnefjipbaaGreatDoor
namespace Go.Proofs.YtabmcfnefjipbaaGreatDoor
open Go.RowKit
theorem notName_T (s : ByteArray) : CallsA Tryz.prog 136 [dsr s] [] (Is (db (!nameB s))) := by
  have h := isName_T' s
  refine callsA_of_vc (T := tt) Tryz.func136 rfl rfl rfl rfl rfl ?_
  repeat' ((conv => whnf); first | refine Gs.id ?_ | (refine CL.mk (Or.inl ?_); (conv => whnf); refine Cl.is (h) rfl (by first | exact fun _ => rfl | fail) ?_) | fail)
  all_goals (conv => whnf)
  all_goals exact Ret.is rfl
abbrev fnD : V := .fn 136
theorem indexFunc_T (l : List ByteArray) (hl : l.length ≤ 1000000) : CallsA Tryz.prog 112 [.d (.u (.sl 1 (strs l))), .d (.u fnD)] [] (Is (di (badI l 0))) := by
  refine callsA_of_vc (T := tt) Tryz.func112 rfl rfl rfl rfl rfl ?_
  repeat' ((conv => whnf); first | refine Gs.id ?_ | (refine Bnd.mk (fun hm => ?_); (try simp only [smT] at hm)) | fail)
  all_goals (conv => whnf)
  refine ⟨⟨Nat, fun i => i ≤ l.length ∧ badI l 0 = badI (l.drop i) i, fun i => l.length - i, fun i => ⟨[(0, .d (.u (.sl 1 (strs l)))), (1, .d (.u fnD)), (7, di l.length), (8, di i)], []⟩, 0, ⟨Nat.zero_le _, rfl⟩, ⟨[], ⟨by (try dsimp only); (repeat (refine LeT.cons rfl (by first | exact LeS.d (by first | exact LeD.u rfl | exact LeD.u (by simp; done) | fail) | fail) ?_)); exact LeT.nil, by (try dsimp only); repeat (first | exact LeO.nil | fail)⟩⟩, fun i hi => ?_⟩⟩
  obtain ⟨hi, he⟩ := hi
  dsimp only
  rw [he]
  by_cases h9 : i < l.length
  · rw [List.drop_eq_getElem_cons h9, badI]
    have hrow : ∀ {K : List V → Prop}, K [V.str l[i]] → Ix (strs l) (i : Int) K := fun k => Ix.map rfl h9 k
    generalize l[i] = x at *
    have hn := notName_T x
    cases hx : nameB x
    · rw [hx] at hn
      repeat' ((conv => whnf); first | refine hrow ?_ | refine Gs.id ?_ | with_reducible refine Brn.T rfl ?_ | refine Brn.T (by (try simp only [smT]); first | rfl | omega | fail) ?_ | (refine Raw.callF [] [] rfl rfl rfl rfl rfl rfl rfl rfl (hn) ?_; rintro _ _ ⟨rfl, rfl⟩; refine Bk.mk rfl rfl ?_))
      all_goals (conv => whnf)
      all_goals exact Ret.is rfl
    · rw [hx] at hn
      repeat' ((conv => whnf); first | refine hrow ?_ | refine Gs.id ?_ | with_reducible refine Brn.F rfl ?_ | refine Brn.T (by (try simp only [smT]); first | rfl | omega | fail) ?_ | refine Rng.mk (by (try simp only [smT]); omega) ?_ | (refine Raw.callF [] [] rfl rfl rfl rfl rfl rfl rfl rfl (hn) ?_; rintro _ _ ⟨rfl, rfl⟩; refine Bk.mk rfl rfl ?_))
      all_goals (conv => whnf)
      all_goals exact ⟨i + 1, ⟨by omega, by rw [if_pos rfl]⟩, by omega, [], ⟨by (try dsimp only); (repeat (refine LeT.cons rfl (by first | exact LeS.d (by first | exact LeD.u rfl | fail) | fail) ?_)); exact LeT.nil, by (try dsimp only); repeat (first | exact LeO.nil | fail)⟩⟩
  · obtain rfl : i = l.length := by omega
    rw [List.drop_length, badI]
    repeat' ((conv => whnf); first | refine Gs.id ?_ | refine Brn.F (by (try simp only [smT]); first | rfl | omega | fail) ?_ | fail)
    all_goals (conv => whnf)
    all_goals exact Ret.is rfl
theorem containsFunc_T (l : List ByteArray) (hl : l.length ≤ 1000000) : CallsA Tryz.prog 91 [.d (.u (.sl 1 (strs l))), .d (.u fnD)] [] (Is (db (!l.all nameB))) := by
  have h := indexFunc_T l hl
  rw [← badI_all l 0]
  refine callsA_of_vc (T := tt) Tryz.func91 rfl rfl rfl rfl rfl ?_
  repeat' ((conv => whnf); first | refine Gs.id ?_ | (refine CL.mk (Or.inl ?_); (conv => whnf); refine Cl.is (h) rfl (by first | exact fun _ => rfl | fail) ?_) | fail)
  all_goals (conv => whnf)
  all_goals exact Ret.is rfl
theorem dotted_T (s : ByteArray) : CallsA Tryz.prog 109 [dsr s] [] (Is (db (dottedM s))) := by
  by_cases h : (s.size : Int) ≤ 60
  · have e : dottedM s = (splitM s).all nameB := by simp [dottedM, h]
    rw [e]
    have h1 := split_T s (by omega)
    have h2 := containsFunc_T (splitM s) (by have := splitM_len s; omega)
    have h3 : (!!(splitM s).all nameB) = (splitM s).all nameB := by simp
    refine callsA_of_vc (T := tt) Tryz.func109 rfl rfl rfl rfl rfl ?_
    repeat' ((conv => whnf); first | refine Gs.id ?_ | refine Brn.T (by (try simp only [smT]); first | rfl | assumption | fail) ?_ | (refine Bnd.mk (fun hm => ?_); (try simp only [smT] at hm)) | (refine CL.mk (Or.inl ?_); (conv => whnf); first | refine Cl.is (h1) rfl (by first | (intro e; cases e; done) | fail) ?_ | refine Cl.is (h2) rfl (by first | exact fun _ => rfl | fail) ?_) | fail)
    all_goals (conv => whnf)
    all_goals exact Ret.is (by simp [tupT, SC.up])
  · have e : dottedM s = false := by simp [dottedM, h]
    rw [e]
    refine callsA_of_vc (T := tt) Tryz.func109 rfl rfl rfl rfl rfl ?_
    repeat' ((conv => whnf); first | refine Gs.id ?_ | refine Brn.F (by (try simp only [smT]); first | rfl | omega | fail) ?_ | (refine Bnd.mk (fun hm => ?_); (try simp only [smT] at hm)) | fail)
    all_goals (conv => whnf)
    all_goals exact Ret.is rfl
end Go.Proofs.YtabmcfnefjipbaaGreatDoor
namespace Go.Proofs.YtabmcfnefjipbaaGreatDoor
def dotL : List UInt8 → List (List UInt8)
  | [] => [[]]
  | b :: l => if b = 46 then [] :: dotL l else match dotL l with
    | [] => [[b]]
    | x :: r => (b :: x) :: r
theorem dotL_ne : ∀ l, dotL l ≠ []
  | [] => by simp [dotL]
  | b :: l => by
    rw [dotL]
    split
    · simp
    · split <;> simp
def preL (x : List UInt8) : List (List UInt8) → List (List UInt8)
  | [] => [x]
  | y :: r => (x ++ y) :: r
theorem dotL_cons {b : UInt8} {l : List UInt8} (h : b ≠ 46) : dotL (b :: l) = preL [b] (dotL l) := by
  rw [dotL, if_neg h]
  cases dotL l <;> rfl
theorem preL_preL (x y : List UInt8) (l : List (List UInt8)) : preL x (preL y l) = preL (x ++ y) l := by
  cases l <;> simp [preL]
theorem dotL_idx : ∀ (l : List UInt8), 0 < l.count 46 → dotL l = l.take (Go.Lib.indexByte l 46).toNat :: dotL (l.drop ((Go.Lib.indexByte l 46).toNat + 1))
  | [], h => by simp at h
  | b :: l, h => by
    by_cases hb : b = 46
    · subst hb
      simp [dotL, Go.Lib.indexByte]
    · have hc : (b :: l).count 46 = l.count 46 := by rw [List.count_cons]; simp [hb]
      rw [hc] at h
      obtain ⟨h1, h2, h3⟩ := idx_cnt l h
      have e : Go.Lib.indexByte (b :: l) 46 = Go.Lib.indexByte l 46 + 1 := by
        rw [Go.Lib.indexByte]
        have h4 : (b == 46) = false := by simpa using hb
        have h5 : (Go.Lib.indexByte l 46 == -1) = false := by simp; omega
        rw [h4, h5]; rfl
      have e2 : (Go.Lib.indexByte l 46 + 1).toNat = (Go.Lib.indexByte l 46).toNat + 1 := by omega
      rw [e, e2, dotL_cons hb, dotL_idx l h]
      simp [preL]
theorem dotL_none : ∀ (l : List UInt8), l.count 46 = 0 → dotL l = [l]
  | [], _ => rfl
  | b :: l, h => by
    have hb : b ≠ 46 := fun e => by subst e; simp at h
    have hc : (b :: l).count 46 = l.count 46 := by rw [List.count_cons]; simp [hb]
    rw [dotL_cons hb, dotL_none l (by omega)]
    rfl
abbrev tl (l : List ByteArray) : List (List UInt8) := l.map fun s => s.data.toList
theorem extract_tl (s : ByteArray) (a b : Nat) : (s.extract a b).data.toList = (s.data.toList.drop a).take (b - a) := by
  simp [ByteArray.data_extract, Array.toList_extract, List.extract_eq_take_drop]
theorem stI_dotL (s : ByteArray) : ∀ i, i ≤ cntB s → dotL s.data.toList = tl (stI s i).2 ++ dotL (stI s i).1.data.toList
  | 0, _ => rfl
  | i + 1, h => by
    obtain ⟨h1, _, _⟩ := stI_ok s i (by omega)
    have hp : 0 < (stI s i).1.data.toList.count 46 := by
      have : cntB (stI s i).1 = (stI s i).1.data.toList.count 46 := rfl
      omega
    rw [stI_dotL s i (by omega), dotL_idx _ hp, stI]
    have e1 := extract_tl (stI s i).1 0 (cutI (stI s i).1).toNat
    have e2 := extract_tl (stI s i).1 ((cutI (stI s i).1).toNat + 1) (stI s i).1.size
    rw [List.take_of_length_le (by simp)] at e2
    simp only [tl, List.map_append, List.map_cons, List.map_nil, List.append_assoc, List.singleton_append]
    rw [e1, e2]
    simp [cutI]
theorem splitM_dotL (s : ByteArray) : tl (splitM s) = dotL s.data.toList := by
  obtain ⟨h1, _, _⟩ := stI_ok s (cntB s) (Nat.le_refl _)
  have h0 : (stI s (cntB s)).1.data.toList.count 46 = 0 := by
    have : cntB (stI s (cntB s)).1 = (stI s (cntB s)).1.data.toList.count 46 := rfl
    omega
  rw [stI_dotL s _ (Nat.le_refl _), dotL_none _ h0]
  simp [tl, splitM]
theorem preL_nil {l : List (List UInt8)} (h : l ≠ []) : preL [] l = l := by
  cases l with
  | nil => exact absurd rfl h
  | cons y r => rfl
theorem splitB_dotL (s : ByteArray) : ∀ i, i ≤ s.size → dotL s.data.toList = tl (splitB s 46 i).1 ++ preL ((s.data.toList.drop (splitB s 46 i).2).take (i - (splitB s 46 i).2)) (dotL (s.data.toList.drop i))
  | 0, _ => by simp [splitB, preL_nil (dotL_ne _)]
  | i + 1, h => by
    have ih := splitB_dotL s i (by omega)
    have hle := splitB_le s 46 i
    have hi : i < s.data.toList.length := by simp; omega
    have hd : s.data.toList.drop i = s.data.toList[i] :: s.data.toList.drop (i + 1) := List.drop_eq_getElem_cons hi
    have hg : s.data[i]? = some s.data.toList[i] := by simp at hi ⊢
    rw [splitB, hg]
    rw [hd] at ih
    generalize hb : s.data.toList[i] = b at *
    by_cases hc : b = 46
    · subst hc
      rw [if_pos (.inr rfl), ih, dotL, if_pos rfl]
      have e1 := extract_tl s (splitB s 46 i).2 i
      have hne := dotL_ne (s.data.toList.drop (i + 1))
      generalize dotL (s.data.toList.drop (i + 1)) = Y at *
      cases Y with
      | nil => exact absurd rfl hne
      | cons y r =>
        simp only [tl, List.map_append, List.map_cons, List.map_nil, List.append_assoc, List.singleton_append, preL, List.append_nil, Nat.sub_self, List.take_zero, List.nil_append]
        rw [e1]
    · rw [if_neg (by simp [hc]; omega), ih, dotL_cons hc, preL_preL]
      congr 2
      have e : i + 1 - (splitB s 46 i).2 = (i - (splitB s 46 i).2) + 1 := by omega
      have hlen : i - (splitB s 46 i).2 < (s.data.toList.drop (splitB s 46 i).2).length := by simp; simp at hi; omega
      rw [e, List.take_succ_eq_append_getElem hlen]
      congr 1
      rw [List.getElem_drop]
      have : (splitB s 46 i).2 + (i - (splitB s 46 i).2) = i := by omega
      simp only [this, hb]
theorem parts_dotL (s : ByteArray) : tl (parts s) = dotL s.data.toList := by
  have h := splitB_dotL s s.size (Nat.le_refl _)
  rw [parts, splitB, if_pos (.inl rfl), h]
  have e1 := extract_tl s (splitB s 46 s.size).2 s.size
  have e2 : s.data.toList.drop s.size = [] := List.drop_eq_nil_of_le (by simp)
  rw [e2]
  simp only [tl, List.map_append, List.map_cons, List.map_nil, dotL, preL, List.append_nil]
  rw [e1]
theorem tl_inj {a b : List ByteArray} (h : tl a = tl b) : a = b := by
  induction a generalizing b with
  | nil => cases b with
    | nil => rfl
    | cons => simp [tl] at h
  | cons x r ih =>
    cases b with
    | nil => simp [tl] at h
    | cons y q =>
      simp only [tl, List.map_cons, List.cons.injEq] at h
      obtain ⟨h1, h2⟩ := h
      obtain ⟨x⟩ := x
      obtain ⟨y⟩ := y
      have : x = y := Array.toList_inj.1 h1
      rw [this, ih h2]
theorem splitM_parts (s : ByteArray) : splitM s = parts s := tl_inj ((splitM_dotL s).trans (parts_dotL s).symm)
theorem dottedM_eq (s : ByteArray) : dottedM s = dottedB s := by rw [dottedM, dottedB, splitM_parts, Bool.and_comm]
end Go.Proofs.YtabmcfnefjipbaaGreatDoor
namespace Go.Proofs.YtabmcfnefjipbaaGreatDoor
open Go.RowKit
/-- No part of it lies in frozen memory. -/
def mfV : V → Bool
  | .sl _ _ => false
  | .cl _ _ => false
  | .fz _ _ => false
  | _ => true
def MfE : E → Prop
  | .v x => mfV x = true
  | .os _ _ rs => ∀ r ∈ rs, ∀ x ∈ r, mfV x = true
  | .hl => True
def MfO (ob : List (Nat × Ob)) : Prop := ∀ p ∈ ob, ∃ t rs, p.2 = .fm t rs ∧ ∀ row ∈ rs, ∀ e ∈ row, MfE e
def MfS (s : SV) : Prop := ∃ x, s = .d (.u x) ∧ mfV x = true
theorem DenV.mf {z z' : Fz} (hG : z'.G.fam = z.G.fam) {x : V} {v : Value} (hf : mfV x = true) (h : DenV z x v) : DenV z' x v := by
  cases h with
  | sl => cases hf
  | cl => cases hf
  | fz => cases hf
  | int => exact .int _ _
  | bool => exact .bool _
  | str _ hs => exact .str _ hs
  | nl => exact .nl
  | pn => exact .pn
  | fn => exact .fn
  | v h => exact .v h
  | m h => exact .m (by rw [hG]; exact h)
theorem DenVL.mf {z z' : Fz} (hG : z'.G.fam = z.G.fam) {cs : List V} {us : List Value} (hf : ∀ x ∈ cs, mfV x = true) (h : DenVL z cs us) : DenVL z' cs us :=
  ⟨h.len, h.one, fun j d u e1 e2 => (h.den j d u e1 e2).mf hG (hf d (List.mem_of_getElem? e1))⟩
theorem CellOk.mf {ρ : Rho} {z z' : Fz} (hG : z'.G.fam = z.G.fam) {k i o : Nat} {e : E} {u : Value} {X : List (Nat × Hb)} (hf : MfE e) (h : CellOk ρ z k i o e u X) : CellOk ρ z' k i o e u X := by
  cases e with
  | v x => exact ⟨h.1, h.2.mf hG hf⟩
  | os ty sz rs =>
    obtain ⟨A, c, us, h1, h2, h3, h4, h5, h6⟩ := h
    refine ⟨A, c, us, h1, h2, h3, h4, h5.mf hG fun x hx => ?_, h6⟩
    obtain ⟨r, q1, q2⟩ := List.mem_flatten.1 hx
    exact hf r q1 x q2
  | hl => exact h
theorem CellsOk.mf {ρ : Rho} {z z' : Fz} (hG : z'.G.fam = z.G.fam) {k i o : Nat} {es : List E} {us : List Value} {X : List (Nat × Hb)} (h : CellsOk ρ z k i o es us X) : (∀ e ∈ es, MfE e) → CellsOk ρ z' k i o es us X := by
  induction h with
  | nil => exact fun _ => .nil
  | cons h1 _ ih => exact fun hf => .cons (h1.mf hG (hf _ (by simp))) (ih fun e he => hf e (by simp [he]))
theorem FamOk.mf {ρ : Rho} {z z' : Fz} (hG : z'.G.fam = z.G.fam) {k : Nat} {ty : TypeId} {i : Nat} {bs : List Nat} {rs : List (List E)} {X : List (Nat × Hb)} (h : FamOk ρ z k ty i bs rs X) : (∀ row ∈ rs, ∀ e ∈ row, MfE e) → FamOk ρ z' k ty i bs rs X := by
  induction h with
  | nil => exact fun _ => .nil
  | cons h1 _ ih => exact fun hf => .cons (h1.mf hG (hf _ (by simp))) (ih fun row hr => hf row (by simp [hr]))
theorem ObsOk.mf {ρ : Rho} {z z' : Fz} (hG : z'.G.fam = z.G.fam) (hO : z'.G.own = z.G.own) : ∀ {ob : List (Nat × Ob)} {hp : List (Nat × Hb)}, MfO ob → ObsOk ρ z ob hp → ObsOk ρ z' ob hp
  | [], _, _, h => h
  | (k, o) :: r, hp, hf, ⟨X, hp', h1, h2, h3⟩ => by
    refine ⟨X, hp', h1, ?_, h3.mf hG hO fun p hp => hf p (by simp [hp])⟩
    obtain ⟨t, rs, e, q⟩ := hf (k, o) (by simp)
    dsimp only at e
    subst e
    obtain ⟨a1, a2⟩ := h2
    exact ⟨by rw [hG]; exact a1.mf hG q, by rw [hO]; exact a2⟩
section
variable {P : Program} {T : List (Nat × Ty)} {nt : Nt} {Q : Exit → Act → World → Prop} {c : Cx} {st : St} {tm : List (Nat × Value)} {h : Hs} {ρ : Rho} {G : FG} {ty : TypeId} {pos : String} {af : Array Edge} {gd : Option (Nat × Bool)} {K : Kt}
end
end Go.Proofs.YtabmcfnefjipbaaGreatDoor
namespace Go.Proofs.YtabmcfnefjipbaaGreatDoor
open Go.RowKit
/-- The bytes of a string as rows. -/
def bwR (s : ByteArray) : List (List V) := s.data.toList.map fun b => [V.int .u8 (b.toNat : Int)]
section
variable {P : Program} {T : List (Nat × Ty)} [hT : Tys P T] {nt : Nt} {ty : TypeId} {pos : String} {af : Array Edge} {gd : Option (Nat × Bool)} {K : Kt}
omit hT in
theorem Hp.other {F : Nat → Prop} {w0 w w' : World} {hp : List (Nat × Hb)} {b : Nat} (hw : Hp ⟨F, w0, hp⟩ w) (hs : Same (· ≠ b) w w') (h1 : ¬ F b) (h2 : ∀ x, (b, x) ∉ hp) : Hp ⟨F, w0, hp⟩ w' :=
  ⟨hw.same.trans (hs.mono fun k hk e => h1 (e ▸ hk)), hw.inF, fun b' x hx => (hw.blk b' x hx).of_block (hs.block b' fun e => h2 x (e ▸ hx)), hw.nd, hw.out⟩
end
end Go.Proofs.YtabmcfnefjipbaaGreatDoor
namespace Go.Proofs.YtabmcfnefjipbaaGreatDoor
open Go.RowKit
section
variable {P : Program} {T : List (Nat × Ty)} [hT : Tys P T] {nt : Nt} {Q : Exit → Act → World → Prop} {ty : TypeId} {pos : String} {af : Array Edge} {gd : Option (Nat × Bool)} {K : Kt}
omit hT in
/-- The same memory seen otherwise, then the operation. -/
theorem Raw.ghost {o : Oper} {tmT tmT' : List (Nat × SV)} {ob ob' : List (Nat × Ob)} (gh : Ghost tmT ob tmT' ob') (k : Raw P nt o tmT' ob' K) : Raw P nt o tmT ob K := ⟨fun Q c tm h ρ G g => ⟨fun a w ha hw => by
  obtain ⟨h1, ρ1, G1, k1, hw1⟩ := gh.out c tm h ρ G w g hw
  exact (k.out Q c tm h1 ρ1 G1 k1).out a w ha hw1⟩⟩
/-- A store that is reckoned. -/
theorem Raw.store {t : TypeId} {x y : Operand} {d : Option Tmp} {tmT : List (Nat × SV)} {ob : List (Nat × Ob)} (k : vcM P T nt false ⟨d, .store t x y, ty, pos, af, gd⟩ tmT ob K) : Raw P nt ⟨d, .store t x y, ty, pos, af, gd⟩ tmT ob K := ⟨fun _ _ _ _ _ _ g => store_sound (st := ⟨tmT, ob⟩) g k⟩
end
end Go.Proofs.YtabmcfnefjipbaaGreatDoor
namespace Go.Proofs.YtabmcfnefjipbaaGreatDoor
open Go.RowKit
/-- What yield is as a value. -/
abbrev yv (l : Nat) : SV := .d (.u (.v (.func (.yield l) #[] #[])))
/-- A round by its contract: yield of the loop l at these arguments leads from φ to φ'. -/
structure YieldsA (P : Program) (l : Nat) (ss : List SV) (zb : Fz) (φ φ' : List (Nat × Hb) → Prop) : Prop where
  out : ∀ (F : Nat → Prop) (w : World) (G : FG) (ρ : Rho) (X : List (Nat × Hb)) (vs : List Value), Hp ⟨F, w, X⟩ w → φ X → Mz zb ⟨G, w⟩ → (∀ b, G b → F b) → vs.length = ss.length → (∀ (j : Nat) s v, ss[j]? = some s → vs[j]? = some v → DenS ρ ⟨G, w⟩ s v) →
    ∃ fn tmps assign body, (Instr.yield l vs.toArray).run P w = .ok (.round l fn tmps assign body) w ∧ RoundIn Fence.wide 0 P l fn tmps assign body w fun e w' => e = .returned (.bool true) ∧ ∃ X', φ' X' ∧ Hp ⟨F, w, X'⟩ w'
section
variable {P : Program} {T : List (Nat × Ty)} {nt : Nt} {ty : TypeId} {pos : String} {af : Array Edge} {gd : Option (Nat × Bool)} {K : Kt}
/-- A call of yield: the abstract object kA changes. -/
theorem RawY.call {l : Nat} {x : Operand} {xs : Array Operand} {ts : Array TypeId} {d : Nat} {tmT : List (Nat × SV)} {ob : List (Nat × Ob)} (kA : Nat) {ss : List SV} {zb : Fz} {φ φ' : List (Nat × Hb) → Prop} (hf : evT tmT x = some (yv l)) (hk : lk kA ob = some (.ab [] [] zb φ)) (hx : argsT (obr kA ob) tmT xs.toList = some ss) (hn : needA (obr kA ob) tmT True xs.toList) (hd : Nat.blt d nt = true) (hY : YieldsA P l ss zb φ φ')
    (k : K ((d, .d (.u (.bool true))) :: tmT) (obu kA (.ab [] [] zb φ') ob)) : RawY P nt l ⟨some d, .call ⟨.value x, xs, ts⟩, ty, pos, af, gd⟩ tmT ob K := ⟨fun Q c tm h ρ G g a w ha hw ro => by
  obtain ⟨F, w0, hp⟩ := h
  obtain ⟨X, f, ⟨p1, p2, p3⟩, r, hupd, hrest⟩ := g.ob.set hk
  have hperm : ∀ Y, (f Y).Perm (Y ++ f []) := r.perm
  have hpX : hp.Perm (X ++ f []) := by have := hperm X; rwa [r.eq] at this
  have hw2 : Hp ⟨F, w0, X ++ f []⟩ w := hw.perm hpX
  have hwF : Hp ⟨F, w0, f []⟩ w := hw2.sub (List.sublist_append_right _ _)
  have hnd := hw2.nd
  rw [List.map_append, List.nodup_append] at hnd
  have g3 : Gd c ⟨tmT, obr kA ob⟩ tm ⟨F, w0, f []⟩ ρ G := ⟨g.fF, g.fw, g.gF, g.gx, g.fm, g.tm, hrest⟩
  obtain ⟨vs, a1, a2, a3⟩ := argsT_ev (ρ' := ρ) g3 hx
  have hden := (a3 w hwF True hn).2.1
  obtain ⟨vf, vf1, vf2⟩ := g.ev hf
  have hfun : vf = .func (.yield l) #[] #[] := by cases vf2 with | d e => cases e with | u e => cases e; rfl
  subst hfun
  have hPF : ∀ b x, (b, x) ∈ X → ¬ Bl (f []) b := fun b x hx ⟨y, hy⟩ => hnd.2.2 b (List.mem_map_of_mem (f := Prod.fst) hx) b (List.mem_map_of_mem (f := Prod.fst) hy) rfl
  have hz : Mz zb ⟨G.or (Bl (f [])), w⟩ := p2.trans ⟨fun _ h => .inl h, fun b hb => hw.same.block b (g.gF b hb), fun _ _ _ h => h⟩
  obtain ⟨fn, tmps, assign, body, hy, hR⟩ := hY.out (fun b => F b ∨ Bl (f []) b) w (G.or (Bl (f []))) ρ X vs ⟨Same.refl _ _, fun b hb => hb.elim (fun hb => hw.Flt hb) (fun ⟨x, hx⟩ => (hwF.blk b x hx).lt), fun b x hx => hw2.blk b x (List.mem_append_left _ hx), hnd.1, fun b x hx hb => hb.elim (hw2.out b x (List.mem_append_left _ hx)) (hPF b x hx)⟩ p1 hz (fun b hb => hb.imp (g.gF b) id) a2 hden
  have hargs : xs.map a.eval = vs.toArray := by
    have : xs = xs.toList.toArray := by simp
    rw [this, List.map_toArray, a1.eq ha]
  have hsem : (Oper.semAt (RF ro).round a.eval ⟨some d, .call ⟨.value x, xs, ts⟩, ty, pos, af, gd⟩).run P w = .ok (.round l fn tmps assign body) w := by
    rw [Oper.semAt_eq _ _ _ (by simp)]
    simp only [execOp, resolve, Sem.run_bind, hargs, Deferred.ofValue, ha.ev vf1, invoke]
    simpa [Sem.run_pure, Result.andThen] using hy
  refine ⟨fun _ _ => trivial, ?_⟩
  rw [hsem, Oper.uponIn_round]
  refine ⟨fun h0 => (by cases h0), ?_⟩
  refine RoundIn.mono (F := RF ro) (n := 0) (show RoundIn Fence.wide 0 P l fn tmps assign body w _ from hR) ?_
  rintro e w' ⟨rfl, X', q1, q2⟩
  have hkeep : ∀ b, F b ∨ Bl (f []) b → w'.heap[b]? = w.heap[b]? := fun b hb => q2.same.block b hb
  have hw' : Hp ⟨F, w0, X' ++ f []⟩ w' := by
    refine ⟨hw.same.trans (q2.same.mono fun _ h => .inl h), hw.inF, fun b x hx => ?_, ?_, fun b x hx hb => ?_⟩
    · rcases List.mem_append.1 hx with hx | hx
      · exact q2.blk b x hx
      · exact (hw2.blk b x (List.mem_append_right _ hx)).of_block (hkeep b (.inr ⟨x, hx⟩))
    · rw [List.map_append, List.nodup_append]
      refine ⟨q2.nd, hnd.2.1, fun a ha b hb hab => ?_⟩
      subst hab
      obtain ⟨⟨_, x⟩, hx, rfl⟩ := List.mem_map.1 ha
      obtain ⟨⟨_, y⟩, hy, hxy⟩ := List.mem_map.1 hb
      dsimp only at hxy
      subst hxy
      exact q2.out _ x hx (.inr ⟨y, hy⟩)
    · rcases List.mem_append.1 hx with hx | hx
      · exact q2.out b x hx (.inl hb)
      · exact hw2.out b x (List.mem_append_right _ hx) hb
  have hob : ObsOk ρ ⟨G, w0⟩ (obu kA (.ab [] [] zb φ') ob) (f X') := hupd _ X' ⟨q1, p2, .nil⟩
  have g4 : Gd c ⟨tmT, obu kA (.ab [] [] zb φ') ob⟩ tm ⟨F, w0, f X'⟩ ρ G := ⟨g.fF, g.fw, g.gF, g.gx, g.fm, g.tm, hob⟩
  exact ⟨(d, .bool true) :: tm, ⟨F, w0, f X'⟩, ha.put (by simpa using hd) _, hw'.perm (hperm X').symm, .of (g4.put (.d (.u (.bool true)))) k⟩⟩
end
end Go.Proofs.YtabmcfnefjipbaaGreatDoor
namespace Go.Proofs.YtabmcfnefjipbaaGreatDoor
open Go.RowKit
/-- Cells that hang on names alone. -/
def pinD : D → Bool
  | .ow _ _ => true
  | .p _ _ => true
  | .e _ _ _ => true
  | .mp _ => true
  | .ows _ _ _ => true
  | .fn _ _ => true
  | _ => false
/-- Cells without names. -/
def nmlD : D → Bool
  | .u _ => true
  | .q _ _ => true
  | _ => false
def nmlL : List D → Bool
  | [] => true
  | x :: r => bif nmlD x then nmlL r else false
def nmlC : List SC → Bool
  | [] => true
  | .d x :: r => bif nmlD x then nmlC r else false
  | .a xs :: r => bif nmlL xs then nmlC r else false
def nmlS : SV → Bool
  | .d x => nmlD x
  | .a xs => nmlL xs
  | .t vs => nmlC vs
section
variable {ρ ρ' : Rho} {z z' : Fz}
theorem Den.pin {d : D} {v : Value} (hp : pinD d = true) (h : Den ρ z d v) : Den ρ z' d v := by
  cases h with
  | u => cases hp
  | q => cases hp
  | r => cases hp
  | re => cases hp
  | any => cases hp
  | ow h1 h2 h3 => exact .ow h1 h2 h3
  | p h => exact .p h
  | e h => exact .e h
  | fn us h1 h2 => exact .fn us h1 h2
  | mp h1 h2 => exact .mp h1 h2
  | ows h1 h2 => exact .ows h1 h2
theorem Den.nml (m : Mz z z') {d : D} {v : Value} (hp : nmlD d = true) (h : Den ρ z d v) : Den ρ' z' d v := by
  cases h with
  | u h => exact .u (h.mono m)
  | q hb hu hd => exact .q (m.g _ hb) (fun j u e => by rw [m.cell hb]; exact hu j u e) (hd.mono m)
  | _ => cases hp
theorem nmlL_get : ∀ {cs : List D}, nmlL cs = true → ∀ (j : Nat) d, cs[j]? = some d → nmlD d = true
  | [], _, j, d, h => by simp at h
  | x :: r, hn, j, d, h => by
    obtain ⟨h1, h2⟩ := bif_and hn
    cases j with
    | zero => simp at h; subst h; exact h1
    | succ j => exact nmlL_get h2 j d (by simpa using h)
theorem nmlC_get : ∀ {cs : List SC}, nmlC cs = true → ∀ (j : Nat) s, cs[j]? = some s → nmlS s.up = true
  | [], _, j, d, h => by simp at h
  | x :: r, hn, j, d, h => by
    have : nmlS x.up = true ∧ nmlC r = true := by cases x <;> exact bif_and hn
    cases j with
    | zero => simp at h; subst h; exact this.1
    | succ j => exact nmlC_get this.2 j d (by simpa using h)
theorem DenL.nml (m : Mz z z') {cs : List D} {us : List Value} (hp : nmlL cs = true) (h : DenL ρ z cs us) : DenL ρ' z' cs us := ⟨h.len, h.one, fun j d u e1 e2 => (h.den j d u e1 e2).nml m (nmlL_get hp j d e1)⟩
theorem DenS.nml (m : Mz z z') {s : SV} {v : Value} (hp : nmlS s = true) (h : DenS ρ z s v) : DenS ρ' z' s v := by
  cases h with
  | d h => exact .d (h.nml m hp)
  | a h => exact .a (h.nml m hp)
  | t hl hd =>
    refine .t hl fun j s v h1 h2 => ?_
    have hs := nmlC_get hp j s h1
    cases hd j s v h1 h2 with
    | d h => exact .d (h.nml m hs)
    | a h => exact .a (h.nml m hs)
end
/-- The slots that name own objects; none if a slot does both or knows more. -/
def chkP : List Nat → List (Nat × SV) → Option (List (Nat × D))
  | _, [] => some []
  | ks, (k, s) :: r => bif inN ks k then none else match chkP (k :: ks) r with
    | none => none
    | some l => bif nmlS s then some l else match s with
      | .d x => bif pinD x then some ((k, x) :: l) else none
      | _ => none
theorem inN_mem : ∀ {ks : List Nat} {k : Nat}, k ∈ ks → inN ks k = true
  | [], k, h => by cases h
  | j :: r, k, h => by
    simp only [inN]
    cases hb : Nat.beq k j
    · rcases List.mem_cons.1 h with h | h
      · subst h; rw [Nat.beq_refl] at hb; cases hb
      · simpa using inN_mem h
    · rfl
theorem chkP_ok : ∀ {tm : List (Nat × SV)} {ks : List Nat} {l : List (Nat × D)}, chkP ks tm = some l → (∀ p ∈ l, p.1 ∉ ks ∧ lk p.1 tm = some (.d p.2) ∧ pinD p.2 = true) ∧ ∀ k s, lk k tm = some s → nmlS s = true ∨ ∃ x, s = .d x ∧ (k, x) ∈ l
  | [], ks, l, h => by simp only [chkP, Option.some.injEq] at h; subst h; exact ⟨fun p hp => by simp at hp, fun k s hk => by simp [lk] at hk⟩
  | (k, s) :: r, ks, l, h => by
    simp only [chkP] at h
    cases hk : inN ks k
    · rw [hk] at h
      simp only [cond_false] at h
      cases hr : chkP (k :: ks) r with
      | none => simp [hr] at h
      | some l' =>
        simp only [hr] at h
        obtain ⟨q1, q2⟩ := chkP_ok hr
        have hnk : k ∉ ks := fun hm => by rw [inN_mem hm] at hk; cases hk
        have hold : ∀ p ∈ l', p.1 ∉ ks ∧ lk p.1 ((k, s) :: r) = some (.d p.2) ∧ pinD p.2 = true := fun p hp => by
          obtain ⟨a1, a2, a3⟩ := q1 p hp
          refine ⟨fun hm => a1 (List.mem_cons_of_mem _ hm), ?_, a3⟩
          simp only [lk]
          cases hb : Nat.beq p.1 k
          · exact a2
          · exact absurd (by rw [Nat.eq_of_beq_eq_true hb]; exact List.mem_cons_self) a1
        have htail : ∀ j t, lk j ((k, s) :: r) = some t → j = k ∧ t = s ∨ lk j r = some t := fun j t ht => by
          simp only [lk] at ht
          cases hb : Nat.beq j k
          · rw [hb] at ht; exact .inr ht
          · rw [hb] at ht
            simp only [cond_true, Option.some.injEq] at ht
            exact .inl ⟨Nat.eq_of_beq_eq_true hb, ht.symm⟩
        cases hn : nmlS s
        · rw [hn] at h
          simp only [cond_false] at h
          cases s with
          | d x =>
            simp only at h
            cases hp : pinD x
            · simp [hp] at h
            · simp only [hp, cond_true, Option.some.injEq] at h
              subst h
              refine ⟨fun p hm => ?_, fun j t ht => ?_⟩
              · rcases List.mem_cons.1 hm with hm | hm
                · subst hm; exact ⟨hnk, by simp [lk], hp⟩
                · exact hold p hm
              · rcases htail j t ht with ⟨rfl, rfl⟩ | ht
                · exact .inr ⟨x, rfl, List.mem_cons_self⟩
                · exact (q2 j t ht).imp id fun ⟨x, e, hm⟩ => ⟨x, e, List.mem_cons_of_mem _ hm⟩
          | a xs => simp at h
          | t vs => simp at h
        · rw [hn] at h
          simp only [cond_true, Option.some.injEq] at h
          subst h
          refine ⟨hold, fun j t ht => ?_⟩
          rcases htail j t ht with ⟨rfl, rfl⟩ | ht
          · exact .inl hn
          · exact q2 j t ht
    · rw [hk] at h; simp at h
/-- The values of such slots. -/
theorem pins_get {ρ : Rho} {z : Fz} {tm : List (Nat × SV)} {tv : List (Nat × Value)} (g : ∀ k s, lk k tm = some s → ∃ v, lk k tv = some v ∧ DenS ρ z s v) : ∀ {l : List (Nat × D)}, (∀ p ∈ l, lk p.1 tm = some (.d p.2)) → ∃ us : List Value, DenL ρ z (l.map Prod.snd) us ∧ ∀ (j : Nat) p u, l[j]? = some p → us[j]? = some u → lk p.1 tv = some u
  | [], _ => ⟨[], .nil, fun j p u h => by simp at h⟩
  | p :: r, hl => by
    obtain ⟨us, h1, h2⟩ := pins_get g (l := r) fun q hq => hl q (List.mem_cons_of_mem _ hq)
    obtain ⟨v, v1, v2⟩ := g p.1 _ (hl p List.mem_cons_self)
    cases v2 with | d v2 =>
    refine ⟨v :: us, by simpa using h1.cons v2, fun j q u e1 e2 => ?_⟩
    cases j with
    | zero => simp at e1 e2; subst e1 e2; exact v1
    | succ j => exact h2 j q u (by simpa using e1) (by simpa using e2)
/-- No part of it lies in frozen memory. -/
def mfD : D → Bool
  | .u x => mfV x
  | .q _ _ => false
  | _ => true
def MfOb : Ob → Prop
  | .bx _ cs => ∀ d ∈ cs, mfD d = true
  | .ar _ _ rs => ∀ r ∈ rs, ∀ x ∈ r, mfV x = true
  | .fm _ rs => ∀ row ∈ rs, ∀ e ∈ row, MfE e
  | .mp _ _ es => ∀ e ∈ es, ∀ x ∈ e.1 ++ e.2, mfV x = true
  | .fa _ _ rs => ∀ row ∈ rs, ∀ e ∈ row, MfE e
  | .ab _ _ _ _ => False
def MfObs (ob : List (Nat × Ob)) : Prop := ∀ p ∈ ob, MfOb p.2
section
variable {ρ : Rho} {z z' : Fz}
theorem Den.mfD (hG : z'.G.fam = z.G.fam) {d : D} {v : Value} (hf : Go.Proofs.YtabmcfnefjipbaaGreatDoor.mfD d = true) (h : Den ρ z d v) : Den ρ z' d v := by
  cases h with
  | u h => exact .u (h.mf hG hf)
  | q => cases hf
  | ow h1 h2 h3 => exact .ow h1 h2 h3
  | p h => exact .p h
  | e h => exact .e h
  | fn us h1 h2 => exact .fn us h1 h2
  | mp h1 h2 => exact .mp h1 h2
  | r h1 h2 h3 h4 => exact .r h1 h2 h3 h4
  | ows h1 h2 => exact .ows h1 h2
  | any h => exact .any h
  | re h => exact .re h
theorem DenW.mf (hG : z'.G.fam = z.G.fam) {g : Bool} {cs : List V} {v : Value} (hf : ∀ x ∈ cs, mfV x = true) (h : DenW z g cs v) : DenW z' g cs v := by
  cases g with
  | true => obtain ⟨us, e, h⟩ := h; exact ⟨us, e, h.mf hG hf⟩
  | false => obtain ⟨c, e, h⟩ := h; subst e; exact ⟨c, rfl, h.mf hG (hf c (by simp))⟩
theorem FaOk.mf (hG : z'.G.fam = z.G.fam) {k i : Nat} {rs : List (List E)} {us : List Value} {X : List (Nat × Hb)} (h : FaOk ρ z k i rs us X) : (∀ row ∈ rs, ∀ e ∈ row, MfE e) → FaOk ρ z' k i rs us X := by
  induction h with
  | nil => exact fun _ => .nil
  | cons h1 _ ih => exact fun hf => .cons (h1.mf hG (hf _ (by simp))) (ih fun row hr => hf row (by simp [hr]))
theorem ObOk.mfA (hG : z'.G.fam = z.G.fam) (hO : z'.G.own = z.G.own) {k : Nat} {o : Ob} {X : List (Nat × Hb)} (hf : MfOb o) (h : ObOk ρ z k o X) : ObOk ρ z' k o X := by
  cases o with
  | bx ty cs =>
    obtain ⟨b, us, h1, h2, h3⟩ := h
    exact ⟨b, us, h1, h2, h3.len, h3.one, fun j d u e1 e2 => (h3.den j d u e1 e2).mfD hG (hf d (List.mem_of_getElem? e1))⟩
  | ar ty sz rs =>
    obtain ⟨A, c, us, h1, h2, h3, h4, h5⟩ := h
    refine ⟨A, c, us, h1, h2, h3, h4.mf hG fun x hx => ?_, h5⟩
    obtain ⟨r, q1, q2⟩ := List.mem_flatten.1 hx
    exact hf r q1 x q2
  | fm ty rs => exact ⟨by rw [hG]; exact h.1.mf hG hf, by rw [hO]; exact h.2⟩
  | mp kg vg es =>
    obtain ⟨b, vs, h1, h2, h3⟩ := h
    refine ⟨b, vs, h1, h2, h3.len, fun j e p e1 e2 => ?_⟩
    obtain ⟨q1, q2⟩ := h3.den j e p e1 e2
    have hm := List.mem_of_getElem? e1
    exact ⟨q1.mf hG fun x hx => hf e hm x (List.mem_append_left _ hx), q2.mf hG fun x hx => hf e hm x (List.mem_append_right _ hx)⟩
  | fa ty sz rs => obtain ⟨A, c, us, Y, h1, h2, h3, h4, h5⟩ := h; exact ⟨A, c, us, Y, h1, h2, h3, h4.mf hG hf, h5⟩
  | ab cs us zb φ => exact hf.elim
/-- .. or it is only frozen memory, of the list zs. -/
def MfObsZ (zs : List Fz) (ob : List (Nat × Ob)) : Prop := ∀ p ∈ ob, MfOb p.2 ∨ ∃ zt φ, p.2 = .ab [] [] zt φ ∧ zt ∈ zs
theorem MfObs.toZ {zs : List Fz} {ob : List (Nat × Ob)} (h : MfObs ob) : MfObsZ zs ob := fun p hp => .inl (h p hp)
theorem ObsOk.mfA {zs : List Fz} (hz : ∀ zt ∈ zs, Mz zt z') (hG : z'.G.fam = z.G.fam) (hO : z'.G.own = z.G.own) : ∀ {ob : List (Nat × Ob)} {hp : List (Nat × Hb)}, MfObsZ zs ob → ObsOk ρ z ob hp → ObsOk ρ z' ob hp
  | [], _, _, h => h
  | (k, o) :: r, hp, hf, ⟨X, hp', h1, h2, h3⟩ => ⟨X, hp', h1, (hf (k, o) (by simp)).elim (fun h => h2.mfA hG hO h) (fun ⟨zt, φ, e, hm⟩ => by
      dsimp only at e
      subst e
      exact ⟨h2.1, hz zt hm, ⟨h2.2.2.len, h2.2.2.one, fun j d u e1 => by simp at e1⟩⟩), h3.mfA hz hG hO fun p hp => hf p (by simp [hp])⟩
end
/-- Parameters are set. -/
def setP {α : Type} : List Nat → List α → List (Nat × α) → List (Nat × α)
  | p :: ps, v :: vs, tm => setP ps vs ((p, v) :: tm)
  | _, _, tm => tm
def foldP : List Nat → List Value → Array Value → Array Value
  | p :: ps, v :: vs, t => foldP ps vs (t.setIfInBounds p v)
  | _, _, t => t
theorem foldP_eq : ∀ (ps : List Nat) (vs : List Value) (t : Array Value), (ps.zip vs).foldl (fun t (p : Nat × Value) => t.setIfInBounds p.1 p.2) t = foldP ps vs t
  | [], vs, t => by cases vs <;> rfl
  | p :: ps, [], t => rfl
  | p :: ps, v :: vs, t => by simp only [List.zip_cons_cons, List.foldl_cons, foldP]; exact foldP_eq ps vs _
theorem Slt.setP {n : Nat} : ∀ {ps : List Nat} {vs : List Value} {tm : List (Nat × Value)} {t : Array Value}, (∀ p ∈ ps, p < n) → Slt ⟨n, []⟩ tm { tmps := t, defers := [] } → Slt ⟨n, []⟩ (Go.Proofs.YtabmcfnefjipbaaGreatDoor.setP ps vs tm) { tmps := foldP ps vs t, defers := [] }
  | [], vs, tm, t, _, h => by cases vs <;> exact h
  | p :: ps, [], tm, t, _, h => h
  | p :: ps, v :: vs, tm, t, hp, h => Slt.setP (ps := ps) (vs := vs) (fun q hq => hp q (List.mem_cons_of_mem _ hq)) (h.put (hp p List.mem_cons_self) v)
theorem Gd.setP {c : Cx} {ob : List (Nat × Ob)} {h : Hs} {ρ : Rho} {G : FG} : ∀ {ps : List Nat} {ss : List SV} {vs : List Value} {tmS : List (Nat × SV)} {tm : List (Nat × Value)}, vs.length = ss.length → (∀ (j : Nat) s v, ss[j]? = some s → vs[j]? = some v → DenS ρ ⟨G, h.w0⟩ s v) → Gd c ⟨tmS, ob⟩ tm h ρ G → Gd c ⟨Go.Proofs.YtabmcfnefjipbaaGreatDoor.setP ps ss tmS, ob⟩ (Go.Proofs.YtabmcfnefjipbaaGreatDoor.setP ps vs tm) h ρ G
  | [], ss, vs, tmS, tm, _, _, g => by cases ss <;> cases vs <;> exact g
  | p :: ps, [], [], tmS, tm, _, _, g => g
  | p :: ps, [], _ :: _, tmS, tm, hl, _, g => by simp at hl
  | p :: ps, _ :: _, [], tmS, tm, hl, _, g => by simp at hl
  | p :: ps, s :: ss, v :: vs, tmS, tm, hl, hd, g => Gd.setP (ps := ps) (ss := ss) (vs := vs) (by simpa using hl) (fun j s v e1 e2 => hd (j + 1) s v (by simpa using e1) (by simpa using e2)) (g.put (hd 0 s v rfl rfl))
theorem Same.putObj {F : Nat → Prop} (w : World) {l : Nat} (o : Obj) (hl : ¬ F l) : Same F w (w.putObj l o) := ⟨rfl, rfl, rfl, by simp, fun b hb => World.putObj_heap_other fun e => hl (e ▸ hb)⟩
instance : PanicOk (fun _ _ _ => False) := ⟨fun _ _ _ _ _ h => h, fun ⟨_, _, h⟩ => h⟩
instance {P : Program} {l : Nat} {R : Ending → World → Prop} : PanicOk (roundPost P l R) := ⟨fun _ _ _ _ _ h => h, fun ⟨_, _, h⟩ => h⟩
/-- What a caller's objects are between two rounds: with the loop's record. -/
def rfφ (l : Nat) (rec : Loop) (G : FG) (w1 : World) (cs : List D) (us : List Value) (S : List (Nat × Ob)) (X : List (Nat × Hb)) : Prop :=
  ∃ (ρ : Rho) (fam : Nat → List Nat) (X1 : List (Nat × Hb)), X = (l, ⟨0, [], .l rec⟩) :: X1 ∧ Fam G ⟨G.on, fam, G.own⟩ ∧ ObsOk ρ ⟨⟨G.on, fam, G.own⟩, w1⟩ S X1 ∧ DenL ρ ⟨⟨G.on, fam, G.own⟩, w1⟩ cs us
/-- What is known at the loop's start, for all rounds. -/
structure Rst (zs : List Fz) (P : Program) (n : Nat) (rec : Loop) (G : FG) (w1 : World) (tmS : List (Nat × SV)) (pins : List (Nat × D)) (us : List Value) (tm : List (Nat × Value)) : Prop where
  zok : ∀ zt ∈ zs, Mz zt ⟨G, w1⟩
  rdy : rec.state = .ready
  pnd : rec.pending = none
  sz : Slt ⟨n, []⟩ tm { tmps := rec.tmps, defers := [] }
  pr : ∀ p ∈ rec.params.toList, p < n
  chk : chkP [] tmS = some pins
  nml : ∀ k s, lk k tmS = some s → nmlS s = true → ∃ (ρ : Rho) (v : Value), lk k tm = some v ∧ DenS ρ ⟨G, w1⟩ s v
  pin : ∀ (j : Nat) p u, pins[j]? = some p → us[j]? = some u → lk p.1 tm = some u
/-- The pins as an object. -/
abbrev pinOb (pins : List (Nat × D)) (us : List Value) (zb : Fz) : Ob := .ab (pins.map Prod.snd) us zb (· = [])
section
variable {P : Program} {T : List (Nat × Ty)} [hT : Tys P T]
/-- One round, by the code of the assignment and of the body. -/
theorem round_yields {zs : List Fz} {n l kp : Nat} {rec : Loop} {G : FG} {w1 : World} {tmS : List (Nat × SV)} {pins : List (Nat × D)} {us : List Value} {tm : List (Nat × Value)} {ss : List SV} {S S' : List (Nat × Ob)} (st : Rst zs P n rec G w1 tmS pins us tm) (hlen : ss.length = rec.params.toList.length) (hnm : ∀ s ∈ ss, NmS s) (hmf : MfObsZ zs S')
    (rnd : ∀ zb : Fz, vcC P T ⟨n, []⟩ (fun _ _ => False) rec.assign (vcC P T ⟨n, []⟩ (fun _ _ => False) rec.body (fun _ ob => ∃ src, LeO src ob ((kp, pinOb pins us zb) :: S')) (fun _ _ _ => False)) (fun _ _ _ => False) (setP rec.params.toList ss tmS) ((kp, pinOb pins us zb) :: S)) :
    YieldsA P l ss ⟨⟨G.on, G.fam, fun _ => False⟩, w1⟩ (rfφ l rec G w1 (pins.map Prod.snd) us S) (rfφ l rec G w1 (pins.map Prod.snd) us S') := by
  refine ⟨fun F w Gy ρy X vs hw hφ hz hGF hl hden => ?_⟩
  obtain ⟨ρx, fam, X1, rfl, hfam, hobs, hpin⟩ := hφ
  have hml : (l, (⟨0, [], .l rec⟩ : Hb)) ∈ ((l, (⟨0, [], .l rec⟩ : Hb)) :: X1) := List.mem_cons_self
  have hrec : w.heap[l]? = some (.loop rec) := (hw.blk l _ hml).2
  have hlF : ¬ F l := hw.out l _ hml
  have hnd := hw.nd
  rw [List.map_cons, List.nodup_cons] at hnd
  have hlX : ∀ x, (l, x) ∉ X1 := fun x hx => hnd.1 (List.mem_map.2 ⟨(l, x), hx, rfl⟩)
  have hps : vs.toArray.size = rec.params.size := by rw [List.size_toArray, hl, hlen]; simp
  obtain ⟨ck1, ck2⟩ := chkP_ok st.chk
  let zb : Fz := ⟨⟨G.on, G.fam, fun _ => False⟩, w1⟩
  let Fr : Nat → Prop := fun b => F b ∨ b = l
  let Gr : FG := ⟨Gy.on, fam, G.own⟩
  have hzr : Mz ⟨⟨G.on, fam, G.own⟩, w1⟩ ⟨Gr, w⟩ := ⟨hz.g, hz.w, fun _ _ _ h => h⟩
  have hz0 : Mz ⟨G, w1⟩ ⟨Gr, w⟩ := ⟨hz.g, hz.w, hfam.gr⟩
  have hzb : Mz zb ⟨Gr, w⟩ := ⟨hz.g, hz.w, hfam.gr⟩
  have hlt : l < w.heap.size := (Array.getElem?_eq_some_iff.1 hrec).1
  have hp0 : Hp ⟨Fr, w, X1⟩ w := ⟨Same.refl _ _, fun b hb => hb.elim (hw.inF b) fun e => e ▸ hlt, fun b x hx => hw.blk b x (List.mem_cons_of_mem _ hx), hnd.2, fun b x hx hb => hb.elim (hw.out b x (List.mem_cons_of_mem _ hx)) fun e => hlX x (e ▸ hx)⟩
  have g0 : Gd ⟨Fr, w, Gr⟩ ⟨tmS, (kp, pinOb pins us zb) :: S⟩ tm ⟨Fr, w, X1⟩ ρx Gr := by
    refine ⟨fun _ h => h, Same.refl _ _, fun b hb => .inl (hGF b hb), fun b hb => .inl hb, .refl _, fun k s hk => ?_, ⟨[], X1, rfl, ⟨rfl, hzb, ?_⟩, hobs.mono hzr .refl⟩⟩
    · rcases ck2 k s hk with hn | ⟨x, rfl, hm⟩
      · obtain ⟨ρ0, v, v1, v2⟩ := st.nml k s hk hn
        exact ⟨v, v1, v2.nml hz0 hn⟩
      · obtain ⟨j, hj⟩ := List.mem_iff_getElem?.1 hm
        have hj' : (pins.map Prod.snd)[j]? = some x := by rw [List.getElem?_map, hj]; rfl
        obtain ⟨u, u1, u2⟩ := hpin.get hj'
        exact ⟨u, st.pin j _ u hj u1, .d (u2.pin (ck1 _ hm).2.2)⟩
    · refine ⟨hpin.len, hpin.one, fun j d u e1 e2 => ?_⟩
      rw [List.getElem?_map] at e1
      cases hj : pins[j]? with
      | none => simp [hj] at e1
      | some p =>
        simp only [hj, Option.map_some, Option.some.injEq] at e1
        subst e1
        exact (hpin.den j _ u (by rw [List.getElem?_map, hj]; rfl) e2).pin (ck1 p (List.mem_of_getElem? hj)).2.2
  have g1 := Gd.setP (ps := rec.params.toList) hl (fun j s v e1 e2 => (hden j s v e1 e2).nm (z' := ⟨Gr, w⟩) rfl rfl (hnm s (List.mem_of_getElem? e1))) g0
  have hs1 := st.sz.setP (vs := vs) st.pr
  have hfold : (rec.params.zip vs.toArray).foldl (fun tmps (t, a) => tmps.setIfInBounds t a) rec.tmps = foldP rec.params.toList vs rec.tmps := by
    rw [← foldP_eq, ← Array.foldl_toList]
    simp
  refine ⟨rec.fn, _, rec.assign, rec.body, run_yield hrec hps, roundIn_of_wpIn trivial ?_⟩
  rw [hfold]
  refine (vcC_sound (T := T) (c := ⟨Fr, w, Gr⟩) (nt := ⟨n, []⟩) rec.assign _ _ _ _ _ ρx Gr _ ?_ (fun _ _ _ _ _ _ _ k => k.elim) (fun _ _ _ _ _ _ k => k.elim) g1 (rnd zb)).out _ w hs1 hp0 (some l)
  intro st1 tm1 h1 ρ1 G1 gg1 hk1
  refine ⟨fun a1 w1' ha1 hw1 => ?_⟩
  have hl1 : w1'.heap[l]? = some (.loop rec) := (hw1.same.block l (gg1.fF l (.inr rfl))).trans ((gg1.fw.block l (.inr rfl)).trans hrec)
  have hlt1 : l < w1'.heap.size := (Array.getElem?_eq_some_iff.1 hl1).1
  have hlo : ∀ x, (l, x) ∉ h1.hp := fun x hx => hw1.out l x hx (gg1.fF l (.inr rfl))
  have hlG : ¬ G1 l := fun hb => (gg1.gx l hb).elim (fun hb => hlF (hGF l hb)) fun hb => hb (.inr rfl)
  refine ⟨w1'.putObj l (.loop { rec with state := .busy }), run_beginRound hl1 st.rdy, ?_⟩
  obtain ⟨w2, hw2⟩ : ∃ w2, w1'.putObj l (.loop { rec with state := .busy }) = w2 := ⟨_, rfl⟩
  rw [hw2]
  have hoth : ∀ b, b ≠ l → w2.heap[b]? = w1'.heap[b]? := fun b hb => by rw [← hw2]; exact World.putObj_heap_other hb
  have hbusy : w2.heap[l]? = some (.loop { rec with state := .busy }) := by rw [← hw2]; exact World.putObj_heap_same hlt1
  have hsz2 : w2.heap.size = w1'.heap.size := by rw [← hw2]; simp
  have hm2 : Mz ⟨G1, h1.w0⟩ ⟨G1, w2⟩ := ⟨fun _ h => h, fun b hb => (hoth b fun e => hlG (e ▸ hb)).trans (hw1.same.block b (gg1.gF b hb)), fun _ _ _ h => h⟩
  have hp2 : Hp ⟨h1.F, w2, h1.hp⟩ w2 := ⟨Same.refl _ _, fun b hb => by rw [hsz2]; exact hw1.Flt hb, fun b x hx => (hw1.blk b x hx).of_block (hoth b fun e => hlo x (e ▸ hx)), hw1.nd, hw1.out⟩
  have gg2 : Gd ⟨Fr, w2, G1⟩ st1 tm1 ⟨h1.F, w2, h1.hp⟩ ρ1 G1 := ⟨gg1.fF, Same.refl _ _, gg1.gF, fun b hb => .inl hb, .refl _, fun k s hk => let ⟨v, v1, v2⟩ := gg1.tm k s hk; ⟨v, v1, v2.mono hm2 .refl⟩, gg1.ob.mono hm2 .refl⟩
  refine (vcC_sound (T := T) (c := ⟨Fr, w2, G1⟩) (nt := ⟨n, []⟩) rec.body _ _ _ _ _ ρ1 G1 _ ?_ (fun _ _ _ _ _ _ _ k => k.elim) (fun _ _ _ _ _ _ k => k.elim) gg2 hk1).out a1 w2 ha1 hp2 (some l)
  intro st2 tm2 h2 ρ2 G2 gg3 hk3
  obtain ⟨src, hle⟩ := hk3
  obtain ⟨F3, w03, hp3⟩ := h2
  obtain ⟨hp', hh, gg4⟩ := gg3.leF (S := ⟨[], (kp, pinOb pins us zb) :: S'⟩) ⟨.nil, hle⟩
  refine ⟨fun a3 w3 ha3 hw3' => ?_⟩
  have hw3 := hh w3 hw3'
  obtain ⟨X0, hpS, e0, ⟨q1, q2, q3⟩, q4⟩ := gg4.ob
  have q1' : X0 = [] := q1
  subst q1'
  have e0' : hp' = hpS := e0
  subst e0'
  have hl3 : w3.heap[l]? = some (.loop { rec with state := .busy }) := (hw3.same.block l (gg4.fF l (.inr rfl))).trans ((gg4.fw.block l (.inr rfl)).trans hbusy)
  have hlt3 : l < w3.heap.size := (Array.getElem?_eq_some_iff.1 hl3).1
  have hlo3 : ∀ x, (l, x) ∉ hp' := fun x hx => hw3.out l x hx (gg4.fF l (.inr rfl))
  have hend := run_endRound (P := P) none hl3
  have hre : ({ { rec with state := .busy } with state := if (none : Option Code).isNone then .ready else .done, pending := none } : Loop) = rec := by
    have e1 := st.rdy
    have e2 := st.pnd
    obtain ⟨s, p, f, t, pa, asg, bo, df⟩ := rec
    simp only at e1 e2
    subst e1 e2
    rfl
  rw [hre] at hend
  refine ⟨_, _, hend, rfl, (l, ⟨0, [], .l rec⟩) :: hp', ⟨srcR src ρ2, G2.fam, hp', rfl, ?_, ?_, ?_⟩, ?_⟩
  · refine ⟨rfl, fun k hk => ?_, fun k i b hb => gg4.fm.gr k i b (gg1.fm.gr k i b (hfam.gr k i b hb))⟩
    have e1 : G2.fam k = G1.fam k := gg4.fm.eq k (by show ¬ G1.own k; rw [gg1.fm.own]; exact hk)
    have e2 : G1.fam k = fam k := gg1.fm.eq k hk
    exact e1.trans (e2.trans (hfam.eq k hk))
  · refine q4.mfA (z := ⟨G2, w03⟩) (z' := ⟨⟨G.on, G2.fam, G.own⟩, w1⟩) (fun zt hzt => (st.zok zt hzt).trans ⟨fun _ h => h, fun _ _ => rfl, ?_⟩) rfl ?_ hmf
    · exact fun k i b hb => gg4.fm.gr k i b (gg1.fm.gr k i b (hfam.gr k i b hb))
    show G.own = G2.own
    rw [gg4.fm.own]
    exact gg1.fm.own.symm
  · refine ⟨q3.len, q3.one, fun j d u e1 e2 => ?_⟩
    rw [List.getElem?_map] at e1
    cases hj : pins[j]? with
    | none => simp [hj] at e1
    | some p =>
      simp only [hj, Option.map_some, Option.some.injEq] at e1
      subst e1
      exact (q3.den j _ u (by rw [List.getElem?_map, hj]; rfl) e2).pin (ck1 p (List.mem_of_getElem? hj)).2.2
  · have s1 : Same F w w1' := (gg1.fw.trans (hw1.same.mono gg1.fF)).mono fun b hb => .inl hb
    have s2 : Same F w1' w2 := by rw [← hw2]; exact Same.putObj w1' _ hlF
    have s3 : Same F w2 w3 := (gg4.fw.trans (hw3.same.mono gg4.fF)).mono fun b hb => .inl hb
    refine ⟨((s1.trans s2).trans s3).trans (Same.putObj w3 _ hlF), hw.inF, fun b x hx => ?_, ?_, fun b x hx hb => ?_⟩
    · rcases List.mem_cons.1 hx with hx | hx
      · cases hx; exact ⟨rfl, World.putObj_heap_same hlt3⟩
      · exact (hw3.blk b x hx).of_block (World.putObj_heap_other fun e => hlo3 x (e ▸ hx))
    · rw [List.map_cons, List.nodup_cons]
      exact ⟨fun hm => by obtain ⟨⟨_, x⟩, hx, rfl⟩ := List.mem_map.1 hm; exact hlo3 x hx, hw3.nd⟩
    · rcases List.mem_cons.1 hx with hx | hx
      · cases hx; exact hlF hb
      · exact hw3.out b x hx (gg4.fF b (.inl hb))
end
end Go.Proofs.YtabmcfnefjipbaaGreatDoor
namespace Go.Proofs.YtabmcfnefjipbaaGreatDoor
open Go.RowKit
/-- The mark that a loop leaves among the deferred calls. -/
abbrev markD (D : Nat) : Deferred := { target := .collected D, args := #[] }
/-- Behind the loop: the block for deferred calls is to stay. -/
structure CxD (c : Cx) (D : Nat) (c' : Cx) : Prop where
  F : ∀ b, c'.F b ↔ c.F b ∨ b = D
  nF : ¬ c.F D
  nG : ¬ c.G D
  G : c'.G = c.G
  df : c'.w.heap[D]? = some (.deferred (some []))
  same : Same c.F c.w c'.w
/-- Code, one after the other. -/
def runs (F : Fence) (n : Nat) (P : Program) : List Code → (Exit → Act → World → Prop) → Act → World → Prop
  | [], Q, a, w => Q .normal a w
  | b :: bs, Q, a, w => b.wpIn F n P (Exit.then (runs F n P bs Q) Q) a w
theorem runs_seq {F : Fence} {n : Nat} {P : Program} {x y : Code} {bs : List Code} {Q : Exit → Act → World → Prop} {a : Act} {w : World} (h : runs F n P (x :: y :: bs) Q a w) : runs F n P (.seq x y :: bs) Q a w := by
  refine wpIn_seq (wpIn_mono h fun e a w hq => ?_)
  cases e <;> exact hq
/-- A loop over a function, by what it is for the walk. -/
structure Rf (P : Program) (T : List (Nat × Ty)) (n : Nat) (g : Operand) (ps : Array Tmp) (assign body : Code) (KB : Nat → Kt) (tmT : List (Nat × SV)) (ob : List (Nat × Ob)) : Prop where
  out : ∃ (ι : Type) (Φ : ι → Prop) (Fin : ι → Prop) (Arg : ι → List SV → Prop) (nx : ι → List SV → ι) (S : ι → List (Nat × Ob)) (x0 : ι) (tmS : List (Nat × SV)) (pins : List (Nat × D)) (src : Src) (f : FuncId) (ks : List SV) (kp : Nat) (zs : List Fz),
    Φ x0 ∧ (∀ zt ∈ zs, ∃ k φ, lk k (S x0) = some (.ab [] [] zt φ)) ∧ LeSt src ⟨tmT, ob⟩ ⟨tmS, S x0⟩ ∧ chkP [] tmS = some pins ∧ fnT (evT tmS g) = some (f, ks) ∧ (∀ s ∈ ks, nmlS s = true) ∧ (ps.toList.all fun p => Nat.blt p n) = true ∧
    (∀ x, Φ x → MfObsZ zs (S x)) ∧ (∀ x ss, Φ x → Arg x ss → Φ (nx x ss) ∧ ss.length = ps.toList.length ∧ ∀ s ∈ ss, NmS s) ∧
    (∀ x ss, Φ x → Arg x ss → ∀ (us : List Value) (zb : Fz), vcC P T ⟨n, []⟩ (fun _ _ => False) assign (vcC P T ⟨n, []⟩ (fun _ _ => False) body (fun _ ob => ∃ src, LeO src ob ((kp, pinOb pins us zb) :: S (nx x ss))) (fun _ _ _ => False)) (fun _ _ _ => False) (setP ps.toList ss tmS) ((kp, pinOb pins us zb) :: S x)) ∧
    (∀ (l : Nat) (zb : Fz) (φ : ι → List (Nat × Hb) → Prop), (∀ x ss, Φ x → Arg x ss → YieldsA P l ss zb (φ x) (φ (nx x ss))) → CallsA P f (yv l :: ks) [(900, .ab [] [] zb (φ x0))] fun _ ob => ∃ x, Φ x ∧ Fin x ∧ ob = [(900, .ab [] [] zb (φ x))]) ∧
    ∀ x, Φ x → Fin x → ∀ D, KB D tmS (S x)
/-- Code with one such loop. -/
def vcHL (P : Program) (T : List (Nat × Ty)) (nt : Nt) (Kr : Kt) (KL : Operand → Array Tmp → Code → Code → List Code → Kt) (Kn : Kt) : Nat → List Code → Kt
  | 0, _ => fun _ _ => False
  | _ + 1, [] => Kn
  | f + 1, .seq x y :: r => vcHL P T nt Kr KL Kn f (x :: y :: r)
  | _ + 1, .block _ (.rangeFunc g ps asg bd) :: r => KL g ps asg bd r
  | f + 1, c :: r => vcC P T nt Kr c (vcHL P T nt Kr KL Kn f r) (fun _ _ _ => False)
/-- Only the normal way out. -/
def onlyN (K : Act → World → Prop) : Exit → Act → World → Prop
  | .normal, a, w => K a w
  | _, _, _ => False
section
variable {P : Program} {T : List (Nat × Ty)} [hT : Tys P T]
/-- The statement. -/
theorem rf_wp {n : Nat} {gop : Operand} {ps : Array Tmp} {assign body : Code} {KB : Nat → Kt} {c : Cx} {st : St} {tm : List (Nat × Value)} {h : Hs} {ρ : Rho} {G : FG} {R : Act → World → Prop} (hcG : ∀ b, c.G b → c.F b) (g : Gd c st tm h ρ G) (k : Rf P T n gop ps assign body KB st.tm st.ob)
    (hR : ∀ D c' st' tm' h' ρ' G', CxD c D c' → Gd c' st' tm' h' ρ' G' → KB D st'.tm st'.ob → ∀ a w, Slt ⟨n, [markD D]⟩ tm' a → Hp h' w → R a w) :
    ∀ a w, Slt ⟨n, []⟩ tm a → Hp h w → (Code.rangeFunc gop ps assign body).wpIn (RF none) 0 P (onlyN R) a w := by
  intro a w ha hw0
  obtain ⟨ι, Φ, Fin, Arg, nx, S, x0, tmS, pins, src, f, ks, kp, zs, k1, kz, k2, k3, k4, k5, k6, k7, k8, k9, k10, k11⟩ := k.out
  obtain ⟨h0, hh, g⟩ := g.le k2
  have hw := hh w hw0
  clear hh hw0
  obtain ⟨ck1, ck2⟩ := chkP_ok k3
  refine wpIn_rangeFunc fun fnid _ => ?_
  obtain ⟨us0, e1, e2, e3⟩ := fnT_ev g k4
  have hev : a.eval gop = .func (.func f) #[] us0.toArray := ha.ev e1
  obtain ⟨W1, hW1⟩ : ∃ W1, (w.alloc (.deferred (some []))).alloc (.loop { state := .ready, pending := none, fn := fnid, tmps := a.tmps, params := ps, assign, body, defers := w.heap.size }) = W1 := ⟨_, rfl⟩
  obtain ⟨rec, hrec⟩ : ∃ rec : Loop, rec = { state := .ready, pending := none, fn := fnid, tmps := a.tmps, params := ps, assign, body, defers := w.heap.size } := ⟨_, rfl⟩
  have hL1 : W1.heap[w.heap.size + 1]? = some (.loop rec) := by
    rw [← hW1, hrec]; have := World.alloc_heap_new (w.alloc (.deferred (some []))) (.loop { state := .ready, pending := none, fn := fnid, tmps := a.tmps, params := ps, assign, body, defers := w.heap.size }); rwa [World.size_alloc] at this
  have hD1 : W1.heap[w.heap.size]? = some (.deferred (some [])) := by
    rw [← hW1]; exact (Below.heap_alloc _ _ _ (by simp)).trans (World.alloc_heap_new w _)
  have hb1 : Below w.heap.size w W1 := by rw [← hW1]; exact ((Below.refl _ w).alloc (Nat.le_refl _) _).alloc (by simp) _
  have hsz1 : W1.heap.size = w.heap.size + 2 := by rw [← hW1]; simp
  have hold : ∀ b, b < w.heap.size → W1.heap[b]? = w.heap[b]? := fun b hb => hb1.block b hb
  have hwW : Hp h0 W1 := hw.below hb1
  obtain ⟨fn, cd, fn1, fn2, fn3⟩ := (k10 0 ⟨⟨fun _ => False, fun _ => [], fun _ => False⟩, w⟩ (fun _ _ => False) (fun x ss h1 h2 => ⟨fun F w G ρ X vs _ hf => hf.elim⟩)).fn
  have hcall : ∀ (args : Array Value) (w : World), (callFunc f args).run P w = .ok (.enter f args) w := fun args w => by
    have hnm' : ¬ fn.name = "runtime.NumGoroutine" := by simpa using fn3
    simp [callFunc, fn1, fn2, hnm']
  refine ⟨w.heap.size + 1, [markD w.heap.size], W1, { target := .fn (.func f) us0.toArray, args := #[.func (.yield (w.heap.size + 1)) #[] #[]] }, W1, f, #[.func (.yield (w.heap.size + 1)) #[] #[]] ++ us0.toArray, W1, ?_, ?_, fun _ _ => trivial, ?_, fun h0 => (by cases h0), ?_⟩
  · rw [← hW1]; exact run_enterLoop_outer _ _ _ _ _
  · simp only [resolve, hev]
    simp [go_sem]
  · simp [invoke, go_sem, hcall]
  · refine calls_RF ?_
    have hzG : ∀ b, G b → b < w.heap.size := fun b hb => hw.Flt (g.gF b hb)
    let zb : Fz := ⟨⟨G.on, G.fam, fun _ => False⟩, W1⟩
    have hm1 : Mz ⟨G, h0.w0⟩ ⟨G, W1⟩ := ⟨fun _ h => h, fun b hb => (hold b (hzG b hb)).trans (hw.same.block b (g.gF b hb)), fun _ _ _ h => h⟩
    have hmz : Mz ⟨G, h0.w0⟩ zb := ⟨hm1.g, hm1.w, fun _ _ _ h => h⟩
    obtain ⟨us, u1, u2⟩ := pins_get g.tm (l := pins) fun p hp => (ck1 p hp).2.1
    have hrst : Rst zs P n rec G W1 tmS pins us tm := by
      subst hrec
      refine ⟨fun zt hzt => ?_, rfl, rfl, ⟨rfl, ha.sz, ha.tm⟩, fun p hp => ?_, k3, fun k s hk hn => ?_, u2⟩
      · obtain ⟨k, φ, hk⟩ := kz zt hzt
        obtain ⟨X, f, ⟨_, hm, _⟩, _⟩ := g.ob.at_ hk
        exact hm.trans hm1
      · have := List.all_eq_true.1 k6 p hp
        simpa using this
      · obtain ⟨v, v1, v2⟩ := g.tm k s hk
        exact ⟨srcR src ρ, v, v1, v2.mono hm1 .refl⟩
    have hpar : rec.params = ps := by rw [hrec]
    have hY : ∀ x ss, Φ x → Arg x ss → YieldsA P (w.heap.size + 1) ss zb (rfφ (w.heap.size + 1) rec G W1 (pins.map Prod.snd) us (S x)) (rfφ (w.heap.size + 1) rec G W1 (pins.map Prod.snd) us (S (nx x ss))) := fun x ss hx ha => by
      obtain ⟨q1, q2, q3⟩ := k8 x ss hx ha
      refine round_yields (T := T) (kp := kp) hrst (by rw [hpar]; exact q2) q3 (k7 _ q1) fun zb => ?_
      have := k9 x ss hx ha us zb
      rw [hrec]
      exact this
    have hc := k10 (w.heap.size + 1) zb (fun x => rfφ (w.heap.size + 1) rec G W1 (pins.map Prod.snd) us (S x)) hY
    have hwf : ∀ x, (w.heap.size + 1, x) ∉ h0.hp := fun x hx => by
      have := (hw.blk _ x hx).lt
      omega
    have hφ0 : rfφ (w.heap.size + 1) rec G W1 (pins.map Prod.snd) us (S x0) ((w.heap.size + 1, ⟨0, [], .l rec⟩) :: h0.hp) := ⟨_, G.fam, h0.hp, rfl, .refl _, g.ob.mono hm1 .refl, u1.mono hm1 .refl⟩
    have hargs : (#[Value.func (.yield (w.heap.size + 1)) #[] #[]] ++ us0.toArray : Array Value) = (Value.func (.yield (w.heap.size + 1)) #[] #[] :: us0).toArray := by simp
    rw [hargs]
    have hob0 : ObsOk (srcR src ρ) ⟨⟨G.on, G.fam, fun _ => False⟩, W1⟩ [(900, .ab [] [] zb (rfφ (w.heap.size + 1) rec G W1 (pins.map Prod.snd) us (S x0)))] ((w.heap.size + 1, ⟨0, [], .l rec⟩) :: h0.hp) := ⟨_, [], (List.append_nil _).symm, ⟨hφ0, .refl, .nil⟩, rfl⟩
    have hout := hc.out ⟨fun b => h0.F b ∨ b = w.heap.size, W1, ⟨G.on, G.fam, fun _ => False⟩⟩ (srcR src ρ) ((w.heap.size + 1, ⟨0, [], .l rec⟩) :: h0.hp) (.func (.yield (w.heap.size + 1)) #[] #[] :: us0) W1
    refine (hout ⟨Same.refl _ _, fun b hb => ?_, fun b x hx => ?_, ?_, fun b x hx hb => ?_⟩ (by simp [e2]) ⟨fun _ h => h, Same.refl _ _, fun b hb => .inl (g.gF b hb), fun b hb => .inl hb, .refl _, fun k s hk => ?_, hob0⟩).mono ?_
    · rcases hb with hb | hb
      · have := hw.Flt hb; rw [hsz1]; omega
      · rw [hsz1, hb]; omega
    · rcases List.mem_cons.1 hx with hx | hx
      · cases hx; exact ⟨rfl, hL1⟩
      · exact hwW.blk b x hx
    · rw [List.map_cons, List.nodup_cons]
      exact ⟨fun hm => by obtain ⟨⟨_, x⟩, hx, hxe⟩ := List.mem_map.1 hm; dsimp only at hxe; subst hxe; exact hwf x hx, hw.nd⟩
    · rcases List.mem_cons.1 hx with hx | hx
      · cases hx
        rcases hb with hb | hb
        · have := hw.Flt hb; omega
        · omega
      · rcases hb with hb | hb
        · exact hw.out b x hx hb
        · subst hb; have := (hw.blk _ x hx).lt; omega
    · obtain ⟨q1, q2⟩ := lk_slT hk
      cases hk0 : k - 0 with
      | zero =>
        rw [hk0] at q2
        simp at q2
        subst q2
        exact ⟨_, lk_slots q1 (by rw [hk0]; rfl), .d (.u (.v rfl))⟩
      | succ j =>
        rw [hk0] at q2
        have q2' : ks[j]? = some s := by simpa using q2
        have hlt : j < us0.length := by rw [e2]; exact (List.getElem?_eq_some_iff.1 q2').1
        refine ⟨us0[j], lk_slots q1 (by rw [hk0]; simp [List.getElem?_eq_getElem hlt]), (e3 j s _ q2' (List.getElem?_eq_getElem hlt)).nml hmz (k5 s (List.mem_of_getElem? q2'))⟩
    · rintro e w' ⟨v, h', s, ob', ρ', G', rfl, hw', g', x, hΦ, hFin, rfl⟩
      obtain ⟨X, hp'', ee, ⟨q1, q2, q3⟩, q4⟩ := g'.ob
      have q4' : hp'' = [] := q4
      subst q4'
      rw [List.append_nil] at ee
      obtain ⟨ρx, fam, X1, rfl, hfam, hobs, hpin⟩ := q1
      have hl' : w'.heap[w.heap.size + 1]? = some (.loop rec) := (hw'.blk (w.heap.size + 1) ⟨0, [], .l rec⟩ (by rw [ee]; exact List.mem_cons_self)).2
      have hlt' : w.heap.size + 1 < w'.heap.size := (Array.getElem?_eq_some_iff.1 hl').1
      have hst : rec.state = .ready := by rw [hrec]
      have hpd : rec.pending = none := by rw [hrec]
      have hend := run_endLoop (P := P) hl' (by rw [hst]; simp)
      rw [hpd] at hend
      refine ⟨none, _, hend, ?_⟩
      obtain ⟨w4, hw4⟩ : ∃ w4, w'.putObj (w.heap.size + 1) (.loop { rec with state := .exhausted }) = w4 := ⟨_, rfl⟩
      rw [hpd] at hw4
      rw [hw4]
      have hoth : ∀ b, b ≠ w.heap.size + 1 → w4.heap[b]? = w'.heap[b]? := fun b hb => by rw [← hw4]; exact World.putObj_heap_other hb
      have hsz4 : w4.heap.size = w'.heap.size := by rw [← hw4]; simp
      have hkF : ∀ b, h0.F b ∨ b = w.heap.size → w4.heap[b]? = W1.heap[b]? := fun b hb => by
        have hne : b ≠ w.heap.size + 1 := by rcases hb with hb | hb; · have := hw.Flt hb; omega
                                             · omega
        exact (hoth b hne).trans ((hw'.same.block b (g'.fF b hb)).trans (g'.fw.block b hb))
      have hkG : ∀ b, G b → w4.heap[b]? = W1.heap[b]? := fun b hb => hkF b (.inl (g.gF b hb))
      have hlX : ∀ y, (w.heap.size + 1, y) ∉ X1 := fun y hy => by
        have hnd := hw'.nd
        rw [ee, List.map_cons, List.nodup_cons] at hnd
        exact hnd.1 (List.mem_map.2 ⟨_, hy, rfl⟩)
      have hm4 : Mz ⟨G, h0.w0⟩ ⟨⟨G.on, fam, G.own⟩, w4⟩ := ⟨fun _ h => h, fun b hb => (hkG b hb).trans (hm1.w b hb), hfam.gr⟩
      have hm5 : Mz ⟨⟨G.on, fam, G.own⟩, W1⟩ ⟨⟨G.on, fam, G.own⟩, w4⟩ := ⟨fun _ h => h, fun b hb => hkG b hb, fun _ _ _ h => h⟩
      have hncD : ¬ c.F w.heap.size := fun hb => by have := hw.Flt (g.fF _ hb); omega
      have hnd4 := hw'.nd
      rw [ee, List.map_cons, List.nodup_cons] at hnd4
      refine hR w.heap.size ⟨fun b => c.F b ∨ b = w.heap.size, w4, c.G⟩ ⟨tmS, S x⟩ tm ⟨fun b => h0.F b ∨ b = w.heap.size, w4, X1⟩ ρx ⟨G.on, fam, G.own⟩ ⟨fun b => Iff.rfl, hncD, fun hb => hncD (hcG _ hb), rfl, ?_, ?_⟩ ⟨fun b hb => hb.imp (g.fF b) id, Same.refl _ _, fun b hb => .inl (g.gF b hb), fun b hb => ?_, g.fm.trans hfam, fun k s hk => ?_, hobs.mono hm5 .refl⟩ (k11 x hΦ hFin w.heap.size) _ _ ⟨by show [markD w.heap.size] ++ a.defers = _; rw [ha.df]; rfl, ha.sz, ha.tm⟩ ⟨Same.refl _ _, fun b hb => ?_, fun b y hy => ?_, hnd4.2, fun b y hy hb => ?_⟩
      · exact (hkF _ (.inr rfl)).trans hD1
      · have s1 : Same c.F c.w w := g.fw.trans (hw.same.mono g.fF)
        have s2 : Same c.F w W1 := Same.of_below hb1 fun b hb => hw.Flt (g.fF b hb)
        have s3 : Same c.F W1 w' := (g'.fw.trans (hw'.same.mono g'.fF)).mono fun b hb => .inl (g.fF b hb)
        have s4 : Same c.F w' w4 := by
          rw [← hw4]
          exact Same.putObj w' _ fun hb => by have := hw.Flt (g.fF _ hb); omega
        exact ((s1.trans s2).trans s3).trans s4
      · rcases g.gx b hb with hb' | hb'
        · exact .inl hb'
        · refine .inr fun hq => hq.elim hb' fun e => ?_
          have := hzG b hb
          omega
      · rcases ck2 k s hk with hn | ⟨y, rfl, hm⟩
        · obtain ⟨v, v1, v2⟩ := g.tm k s hk
          exact ⟨v, v1, v2.nml hm4 hn⟩
        · obtain ⟨j, hj⟩ := List.mem_iff_getElem?.1 hm
          have hj' : (pins.map Prod.snd)[j]? = some y := by rw [List.getElem?_map, hj]; rfl
          obtain ⟨u, y1, y2⟩ := hpin.get hj'
          exact ⟨u, u2 j _ u hj y1, .d (y2.pin (ck1 _ hm).2.2)⟩
      · rw [hsz4]
        rcases hb with hb | hb
        · have := hw.Flt hb; omega
        · omega
      · exact (hw'.blk b y (by rw [ee]; exact List.mem_cons_of_mem _ hy)).of_block (hoth b fun e => hlX y (e ▸ hy))
      · exact hw'.out b y (by rw [ee]; exact List.mem_cons_of_mem _ hy) (g'.fF b hb)
/-- What is asked at the function's end, its marks and all. -/
def bodyQ (P : Program) (fn : Func) (R : Ending → World → Prop) : Exit → Act → World → Prop
  | .normal, a, w => LeavesInM (RF none) 0 P fn a.tmps R a.defers .returning w
  | .ret, a, w => LeavesInM (RF none) 0 P fn a.tmps R a.defers .returning w
  | _, _, _ => False
instance {P : Program} {fn : Func} {R : Ending → World → Prop} : PanicOk (bodyQ P fn R) := ⟨fun _ _ _ _ _ h => h, fun ⟨_, _, h⟩ => h⟩
theorem vcHL_sound {n : Nat} {nd : List Deferred} {Kr : Kt} {KL : Operand → Array Tmp → Code → Code → List Code → Kt} {Kn : Kt} {c : Cx} {Q : Exit → Act → World → Prop} [PanicOk Q] (hn : ∀ st tm h ρ G, Gd c st tm h ρ G → Kn st.tm st.ob → ∀ a w, Slt ⟨n, nd⟩ tm a → Hp h w → Q .normal a w) (hr : ∀ st tm h ρ G, Gd c st tm h ρ G → Kr st.tm st.ob → AWq ⟨n, nd⟩ Q .ret tm h)
    (hL : ∀ i g ps asg bd r st tm h ρ G, Gd c st tm h ρ G → KL g ps asg bd r st.tm st.ob → ∀ a w, Slt ⟨n, nd⟩ tm a → Hp h w → runs (RF none) 0 P (.block i (.rangeFunc g ps asg bd) :: r) Q a w) :
    ∀ (f : Nat) (l : List Code) (st : St) (tm : List (Nat × Value)) (h : Hs) (ρ : Rho) (G : FG), Gd c st tm h ρ G → vcHL P T ⟨n, nd⟩ Kr KL Kn f l st.tm st.ob → ∀ a w, Slt ⟨n, nd⟩ tm a → Hp h w → runs (RF none) 0 P l Q a w := by
  have gen : ∀ (f : Nat) (cd : Code) (r : List Code), (∀ (st : St) (tm : List (Nat × Value)) (h : Hs) (ρ : Rho) (G : FG), Gd c st tm h ρ G → vcHL P T ⟨n, nd⟩ Kr KL Kn f r st.tm st.ob → ∀ a w, Slt ⟨n, nd⟩ tm a → Hp h w → runs (RF none) 0 P r Q a w) → ∀ (st : St) (tm : List (Nat × Value)) (h : Hs) (ρ : Rho) (G : FG), Gd c st tm h ρ G → vcC P T ⟨n, nd⟩ Kr cd (vcHL P T ⟨n, nd⟩ Kr KL Kn f r) (fun _ _ _ => False) st.tm st.ob → ∀ a w, Slt ⟨n, nd⟩ tm a → Hp h w → runs (RF none) 0 P (cd :: r) Q a w := by
    intro f cd r ih st tm h ρ G g k a w ha hw
    refine (vcC_sound (T := T) (c := c) (nt := ⟨n, nd⟩) cd _ _ _ _ _ ρ G (Exit.then (runs (RF none) 0 P r Q) Q) (fun st tm h ρ G g k => ⟨fun a w ha hw => ih st tm h ρ G g k a w ha hw⟩) (fun _ _ _ _ _ _ _ k => k.elim) (fun st tm h ρ G g k => ⟨fun a w ha hw => (hr st tm h ρ G g k).out a w ha hw⟩) g k).out a w ha hw none
  intro f
  induction f with
  | zero => intro l st tm h ρ G g k; exact k.elim
  | succ f ih =>
    intro l st tm h ρ G g k a w ha hw
    cases l with
    | nil => exact hn st tm h ρ G g k a w ha hw
    | cons x r =>
      have gn := fun k => gen f x r (ih r) st tm h ρ G g k a w ha hw
      cases x with
      | seq x y => exact runs_seq (ih (x :: y :: r) st tm h ρ G g k a w ha hw)
      | block i y => cases y <;> first | exact hL _ _ _ _ _ _ st tm h ρ G g k a w ha hw | exact gn k
      | _ => exact gn k
/-- Leaving. -/
structure KrOk (P : Program) (fn : Func) (Kr : Kt) (Q : SV → List (Nat × Ob) → Prop) : Prop where
  out : ∀ (nt : Nt) (c : Cx) (st : St) (tm : List (Nat × Value)) (h : Hs) (ρ : Rho) (G : FG), Gd c st tm h ρ G → Kr st.tm st.ob → ∀ (a : Act) w, Slt nt tm a → Hp h w → a.defers = nt.d ∧ ∃ v, (results fn a.tmps).run P w = .ok v w ∧ Ans c Q (.returned v) w
/-- .. behind the loop. -/
theorem leave_mark {n D : Nat} {fn : Func} {Kr : Kt} {Q : SV → List (Nat × Ob) → Prop} (hk : KrOk P fn Kr Q) {c c' : Cx} {st : St} {tm : List (Nat × Value)} {h : Hs} {ρ : Rho} {G : FG} (hx : CxD c D c') (g : Gd c' st tm h ρ G) (k : Kr st.tm st.ob) (a : Act) (w : World) (ha : Slt ⟨n, [markD D]⟩ tm a) (hw : Hp h w) : LeavesInM (RF none) 0 P fn a.tmps (Ans c Q) a.defers .returning w := by
  have hFD : h.F D := g.fF D ((hx.F D).2 (.inr rfl))
  have hD : w.heap[D]? = some (.deferred (some [])) := (hw.same.block D hFD).trans ((g.fw.block D ((hx.F D).2 (.inr rfl))).trans hx.df)
  have hGD : ¬ G D := fun hb => (g.gx D hb).elim (fun hb => hx.nG (hx.G ▸ hb)) fun hb => hb ((hx.F D).2 (.inr rfl))
  obtain ⟨w2, hw2⟩ : ∃ w2, w.putObj D (.deferred none) = w2 := ⟨_, rfl⟩
  have htake := run_takeDeferred (P := P) hD
  rw [hw2] at htake
  have hoth : ∀ b, b ≠ D → w2.heap[b]? = w.heap[b]? := fun b hb => by rw [← hw2]; exact World.putObj_heap_other hb
  have hsz : w2.heap.size = w.heap.size := by rw [← hw2]; simp
  have hm : Mz ⟨G, h.w0⟩ ⟨G, w2⟩ := ⟨fun _ h => h, fun b hb => (hoth b fun e => hGD (e ▸ hb)).trans (hw.same.block b (g.gF b hb)), fun _ _ _ h => h⟩
  have s0 : Same c.F w w2 := by rw [← hw2]; exact Same.putObj w _ hx.nF
  have g2 : Gd c st tm ⟨fun b => h.F b ∧ b ≠ D, w2, h.hp⟩ ρ G := by
    refine ⟨fun b hb => ⟨g.fF b ((hx.F b).2 (.inl hb)), fun e => hx.nF (e ▸ hb)⟩, ?_, fun b hb => ⟨g.gF b hb, fun e => hGD (e ▸ hb)⟩, fun b hb => ?_, ?_, fun k s hk => ?_, g.ob.mono hm .refl⟩
    · have s1 : Same c.F c.w c'.w := hx.same
      have s2 : Same c.F c'.w h.w0 := g.fw.mono fun b hb => (hx.F b).2 (.inl hb)
      have s3 : Same c.F h.w0 w := hw.same.mono fun b hb => g.fF b ((hx.F b).2 (.inl hb))
      exact ((s1.trans s2).trans s3).trans s0
    · rcases g.gx b hb with q | q
      · exact .inl (hx.G ▸ q)
      · exact .inr fun hc => q ((hx.F b).2 (.inl hc))
    · have := g.fm
      rwa [hx.G] at this
    · obtain ⟨v, v1, v2⟩ := g.tm k s hk
      exact ⟨v, v1, v2.mono hm .refl⟩
  have hw3 : Hp ⟨fun b => h.F b ∧ b ≠ D, w2, h.hp⟩ w2 := ⟨Same.refl _ _, fun b hb => by rw [hsz]; exact hw.Flt hb.1, fun b x hx => (hw.blk b x hx).of_block (hoth b fun e => hw.out b x hx (e ▸ hFD)), hw.nd, fun b x hx hb => hw.out b x hx hb.1⟩
  obtain ⟨q1, v, q2, q3⟩ := hk.out ⟨n, [markD D]⟩ c st tm _ ρ G g2 k a w2 ha hw3
  rw [q1]
  exact ⟨by simp, .inl ⟨D, w2, rfl, htake, v, q2, q3⟩⟩
/-- A contract of a function with a range over a function. -/
theorem callsA_of_rfK {n : Nat} {f : FuncId} {fn : Func} {cd : Code} {ss : List SV} {ob : List (Nat × Ob)} {Q : SV → List (Nat × Ob) → Prop} (Kr : Kt) (hK : KrOk P fn Kr Q) (hf : P.funcs[f]? = some fn) (hb : fn.body = some cd) (hnm : (fn.name == "runtime.NumGoroutine") = false) (hn : fn.ntmps = n) (hv : Nat.ble ss.length n = true)
    (k : vcHL P T ⟨n, []⟩ Kr (fun g ps asg bd r => Rf P T n g ps asg bd fun D => vcHL P T ⟨n, [markD D]⟩ Kr (fun _ _ _ _ _ _ _ => False) Kr 1000 r) Kr 1000 [cd] (slT 0 ss) ob) : CallsA P f ss ob Q := by
  refine ⟨⟨fn, cd, hf, hb, hnm⟩, fun c ρ hp vs w hw hl g => ?_⟩
  have hcG : ∀ b, c.G b → c.F b := g.gF
  have hle : vs.length ≤ n := by rw [hl]; simpa using hv
  refine (callsIn_wide (n := 0)).1 (show CallsIn (RF none) 0 P f vs.toArray w (Ans c Q) from ?_)
  refine callsIn_of_wp_marks hf hb trivial ?_
  have hs : Slt ⟨n, []⟩ (slots 0 vs) { tmps := vs.toArray ++ Array.replicate (fn.ntmps - vs.toArray.size) undef, defers := [] } := by
    refine ⟨rfl, ?_, ?_⟩
    · simp [hn]; omega
    · intro j v hj
      obtain ⟨_, h2⟩ := slots_lk vs 0 j v hj
      have hlt : j < vs.length := by
        rcases Nat.lt_or_ge j vs.length with h' | h'
        · exact h'
        · rw [Nat.sub_zero, List.getElem?_eq_none h'] at h2; cases h2
      rw [Nat.sub_zero] at h2
      simp [hlt, hn] at h2 ⊢
      rw [← h2]
      simp [Array.getElem?_append, hlt]
  have hend : ∀ st tm h ρ G, Gd c st tm h ρ G → Kr st.tm st.ob → ∀ a w, Slt ⟨n, []⟩ tm a → Hp h w → LeavesInM (RF none) 0 P fn a.tmps (Ans c Q) a.defers .returning w := fun st tm h ρ G g k a w ha hw => by
    obtain ⟨q1, q2⟩ := hK.out ⟨n, []⟩ c st tm h ρ G g k a w ha hw
    rw [q1]
    exact q2
  have hrun := vcHL_sound (T := T) (n := n) (nd := []) (Q := bodyQ P fn (Ans c Q)) (Kn := Kr) (Kr := Kr) (c := c) hend (fun st tm h ρ G g k => ⟨hend st tm h ρ G g k⟩) (fun i g0 ps asg bd r st tm h ρ G g k a w ha hw => ?_) 1000 [cd] ⟨slT 0 ss, ob⟩ (slots 0 vs) _ ρ c.G g k _ w hs hw
  · refine wpIn_mono hrun fun e a w hq => ?_
    cases e with
    | normal => exact hq
    | ret => exact hq
    | _ => exact hq.elim
  · refine wpIn_block (wpIn_mono (rf_wp (T := T) (R := runs (RF none) 0 P r (bodyQ P fn (Ans c Q))) hcG g k (fun D c' st' tm' h' ρ' G' hx g' k' a w ha hw => ?_) a w ha hw) fun e a w hq => ?_)
    · exact vcHL_sound (T := T) (n := n) (nd := [markD D]) (Q := bodyQ P fn (Ans c Q)) (Kn := Kr) (Kr := Kr) (c := c') (fun st tm h ρ G g k a w ha hw => leave_mark hK hx g k a w ha hw) (fun st tm h ρ G g k => ⟨fun a w ha hw => leave_mark hK hx g k a w ha hw⟩) (fun _ _ _ _ _ _ _ _ _ _ _ _ k => k.elim) 1000 r st' tm' h' ρ' G' g' k' a w ha hw
    · cases e with
      | normal => exact hq
      | _ => exact hq.elim
theorem callsA_of_rfO {n : Nat} {f : FuncId} {fn : Func} {cd : Code} {ss : List SV} {ob : List (Nat × Ob)} {Q : SV → List (Nat × Ob) → Prop} {rs : List ResultVar} (hf : P.funcs[f]? = some fn) (hb : fn.body = some cd) (hnm : (fn.name == "runtime.NumGoroutine") = false) (hn : fn.ntmps = n) (hrs : fn.results.toList = rs) (hv : Nat.ble ss.length n = true)
    (k : vcHL P T ⟨n, []⟩ (RetKO T rs Q) (fun g ps asg bd r => Rf P T n g ps asg bd fun D => vcHL P T ⟨n, [markD D]⟩ (RetKO T rs Q) (fun _ _ _ _ _ _ _ => False) (RetKO T rs Q) 1000 r) (RetKO T rs Q) 1000 [cd] (slT 0 ss) ob) : CallsA P f ss ob Q := by
  subst hrs
  exact callsA_of_rfK _ ⟨fun nt c st tm h ρ G g k => RetKO_ok g k⟩ hf hb hnm hn hv k
end
end Go.Proofs.YtabmcfnefjipbaaGreatDoor
namespace Go.Proofs.YtabmcfnefjipbaaGreatDoor
open Go.RowKit
section
variable {P : Program} {T : List (Nat × Ty)} [hT : Tys P T] {nt : Nt} {Q : Exit → Act → World → Prop} {ty : TypeId} {pos : String} {af : Array Edge} {gd : Option (Nat × Bool)} {K : Kt}
/-- An entry is put into an own map. -/
theorem mapUpdate_runG {kg : Bool} {z : Fz} {w : World} {b t kt et : Nat} {i ik : Ty} {vg : Bool} {es : List (List V × List V)} {vs : List (Value × Value)} {y : List V} {row : List V} {u v : Value} (ht : lk t T = some i) (hk : i.k = .mp kt et) (hkt : lk kt T = some ik) (hw : HasB w b ⟨0, [], .m vs⟩) (he : EntsOk z kg vg es vs) (hy : KeyOk P z kg kt y u es) (hv : DenW z vg row v) :
    ∃ w' vs', (Instr.mapUpdate t (.map (some b)) u v).run P w = .ok () w' ∧ Same (· ≠ b) w w' ∧ HasB w' b ⟨0, [], .m vs'⟩ ∧ EntsOk z kg vg (mputT es y row) vs' := by
  have hund : P.underlying t = some (.map kt et) := by have := (hT.ok t i ht).kind; rw [hk] at this; exact this
  obtain ⟨_, arr, clock, q1, q2, q3⟩ := hw
  have hlen : arr.toList.length = es.length := by rw [← he.len, ← q2, List.length_map]
  have hfind := fun w => hy.find arr.toList hlen (fun j e m h1 h2 => (he.den j e (m.key, m.val) h1 (by rw [← q2, List.getElem?_map, h2]; rfl)).1) w
  obtain ⟨m1, m2, m3, m4⟩ := mixG_get (x := y) es
  have hlt : b < w.heap.size := by
    rcases Nat.lt_or_ge b w.heap.size with h | h
    · exact h
    · rw [Array.getElem?_eq_none h] at q1; cases q1
  have key : ∀ (o : Obj), Same (· ≠ b) w { w with heap := w.heap.setIfInBounds b o } := fun o =>
    ⟨rfl, rfl, rfl, by simp, fun j hj => by simp only; rw [Array.getElem?_setIfInBounds_ne]; exact fun e => hj e.symm⟩
  cases hj : mixT es y with
  | none =>
    rw [hj] at hfind
    refine ⟨_, vs ++ [(u, v)], by simp [Instr.mapUpdate, run_underlying hund, getObj, setObj, Sem.run, q1, hy.chk, hfind]; rfl, key _, ⟨rfl, arr.push { key := u, val := v, born := clock }, clock + 1, by simp [hlt], by simp [q2], q3.push _ _⟩, ?_⟩
    rw [m4, hj]
    refine ⟨by simp [he.len], fun j e p h1 h2 => ?_⟩
    rcases Nat.lt_or_ge j es.length with hlt' | hge
    · rw [List.getElem?_append_left hlt'] at h1
      rw [List.getElem?_append_left (by rw [he.len]; exact hlt')] at h2
      exact he.den j e p h1 h2
    · rw [List.getElem?_append_right hge] at h1
      rw [List.getElem?_append_right (by rw [he.len]; exact hge), he.len] at h2
      rcases hjj : j - es.length with _ | n
      · rw [hjj] at h1 h2; simp at h1 h2; subst h1 h2; exact ⟨hy.den, hv⟩
      · rw [hjj] at h1; simp at h1
  | some j =>
    rw [hj] at hfind
    have hjl := m3 j hj
    obtain ⟨e, he1⟩ : ∃ e, es[j]? = some e := ⟨_, List.getElem?_eq_getElem hjl⟩
    obtain ⟨m, hm1⟩ : ∃ m, arr.toList[j]? = some m := ⟨_, List.getElem?_eq_getElem (by rw [hlen]; exact hjl)⟩
    have hm2 : arr[j]? = some m := by rw [← Array.getElem?_toList]; exact hm1
    have hp1 : vs[j]? = some (m.key, m.val) := by rw [← q2, List.getElem?_map, hm1]; rfl
    have hden := (he.den j e _ he1 hp1).1
    have heq : eqCs y e.1 = true := by
      have : ∀ (es : List (List V × List V)) (j : Nat) e, mixT es y = some j → es[j]? = some e → eqCs y e.1 = true := by
        intro es
        induction es with
        | nil => intro j e h; cases h
        | cons a r ih =>
          intro j e h h'
          simp only [mixT] at h
          cases hq : eqCs y a.1 <;> rw [hq] at h
          · simp only [cond_false] at h
            cases hr : mixT r y with
            | none => rw [hr] at h; cases h
            | some n => rw [hr] at h; simp only [Option.some.injEq] at h; subst h; exact ih n e hr (by simpa using h')
          · simp only [cond_true, Option.some.injEq] at h
            subst h
            simp at h'
            subst h'
            exact hq
      exact this es j e hj he1
    have hsb : Instr.sameBits 10000 m.key u = true := hy.bits e (List.mem_of_getElem? he1) heq m.key hden
    simp only [hm1, Option.map_some] at hfind
    refine ⟨_, vs.set j (u, v), by simp [Instr.mapUpdate, run_underlying hund, getObj, setObj, Sem.run, q1, hy.chk, hfind, hm2, Instr.keyThatStays, hsb]; rfl, key _, ⟨rfl, arr.modify j fun e => { e with key := u, val := v }, clock, by simp [hlt], ?_, q3.modify _ _ fun _ => rfl⟩, ?_⟩
    · rw [← q2]
      apply List.ext_getElem?
      intro n
      simp only [List.getElem?_map, Array.getElem?_toList, Array.getElem?_modify, List.getElem?_set, List.length_map, Array.length_toList]
      by_cases hn : j = n
      · subst hn
        have : j < arr.size := by rw [← Array.length_toList, hlen]; exact hjl
        simp [hm2, this]
      · simp [hn]
    · rw [m4, hj]
      refine ⟨by simp [he.len], fun n e' p h1 h2 => ?_⟩
      simp only [List.getElem?_set] at h1 h2
      by_cases hn : j = n
      · subst hn
        have h3 : j < vs.length := by rw [he.len]; exact hjl
        simp [hjl] at h1
        simp [h3] at h2
        subst h1 h2
        exact ⟨hy.den, hv⟩
      · simp only [hn, if_false] at h1 h2
        exact he.den n e' p h1 h2
theorem Raw.mapUpdateS {o : Op} {t kt et k : Nat} {x ix y : Operand} {i ik : Ty} {fs : List (Nat × TypeId)} {vg : Bool} {es : List (List V × List V)} {kc : List D} {key : List V} {sy : SV} {cs : List D} {vs : List V} {tmT : List (Nat × SV)} {ob : List (Nat × Ob)} (ho : o = .mapUpdate t x ix y ∨ o = .insert t x ix y) (ht : lk t T = some i) (hk : i.k = .mp kt et) (hkt : lk kt T = some ik) (hfs : ik.k = .st fs) (hx : evT tmT x = some (.d (.mp k))) (hko : lk k ob = some (.mp true vg es)) (hix : evT tmT ix = some (.a kc)) (hkb : borL [] kc = some key) (hy : evT tmT y = some sy) (hc : cellsOfT sy = some cs) (hb : borL [] cs = some vs) (hg : aggS sy = vg) (hkey : keyFs T fs 0 key = true) (hek : eqChk P kt = true) (hok : ∀ e ∈ es, keyFs T fs 0 e.1 = true) (kk : K tmT (obu k (.mp true vg (mputT es key vs)) ob)) : Raw P nt ⟨none, o, ty, pos, af, gd⟩ tmT ob K := ⟨fun Q c tm h ρ G g => by
  obtain ⟨F, w0, hp⟩ := h
  obtain ⟨vx, x1, x2⟩ := g.ev hx
  obtain ⟨vi, i1, i2⟩ := g.ev hix
  obtain ⟨vy, y1, y2⟩ := g.ev hy
  cases x2 with | d x2 =>
  have hkd : DenW ⟨G, w0⟩ true key vi := by cases i2 with | a i2 => exact ⟨_, rfl, borL_nil_denS hkb i2⟩
  obtain ⟨X, f, o1, o2, o3, _⟩ := g.ob.set hko
  obtain ⟨b, ves, rfl, rfl, m1, m2⟩ := o1.map o2 x2
  have hdv := denW_of y2 hc hb
  rw [hg] at hdv
  have hloc : ρ k = some ⟨some ⟨b, 0, none⟩, 1, 0⟩ := by
    obtain ⟨b', vs', e1, e2, _⟩ := o1
    injection e1 with e1 _; injection e1 with e1 _; subst e1; exact e2
  have hko' := keyOk_S (P := P) (T := T) hkt hfs hek hkey hkd hok
  exact ⟨fun a w ha hw => by
    obtain ⟨w', vs', r1, r2, r3, r4⟩ := mapUpdate_runG (P := P) (T := T) ht hk hkt (hw.blk b _ m1) m2 hko' hdv
    have hrun : (execOp a.eval ⟨none, o, ty, pos, af, gd⟩).run P w = .ok .skip w' := by
      rcases ho with rfl | rfl <;> simp [execOp, ha.ev x1, ha.ev i1, ha.ev y1, r1]
    unfold Oper.wp
    rw [hrun]
    exact ⟨tm, _, ha, hw.upd (o2.updB rfl) r2 r3, .of (st := ⟨tmT, obu k (.mp true vg (mputT es key vs)) ob⟩) ⟨g.fF, g.fw, g.gF, g.gx, g.fm, g.tm, o3 (.mp true vg _) _ ⟨b, vs', rfl, hloc, r4⟩⟩ kk⟩⟩⟩
omit hT in
/-- A look-up, by its answer. -/
theorem Mls.of {kt : TypeId} {kk : Tk} {et : TypeId} {vg : Bool} {es : List (List V × List V)} {x z : List V} {K : List V → Bool → Prop} (row : List V) (has : Bool) (ek : eqChk P kt = true) (zk : zAgg P et = some vg) (ok : ∀ e ∈ es, keyS T kk e.1 = true) (h1 : mgetT es x z = row) (h2 : mhasT es x = has) (k : K row has) : Mls P T kt kk et vg es x z K := ⟨ek, zk, ok, by rw [h1, h2]; exact k⟩
end
end Go.Proofs.YtabmcfnefjipbaaGreatDoor
namespace Go.Proofs.YtabmcfnefjipbaaGreatDoor
open Go.RowKit
/-- Only the first rows of an own array are looked at. -/
theorem Ghost.trunc {tmT : List (Nat × SV)} {ob : List (Nat × Ob)} (k m : Nat) {t : TypeId} {sz : Nat} {rs ss : List (List V)} (hk : lk k ob = some (.ar t sz rs)) (hm : m ≤ rs.length) (hs : rs.take m = ss) : Ghost tmT ob tmT (obu k (.ar t sz ss) ob) := ⟨fun c tm h ρ G w g hw => by
  obtain ⟨F, w0, hp⟩ := h
  subst hs
  obtain ⟨X, f, ⟨A, cc, us, rfl, g2, g3, g3', g3''⟩, g4, hupd, _⟩ := g.ob.set hk
  have hperm : ∀ Y, (f Y).Perm (Y ++ f []) := g4.perm
  have hpX : hp.Perm (hbA A t us cc sz ++ f []) := by have := hperm (hbA A t us cc sz); rwa [g4.eq] at this
  have hlen : (rs.take m).length = m := by rw [List.length_take, Nat.min_eq_left hm]
  have hfl : (rs.take m).flatten = rs.flatten.take (m * sz) := by
    conv => rhs; rw [← List.take_append_drop m rs, List.flatten_append]
    rw [List.take_left' (by rw [flat_len (sz := sz) (fun r h => g3'' r (List.mem_of_mem_take h)), hlen])]
  have hul : m * sz ≤ us.length := by rw [g3.len]; exact Nat.mul_le_mul_right _ hm
  have hok : OkA A (us.take (m * sz)) (rs.take m).length cc sz := by
    rw [hlen]
    refine ⟨?_, by rw [List.length_take, Nat.min_eq_left hul], Nat.le_trans hm g3.cap, g3.max⟩
    rcases g3.form with ⟨e1, e2, e3⟩ | e
    · exact .inl ⟨e1, by omega, e3⟩
    · exact .inr e
  have hden : DenVL ⟨G, w0⟩ (rs.take m).flatten (us.take (m * sz)) := by
    rw [hfl]
    refine ⟨by rw [List.length_take, List.length_take, g3'.len], by rw [List.all_eq_true]; intro x hx; exact List.all_eq_true.1 g3'.one x (List.mem_of_mem_take hx), fun j d u e1 e2 => ?_⟩
    have hj : j < m * sz := by have := (List.getElem?_eq_some_iff.1 e1).1; simp at this; omega
    rw [List.getElem?_take_of_lt hj] at e1 e2
    exact g3'.den j d u e1 e2
  have hob := hupd (.ar t sz (rs.take m)) (hbA A t (us.take (m * sz)) cc sz) ⟨A, cc, _, rfl, g2, hok, hden, fun r hr => g3'' r (List.mem_of_mem_take hr)⟩
  refine ⟨⟨F, w0, f (hbA A t (us.take (m * sz)) cc sz)⟩, ρ, G, ⟨g.fF, g.fw, g.gF, g.gx, g.fm, g.tm, hob⟩, ?_⟩
  refine Hp.perm ?_ (hperm _).symm
  refine (hw.perm hpX).shl (ShL.append ?_ (ShL.refl _))
  rcases A with _ | a
  · exact .nil
  · exact .cons ⟨rfl, rfl, rfl, us.drop (m * sz), by simp⟩ .nil⟩
end Go.Proofs.YtabmcfnefjipbaaGreatDoor
namespace Go.Proofs.YtabmcfnefjipbaaGreatDoor
open Go.RowKit
structure Ev where
  kind : Int
  md : ByteArray
  fn : ByteArray
  line : Int
  depth : Int
  fuel : Int
  text : ByteArray
  locs : List (ByteArray × ByteArray)
abbrev locR (p : ByteArray × ByteArray) : List V := [.str p.1, .str p.2]
abbrev Ev.row (e : Ev) : List V := [.int .i64 e.kind, .str e.md, .str e.fn, .int .i64 e.line, .int .i64 e.depth, .int .i64 e.fuel, .str e.text, .sl 2 (e.locs.map locR)]
abbrev Ev.ds (e : Ev) : List D := [.u (.int .i64 e.kind), .u (.str e.md), .u (.str e.fn), .u (.int .i64 e.line), .u (.int .i64 e.depth), .u (.int .i64 e.fuel), .u (.str e.text), .u (.sl 2 (e.locs.map locR))]
abbrev evs (l : List Ev) : V := .sl 8 (l.map Ev.row)
abbrev dfa (c i : Int) : SV := .a [.u (.int .i64 c), .u (.int .i64 i)]
/-- A function of a module. -/
abbrev Fu := ByteArray × ByteArray
def Ev.fu (e : Ev) : Fu := (e.md, e.fn)
/-- What is wrong with an event by itself. -/
def shapeM (e : Ev) (fuel : Int) : Int :=
  if e.kind < 1 ∨ 4 < e.kind then 5
  else if (e.kind ≠ 1 ∧ 0 < e.locs.length) ∨ (e.kind ≤ 2 ∧ e.text.size ≠ 0) then 6
  else if dottedM e.md = false ∨ nameB e.fn = false then 7
  else if e.line < 0 ∨ e.fuel < fuel then 4 else 0
theorem of_T (e : Ev) : CallsA Tryz.prog 72 [.a e.ds] [] (Is (.a [.u (.str e.md), .u (.str e.fn)])) := by
  refine callsA_of_vc (T := tt) Tryz.func72 rfl rfl rfl rfl rfl ?_
  repeat' ((conv => whnf); first | refine Gs.id ?_ | fail)
  all_goals (conv => whnf)
  all_goals exact Ret.is rfl
set_option maxHeartbeats 2000000 in
theorem shape_T (e : Ev) (fuel : Int) : CallsA Tryz.prog 84 [.a e.ds, di fuel] [] (Is (di (shapeM e fuel))) := by
  have hd := dotted_T e.md
  have hn := isName_T' e.fn
  have hs0 := str_nil (s := e.text)
  have hl : ((e.locs.map locR).length : Int) = (e.locs.length : Int) := by simp
  generalize hz : (e.text.toList == (ByteArray.mk #[]).toList) = bz at *
  unfold shapeM
  generalize dottedM e.md = bd at *
  generalize nameB e.fn = bn at *
  refine callsA_of_vc (T := tt) Tryz.func84 rfl rfl rfl rfl rfl ?_
  repeat' ((conv => whnf); first | rw [hz] | refine Gs.id ?_ | with_reducible refine Brn.T rfl ?_ | with_reducible refine Brn.F rfl ?_ | refine Brn.T (by (try simp only [smT]); first | rfl | assumption | omega | fail) ?_ | refine Brn.F (by (try simp only [smT]); first | rfl | assumption | omega | fail) ?_ | (refine Brn.mk (fun hb => ?_) (fun hb => ?_) <;> (try simp only [smT] at hb) <;> (try (exact absurd trivial hb)) <;> (try (exfalso; omega))) | (refine Bnd.mk (fun hm => ?_); (try simp only [smT] at hm)) | (refine CL.mk (Or.inl ?_); (conv => whnf); first | refine Cl.is (hd) rfl (by first | exact fun _ => rfl | fail) ?_ | refine Cl.is (hn) rfl (by first | exact fun _ => rfl | fail) ?_) | fail)
  all_goals (conv => whnf)
  all_goals refine Ret.is (congrArg di ?_)
  all_goals grind
end Go.Proofs.YtabmcfnefjipbaaGreatDoor
namespace Go.Proofs.YtabmcfnefjipbaaGreatDoor
open Go.RowKit
/-- The functions that are active behind the beginning of an event. -/
def pushM (e : Ev) (act : List Fu) : List Fu := if e.kind = 2 then act ++ [e.fu] else act
/-- .. behind the event. -/
def actM (e : Ev) (act : List Fu) : List Fu := if 2 < e.kind then (pushM e act).dropLast else pushM e act
/-- What is wrong with an event; 0: nothing. -/
def codeM (e : Ev) (fuel : Int) (act : List Fu) : Int :=
  if shapeM e fuel ≠ 0 then shapeM e fuel
  else if (pushM e act).length = 0 ∨ e.depth ≠ ((pushM e act).length : Int) then 11
  else if (pushM e act).getLast? ≠ some e.fu then 19 else 0
def vFrom (i : Int) (fuel : Int) (act : List Fu) : List Ev → Int × Int
  | [] => (0, 0)
  | e :: r => if codeM e fuel act ≠ 0 then (codeM e fuel act, i) else vFrom (i + 1) e.fuel (actM e act) r
def validM (l : List Ev) : Int × Int := if 20000 < l.length then (2, -1) else vFrom 0 0 [] l
abbrev fuR (f : Fu) : List V := [.str f.1, .str f.2]
abbrev slo (k : Nat) (act : List Fu) : SV := match act with
  | [] => .d (.u .nl)
  | x :: r => .d (.ow k (x :: r).length)
set_option maxHeartbeats 4000000 in
theorem validate_T (l : List Ev) : CallsA Tryz.prog 52 [.d (.u (evs l))] [] (Is (dfa (validM l).1 (validM l).2)) := by
  by_cases hl : 20000 < l.length
  · have e : validM l = (2, -1) := by rw [validM, if_pos hl]
    rw [e]
    refine callsA_of_vc (T := tt) Tryz.func52 rfl rfl rfl rfl rfl ?_
    repeat' ((conv => whnf); first | refine Gs.id ?_ | refine Brn.T (by (try simp only [smT]); first | rfl | omega | fail) ?_ | (refine Bnd.mk (fun hm => ?_); (try simp only [smT] at hm)) | fail)
    all_goals (conv => whnf)
    all_goals exact Ret.is rfl
  · have e : validM l = vFrom 0 0 [] l := by rw [validM, if_neg hl]
    rw [e]
    refine callsA_of_vc (T := tt) Tryz.func52 rfl rfl rfl rfl rfl ?_
    repeat' ((conv => whnf); first | refine Gs.id ?_ | refine Brn.F (by (try simp only [smT]); first | rfl | omega | fail) ?_ | (refine Bnd.mk (fun hm => ?_); (try simp only [smT] at hm)) | fail)
    all_goals (conv => whnf)
    refine ⟨⟨Nat × Int × List Fu, fun x => x.1 ≤ l.length ∧ x.2.2.length ≤ x.1 ∧ vFrom 0 0 [] l = vFrom x.1 x.2.1 x.2.2 (l.drop x.1), fun x => l.length - x.1, fun x => ⟨[(2, .d (.p 2 0)), (3, .d (.ow 900 x.2.2.length)), (4, di x.2.1), (13, .d (.u (evs l))), (14, di l.length), (15, di x.1)], [(2, .bx 25 [.u (.int .i64 0), .u (.int .i64 0)]), (900, .ar 83 2 (x.2.2.map fuR))]⟩, (0, 0, []), ⟨Nat.zero_le _, Nat.le_refl _, rfl⟩, ⟨[(2, .k 2), (900, .n 2)], ⟨by (try dsimp only); (repeat (refine LeT.cons rfl (by first | exact LeS.d (by first | exact LeD.u rfl | exact LeD.p rfl | exact LeD.no rfl rfl | exact LeD.u (by simp; done) | fail) | fail) ?_)); exact LeT.nil, by (try dsimp only); repeat (first | exact LeO.nil | refine LeO.bx rfl rfl (by repeat (first | exact LeL.nil | refine LeL.cons (by first | exact LeD.u rfl | fail) ?_)) ?_ | refine LeO.no rfl rfl ?_)⟩⟩, fun x hx => ?_⟩⟩
    obtain ⟨i, fuel, act⟩ := x
    obtain ⟨hi, ha, he⟩ := hx
    dsimp only at hi ha he ⊢
    rw [he]
    by_cases h9 : i < l.length
    · rw [List.drop_eq_getElem_cons h9, vFrom]
      have hrow : ∀ {K : List V → Prop}, K (l[i]).row → Ix (l.map Ev.row) (i : Int) K := fun k => Ix.map rfl h9 k
      generalize l[i] = e at *
      have hs := shape_T e fuel
      have ho := of_T e
      have hci : ((i + 1 : Nat) : Int) = (i : Int) + 1 := by omega
      have hkk : shapeM e fuel = 0 → 1 ≤ e.kind ∧ e.kind ≤ 4 := fun h => by unfold shapeM at h; split at h <;> omega
      by_cases h0 : shapeM e fuel = 0
      · rw [h0] at hs
        by_cases hk : e.kind = 2
        · have hp : pushM e act = act ++ [e.fu] := by rw [pushM, if_pos hk]
          have ha2 : actM e act = act ++ [e.fu] := by rw [actM, if_neg (by omega), hp]
          have hget : ((act.map fuR) ++ [[V.str e.md, V.str e.fn]])[act.length]? = some [V.str e.md, V.str e.fn] := by simp
          have hb1 := toList_beq e.md e.md
          have hb2 := toList_beq e.fn e.fn
          rw [decide_eq_true rfl] at hb1 hb2
          by_cases hd : e.depth = (act.length : Int) + 1
          · have hc : codeM e fuel act = 0 := by simp [codeM, h0, hp, hd]
            rw [hc, if_neg (by simp), ha2]
            repeat' ((conv => whnf); first | refine hrow ?_ | refine Ixo.mk ⟨act.length, by simp, by simp, ?_⟩ | refine Rw.get hget ?_ | refine Gs.id ?_ | with_reducible refine Brn.T rfl ?_ | with_reducible refine Brn.F rfl ?_ | refine Brn.T (by (try simp only [smT]); first | rfl | assumption | omega | fail) ?_ | refine Brn.F (by (try simp only [smT]); first | rfl | assumption | omega | (simp [*]; done) | fail) ?_ | (refine Bnd.mk (fun hm => ?_); (try simp only [smT] at hm)) | refine Rng.mk (by (try simp only [smT]); omega) ?_ | refine Eqv.mk (by kernel_rfl) ?_ | refine Apd.mk (by first | rfl | simp) (by first | rfl | fail) (by (try simp only [smT]); first | omega | fail) (by unfold maxLen; first | (simp; omega) | fail) ?_ | refine Drw.of (T := tt) (i := 16) [] [] [(0, true), (1, true), (2, true), (3, true), (4, true), (5, true), (6, false), (7, true), (8, true)] (by kernel_rfl) ?_ | (refine CL.mk (Or.inl ?_); (conv => whnf); first | refine Cl.is (hs) rfl (by first | exact fun _ => rfl | fail) ?_ | refine Cl.is (ho) rfl (by first | exact fun _ => rfl | fail) ?_) | fail)
            all_goals (conv => whnf)
            all_goals exact ⟨(i + 1, e.fuel, act ++ [e.fu]), ⟨by omega, by simp; omega, by dsimp only; rw [hci]⟩, by omega, [(2, .k 2), (900, .k 36)], ⟨by (try dsimp only); (repeat (refine LeT.cons rfl (by first | exact LeS.d (by first | exact LeD.u rfl | exact LeD.p rfl | exact LeD.ow rfl (by simp [Ev.fu]) | fail) | fail) ?_)); exact LeT.nil, by (try dsimp only); repeat (first | exact LeO.nil | refine LeO.bx rfl rfl (by repeat (first | exact LeL.nil | refine LeL.cons (by first | exact LeD.u rfl | fail) ?_)) ?_ | refine LeO.ar rfl rfl (by first | simp [Ev.fu]) ?_ | fail)⟩⟩
          · have hc : codeM e fuel act = 11 := by simp [codeM, h0, hp, hd]
            rw [hc, if_pos (by simp)]
            repeat' ((conv => whnf); first | refine hrow ?_ | refine Gs.id ?_ | with_reducible refine Brn.T rfl ?_ | refine Brn.T (by (try simp only [smT]); first | rfl | assumption | omega | fail) ?_ | refine Brn.F (by (try simp only [smT]); first | rfl | omega | fail) ?_ | (refine Bnd.mk (fun hm => ?_); (try simp only [smT] at hm)) | refine Apd.mk (by first | rfl | simp) (by first | rfl | fail) (by (try simp only [smT]); first | omega | fail) (by unfold maxLen; first | (simp; omega) | fail) ?_ | (refine CL.mk (Or.inl ?_); (conv => whnf); first | refine Cl.is (hs) rfl (by first | exact fun _ => rfl | fail) ?_ | refine Cl.is (ho) rfl (by first | exact fun _ => rfl | fail) ?_) | fail)
            all_goals (conv => whnf)
            all_goals first | exact Ret.is rfl | (exfalso; simp at *; omega)
        · have hp : pushM e act = act := by rw [pushM, if_neg hk]
          rcases List.eq_nil_or_concat act with rfl | ⟨L, f, rfl⟩
          · have hc : codeM e fuel [] = 11 := by simp [codeM, h0, hp]
            rw [hc, if_pos (by simp)]
            repeat' ((conv => whnf); first | refine hrow ?_ | refine Gs.id ?_ | with_reducible refine Brn.T rfl ?_ | refine Brn.T (by (try simp only [smT]); first | rfl | omega | fail) ?_ | refine Brn.F (by (try simp only [smT]); first | rfl | assumption | fail) ?_ | (refine Bnd.mk (fun hm => ?_); (try simp only [smT] at hm)) | (refine CL.mk (Or.inl ?_); (conv => whnf); first | refine Cl.is (hs) rfl (by first | exact fun _ => rfl | fail) ?_ | fail) | fail)
            all_goals (conv => whnf)
            all_goals first | exact Ret.is rfl | (exfalso; simp at *; omega)
          · rw [List.concat_eq_append] at *
            have hget : ((L ++ [f]).map fuR)[L.length]? = some (fuR f) := by simp
            have hlen : (((L ++ [f]).length : Nat) : Int) = (L.length : Int) + 1 := by simp
            by_cases hd : e.depth = (L.length : Int) + 1
            · have hb1 := toList_beq f.1 e.md
              have hb2 := toList_beq f.2 e.fn
              by_cases hf : f = e.fu
              · subst hf
                have hc : codeM e fuel (L ++ [e.fu]) = 0 := by simp [codeM, h0, hp, hd]
                have e1 : decide (e.fu.1 = e.md) = true := decide_eq_true rfl
                have e2 : decide (e.fu.2 = e.fn) = true := decide_eq_true rfl
                rw [e1] at hb1
                rw [e2] at hb2
                rw [hc, if_neg (by simp)]
                by_cases hk3 : 2 < e.kind
                · have ha2 : actM e (L ++ [e.fu]) = L := by rw [actM, if_pos hk3, hp]; simp
                  rw [ha2]
                  repeat' ((conv => whnf); first | refine hrow ?_ | refine Ixo.mk ⟨L.length, by simp, by simp, ?_⟩ | refine Slc.mk ⟨0, L.length, rfl, by simp, by omega, by simp, ?_⟩ | refine Rw.get hget ?_ | refine Gs.id ?_ | with_reducible refine Brn.T rfl ?_ | with_reducible refine Brn.F rfl ?_ | refine Brn.T (by (try simp only [smT]); first | rfl | assumption | omega | fail) ?_ | refine Brn.F (by (try simp only [smT]); first | rfl | assumption | omega | (simp [*]; done) | fail) ?_ | (refine Brn.mk (fun hb => ?_) (fun hb => ?_) <;> (try simp only [smT] at hb) <;> (try (exact absurd trivial hb)) <;> (try (exfalso; omega))) | (refine Bnd.mk (fun hm => ?_); (try simp only [smT] at hm)) | refine Rng.mk (by (try simp only [smT]); omega) ?_ | refine Eqv.mk (by kernel_rfl) ?_ | refine Drw.of (T := tt) (i := 16) [] [] [(0, true), (1, true), (2, true), (3, true), (4, true), (5, true), (6, false), (7, true), (8, true)] (by kernel_rfl) ?_ | (refine CL.mk (Or.inl ?_); (conv => whnf); first | refine Cl.is (hs) rfl (by first | exact fun _ => rfl | fail) ?_ | refine Cl.is (ho) rfl (by first | exact fun _ => rfl | fail) ?_) | fail)
                  all_goals (conv => whnf)
                  all_goals first
                    | (exfalso; have := hkk h0; omega)
                    | exact ⟨(i + 1, e.fuel, L), ⟨by omega, by simp at ha; dsimp only; omega, by dsimp only; rw [hci]⟩, by omega, [(2, .k 2), (900, .k 900)], (by (try dsimp only); (repeat (refine LeT.cons rfl (by first | exact LeS.d (by first | exact LeD.u rfl | exact LeD.p rfl | exact LeD.ow rfl rfl | fail) | fail) ?_)); exact LeT.nil), .bx rfl rfl (.cons (.u rfl) (.cons (.u rfl) .nil)) (.tr (m := L.length) rfl rfl (by simp) (by simp) .nil)⟩
                · have ha2 : actM e (L ++ [e.fu]) = L ++ [e.fu] := by rw [actM, if_neg hk3, hp]
                  rw [ha2]
                  repeat' ((conv => whnf); first | refine hrow ?_ | refine Ixo.mk ⟨L.length, by simp, by simp, ?_⟩ | refine Rw.get hget ?_ | refine Gs.id ?_ | with_reducible refine Brn.T rfl ?_ | with_reducible refine Brn.F rfl ?_ | refine Brn.T (by (try simp only [smT]); first | rfl | omega | fail) ?_ | refine Brn.F (by (try simp only [smT]); first | rfl | assumption | omega | (simp [*]; done) | fail) ?_ | (refine Bnd.mk (fun hm => ?_); (try simp only [smT] at hm)) | refine Rng.mk (by (try simp only [smT]); omega) ?_ | refine Eqv.mk (by kernel_rfl) ?_ | refine Drw.of (T := tt) (i := 16) [] [] [(0, true), (1, true), (2, true), (3, true), (4, true), (5, true), (6, false), (7, true), (8, true)] (by kernel_rfl) ?_ | (refine CL.mk (Or.inl ?_); (conv => whnf); first | refine Cl.is (hs) rfl (by first | exact fun _ => rfl | fail) ?_ | refine Cl.is (ho) rfl (by first | exact fun _ => rfl | fail) ?_) | fail)
                  all_goals (conv => whnf)
                  all_goals first
                    | (exfalso; omega)
                    | exact ⟨(i + 1, e.fuel, L ++ [e.fu]), ⟨by omega, by dsimp only; omega, by dsimp only; rw [hci]⟩, by omega, [(2, .k 2), (900, .k 900)], ⟨by (try dsimp only); (repeat (refine LeT.cons rfl (by first | exact LeS.d (by first | exact LeD.u rfl | exact LeD.p rfl | exact LeD.ow rfl rfl | fail) | fail) ?_)); exact LeT.nil, by (try dsimp only); repeat (first | exact LeO.nil | refine LeO.bx rfl rfl (by repeat (first | exact LeL.nil | refine LeL.cons (by first | exact LeD.u rfl | fail) ?_)) ?_ | refine LeO.ar rfl rfl (by first | rfl | fail) ?_ | fail)⟩⟩
              · have hc : codeM e fuel (L ++ [f]) = 19 := by simp [codeM, h0, hp, hd, hf]
                rw [hc, if_pos (by simp)]
                have hne : ¬ (f.1 = e.md ∧ f.2 = e.fn) := fun h => hf (Prod.ext h.1 h.2)
                repeat' ((conv => whnf); first | refine hrow ?_ | refine Ixo.mk ⟨L.length, by simp, by simp, ?_⟩ | refine Slc.mk ⟨0, L.length, rfl, by simp, by omega, by simp, ?_⟩ | refine Rw.get hget ?_ | refine Gs.id ?_ | with_reducible refine Brn.T rfl ?_ | with_reducible refine Brn.F rfl ?_ | refine Brn.T (by (try simp only [smT]); first | rfl | assumption | omega | fail) ?_ | refine Brn.F (by (try simp only [smT]); first | rfl | assumption | omega | fail) ?_ | (refine Brn.mk (fun hb => ?_) (fun hb => ?_) <;> (try simp only [smT] at hb) <;> (try (exact absurd trivial hb)) <;> (try (exfalso; omega))) | (refine Bnd.mk (fun hm => ?_); (try simp only [smT] at hm)) | refine Rng.mk (by (try simp only [smT]); omega) ?_ | refine Eqv.mk (by kernel_rfl) ?_ | refine Drw.of (T := tt) (i := 16) [] [] [(0, true), (1, true), (2, true), (3, true), (4, true), (5, true), (6, false), (7, true), (8, true)] (by kernel_rfl) ?_ | (refine CL.mk (Or.inl ?_); (conv => whnf); first | refine Cl.is (hs) rfl (by first | exact fun _ => rfl | fail) ?_ | refine Cl.is (ho) rfl (by first | exact fun _ => rfl | fail) ?_) | fail)
                all_goals (conv => whnf)
                all_goals first | exact Ret.is rfl | (exfalso; clear hs ho he hrow hget; grind)
            · have hc : codeM e fuel (L ++ [f]) = 11 := by simp [codeM, h0, hp, hd]
              rw [hc, if_pos (by simp)]
              repeat' ((conv => whnf); first | refine hrow ?_ | refine Gs.id ?_ | with_reducible refine Brn.T rfl ?_ | refine Brn.T (by (try simp only [smT]); first | rfl | assumption | omega | fail) ?_ | refine Brn.F (by (try simp only [smT]); first | rfl | assumption | omega | fail) ?_ | (refine Bnd.mk (fun hm => ?_); (try simp only [smT] at hm)) | (refine CL.mk (Or.inl ?_); (conv => whnf); first | refine Cl.is (hs) rfl (by first | exact fun _ => rfl | fail) ?_ | fail) | fail)
              all_goals (conv => whnf)
              all_goals first | exact Ret.is rfl | (exfalso; simp at *; omega)
      · have hc : codeM e fuel act = shapeM e fuel := by rw [codeM, if_pos h0]
        rw [hc, if_pos h0]
        repeat' ((conv => whnf); first | refine hrow ?_ | refine Gs.id ?_ | with_reducible refine Brn.F rfl ?_ | refine Brn.T (by (try simp only [smT]); first | rfl | assumption | omega | fail) ?_ | refine Brn.F (by (try simp only [smT]); first | rfl | assumption | fail) ?_ | (refine Bnd.mk (fun hm => ?_); (try simp only [smT] at hm)) | (refine CL.mk (Or.inl ?_); (conv => whnf); first | refine Cl.is (hs) rfl (by first | exact fun _ => rfl | fail) ?_ | fail) | fail)
        all_goals (conv => whnf)
        all_goals first | exact Ret.is rfl | (exfalso; simp at *; omega)
    · obtain rfl : i = l.length := by omega
      rw [List.drop_length, vFrom]
      repeat' ((conv => whnf); first | refine Gs.id ?_ | refine Brn.F (by (try simp only [smT]); first | rfl | omega | fail) ?_ | fail)
      all_goals (conv => whnf)
      all_goals exact Ret.is rfl
end Go.Proofs.YtabmcfnefjipbaaGreatDoor
namespace Go.Proofs.YtabmcfnefjipbaaGreatDoor
open Go.RowKit
def lastFuel (l : List Ev) : Int := match l.getLast? with
  | some e => e.fuel
  | none => 0
def checkM (l : List Ev) (fuel : Int) : Int × Int :=
  if (validM l).1 ≠ 0 then validM l else if fuel < 0 ∨ (0 < l.length ∧ fuel < lastFuel l) then (4, -2) else (0, 0)
theorem dfa_eq {c i : Int} {m : Int × Int} (h : (c, i) = m) : tupT [SC.a (upT [V.int .i64 c, V.int .i64 i])] = dfa m.1 m.2 := by subst h; rfl
theorem check_T (l : List Ev) (fuel : Int) : CallsA Tryz.prog 39 [.d (.u (evs l)), di fuel] [] (Is (dfa (checkM l fuel).1 (checkM l fuel).2)) := by
  have hv := validate_T l
  unfold checkM
  generalize validM l = v at *
  obtain ⟨c, i⟩ := v
  dsimp only at hv ⊢
  by_cases hc : c = 0
  · rw [if_neg (by simpa using hc)]
    rcases List.eq_nil_or_concat l with rfl | ⟨L, e, rfl⟩
    · refine callsA_of_vc (T := tt) Tryz.func39 rfl rfl rfl rfl rfl ?_
      repeat' ((conv => whnf); first | refine Gs.id ?_ | with_reducible refine Brn.T rfl ?_ | with_reducible refine Brn.F rfl ?_ | refine Brn.T (by (try simp only [smT]); first | rfl | assumption | fail) ?_ | refine Brn.F (by (try simp only [smT]); first | rfl | assumption | fail) ?_ | (refine Brn.mk (fun hb => ?_) (fun hb => ?_) <;> (try simp only [smT] at hb) <;> (try (exact absurd trivial hb)) <;> (try (exfalso; omega))) | (refine Bnd.mk (fun hm => ?_); (try simp only [smT] at hm)) | (refine CL.mk (Or.inl ?_); (conv => whnf); refine Cl.is (hv) rfl (by first | exact fun _ => rfl | fail) ?_) | fail)
      all_goals (conv => whnf)
      all_goals refine Ret.is (dfa_eq ?_)
      all_goals clear hv
      all_goals grind [lastFuel]
    · rw [List.concat_eq_append] at *
      have hrow : ∀ {K : List V → Prop} {i : Int}, i = (L.length : Int) → K e.row → Ix ((L ++ [e]).map Ev.row) i K := fun h k => ⟨⟨L.length, e.row, h, by simp, k⟩⟩
      have hlf : lastFuel (L ++ [e]) = e.fuel := by simp [lastFuel]
      rw [hlf]
      refine callsA_of_vc (T := tt) Tryz.func39 rfl rfl rfl rfl rfl ?_
      repeat' ((conv => whnf); first | refine hrow (by simp) ?_ | refine Gs.id ?_ | with_reducible refine Brn.T rfl ?_ | refine Brn.T (by (try simp only [smT]); first | rfl | assumption | omega | fail) ?_ | refine Brn.F (by (try simp only [smT]); first | rfl | assumption | fail) ?_ | (refine Brn.mk (fun hb => ?_) (fun hb => ?_) <;> (try simp only [smT] at hb) <;> (try (exact absurd trivial hb)) <;> (try (exfalso; omega))) | (refine Bnd.mk (fun hm => ?_); (try simp only [smT] at hm)) | refine Rng.mk (by (try simp only [smT]); omega) ?_ | (refine CL.mk (Or.inl ?_); (conv => whnf); refine Cl.is (hv) rfl (by first | exact fun _ => rfl | fail) ?_) | fail)
      all_goals (conv => whnf)
      all_goals refine Ret.is (dfa_eq ?_)
      all_goals clear hv hrow hlf
      all_goals grind
  · rw [if_pos hc]
    refine callsA_of_vc (T := tt) Tryz.func39 rfl rfl rfl rfl rfl ?_
    repeat' ((conv => whnf); first | refine Gs.id ?_ | refine Brn.T (by (try simp only [smT]); first | rfl | assumption | fail) ?_ | (refine CL.mk (Or.inl ?_); (conv => whnf); refine Cl.is (hv) rfl (by first | exact fun _ => rfl | fail) ?_) | fail)
    all_goals (conv => whnf)
    all_goals exact Ret.is rfl
def beforeM (l : List Ev) (fuel : Int) : Int := match l with
  | [] => fuel
  | e :: _ => e.fuel
theorem before_T (l : List Ev) (fuel : Int) : CallsA Tryz.prog 40 [.d (.u (evs l)), di fuel] [] (Is (di (beforeM l fuel))) := by
  cases l with
  | nil =>
    refine callsA_of_vc (T := tt) Tryz.func40 rfl rfl rfl rfl rfl ?_
    repeat' ((conv => whnf); first | refine Gs.id ?_ | with_reducible refine Brn.F rfl ?_ | (refine Bnd.mk (fun hm => ?_); (try simp only [smT] at hm)) | fail)
    all_goals (conv => whnf)
    all_goals exact Ret.is rfl
  | cons e r =>
    refine callsA_of_vc (T := tt) Tryz.func40 rfl rfl rfl rfl rfl ?_
    repeat' ((conv => whnf); first | refine Gs.id ?_ | refine Brn.T (by (try simp only [smT]); first | rfl | omega | fail) ?_ | (refine Bnd.mk (fun hm => ?_); (try simp only [smT] at hm)) | refine Ix.map rfl (by (try simp only [smT]); omega) ?_ | fail)
    all_goals (conv => whnf)
    all_goals exact Ret.is rfl
abbrev stepsV (l : List Ev) (fuel : Int) : V := .cl 71 [[evs l], [.int .i64 fuel]]
theorem steps0_T (l : List Ev) (fuel : Int) : CallsA Tryz.prog 41 [.d (.u (evs l)), di fuel] [] (Is (.d (.u (stepsV l fuel)))) := by
  refine callsA_of_vc (T := tt) Tryz.func41 rfl rfl rfl rfl rfl ?_
  repeat' ((conv => whnf); first | refine Gs.go (i := 1) ((Ghost.frzB 2 rfl rfl).trans (Ghost.frzB 3 rfl rfl)) ?_ | refine Gs.id ?_ | fail)
  all_goals (conv => whnf)
  all_goals exact Ret.is rfl
end Go.Proofs.YtabmcfnefjipbaaGreatDoor
namespace Go.Proofs.YtabmcfnefjipbaaGreatDoor
open Go.RowKit
/-- An active function and the line at which it is. -/
structure Ac where
  md : ByteArray
  fn : ByteArray
  line : Int
abbrev acR (a : Ac) : List V := [.str a.md, .str a.fn, .int .i64 a.line]
def setLn (s : List Ac) (line : Int) : List Ac := match s.getLast? with
  | some a => s.dropLast ++ [⟨a.md, a.fn, line⟩]
  | none => s
def stepL (s : List Ac) (e : Ev) : List Ac := if e.kind = 2 then s ++ [⟨e.md, e.fn, e.line⟩] else if e.kind = 1 then setLn s e.line else s.dropLast
/-- The stack behind the first i events. -/
def stackAt (l : List Ev) (i : Nat) : List Ac := (l.take i).foldl stepL []
def actAt (l : List Ev) (i : Nat) : List Fu := (l.take i).foldl (fun a e => actM e a) []
def fuelAt (l : List Ev) (i : Nat) : Int := match i with
  | 0 => 0
  | j + 1 => match l[j]? with
    | some e => e.fuel
    | none => 0
def Vd (l : List Ev) : Prop := ∀ (i : Nat) (e : Ev), l[i]? = some e → codeM e (fuelAt l i) (actAt l i) = 0
theorem stackAt_succ {l : List Ev} {i : Nat} {e : Ev} (h : l[i]? = some e) : stackAt l (i + 1) = stepL (stackAt l i) e := by
  rw [stackAt, stackAt, List.take_add_one, h]; simp
theorem actAt_succ {l : List Ev} {i : Nat} {e : Ev} (h : l[i]? = some e) : actAt l (i + 1) = actM e (actAt l i) := by
  rw [actAt, actAt, List.take_add_one, h]; simp
theorem fuelAt_succ {l : List Ev} {i : Nat} {e : Ev} (h : l[i]? = some e) : fuelAt l (i + 1) = e.fuel := by
  simp [fuelAt, h]
theorem vFrom_Vd {l : List Ev} : ∀ (r : List Ev) (i : Nat), l.drop i = r → (vFrom (i : Int) (fuelAt l i) (actAt l i) r).1 = 0 → ∀ (j : Nat) (e : Ev), i ≤ j → l[j]? = some e → codeM e (fuelAt l j) (actAt l j) = 0
  | [], i, hd, _, j, e, hj, he => by
    have : l.length ≤ i := List.drop_eq_nil_iff.1 hd
    rw [List.getElem?_eq_none (by omega)] at he
    cases he
  | x :: r, i, hd, h, j, e, hj, he => by
    have hx : l[i]? = some x := by rw [← List.head?_drop, hd]; rfl
    have hd2 : l.drop (i + 1) = r := by rw [← List.drop_drop, hd]; rfl
    rw [vFrom] at h
    split at h
    · rename_i hc; exact absurd h hc
    · rename_i hc
      by_cases hij : j = i
      · subst hij
        rw [hx] at he
        injection he with he
        subst he
        simpa using hc
      · have e1 : ((i + 1 : Nat) : Int) = (i : Int) + 1 := by omega
        exact vFrom_Vd r (i + 1) hd2 (by rw [e1, fuelAt_succ hx, actAt_succ hx]; exact h) j e (by omega) he
theorem valid_Vd {l : List Ev} (h : (validM l).1 = 0) : Vd l ∧ l.length ≤ 20000 := by
  unfold validM at h
  split at h
  · cases h
  · exact ⟨fun i e he => vFrom_Vd l 0 rfl h i e (Nat.zero_le _) he, by omega⟩
/-- What holds at each event of a valid trace. -/
structure EvOk (e : Ev) (fuel : Int) (act : List Fu) : Prop where
  k1 : 1 ≤ e.kind
  k4 : e.kind ≤ 4
  line : 0 ≤ e.line
  fuel : fuel ≤ e.fuel
  locs : e.kind ≠ 1 → e.locs = []
  name : dottedM e.md = true ∧ nameB e.fn = true
  last : (pushM e act).getLast? = some e.fu
  depth : e.depth = ((pushM e act).length : Int)
theorem codeM_ok {e : Ev} {fuel : Int} {act : List Fu} (h : codeM e fuel act = 0) : EvOk e fuel act := by
  unfold codeM at h
  by_cases h1 : shapeM e fuel = 0
  · rw [if_neg (by simpa using h1)] at h
    split at h
    · omega
    · rename_i h2
      split at h
      · omega
      · rename_i h3
        unfold shapeM at h1
        refine ⟨?_, ?_, ?_, ?_, ?_, ?_, by simpa using h3, ?_⟩
        · grind
        · grind
        · grind
        · grind
        · intro hk
          have : ¬ 0 < e.locs.length := by grind
          exact List.eq_nil_of_length_eq_zero (by omega)
        · grind
        · grind
  · rw [if_pos h1] at h
    exact absurd h h1
theorem Vd.ok {l : List Ev} (hv : Vd l) {i : Nat} {e : Ev} (h : l[i]? = some e) : EvOk e (fuelAt l i) (actAt l i) := codeM_ok (hv i e h)
theorem setLn_map (s : List Ac) (n : Int) : (setLn s n).map (fun a => ((a.md, a.fn) : Fu)) = s.map fun a => (a.md, a.fn) := by
  unfold setLn
  rcases List.eq_nil_or_concat s with rfl | ⟨L, a, rfl⟩
  · rfl
  · simp
/-- The stack has the active functions. -/
theorem stack_act {l : List Ev} (hv : Vd l) : ∀ i, i ≤ l.length → (stackAt l i).map (fun a => ((a.md, a.fn) : Fu)) = actAt l i
  | 0, _ => rfl
  | i + 1, hi => by
    have he : l[i]? = some l[i] := List.getElem?_eq_getElem (by omega)
    have ok := hv.ok he
    have ih := stack_act hv i (by omega)
    rw [stackAt_succ he, actAt_succ he, stepL, actM, pushM]
    by_cases h2 : l[i].kind = 2
    · rw [if_pos h2, if_pos h2, if_neg (by omega), List.map_append, ih]; rfl
    · rw [if_neg h2, if_neg h2]
      by_cases h1 : l[i].kind = 1
      · rw [if_pos h1, if_neg (by omega), setLn_map, ih]
      · rw [if_neg h1, if_pos (by have := ok.k1; omega), List.map_dropLast, ih]
theorem stack_ne {l : List Ev} (hv : Vd l) {i : Nat} {e : Ev} (h : l[i]? = some e) (hk : e.kind ≠ 2) : ∃ L a, stackAt l i = L ++ [a] ∧ a.md = e.md ∧ a.fn = e.fn := by
  have hlt := (List.getElem?_eq_some_iff.1 h).1
  have ok := hv.ok h
  have hs := stack_act hv i (by omega)
  have hl := ok.last
  rw [pushM, if_neg hk, ← hs] at hl
  rcases List.eq_nil_or_concat (stackAt l i) with h0 | ⟨L, a, h0⟩
  · rw [h0] at hl; simp at hl
  · rw [h0] at hl
    rw [List.concat_eq_append] at h0
    refine ⟨L, a, h0, ?_⟩
    simp [Ev.fu] at hl
    exact hl
theorem stack_len {l : List Ev} : ∀ i, (stackAt l i).length ≤ i
  | 0 => Nat.le_refl _
  | i + 1 => by
    have ih := stack_len (l := l) i
    cases he : l[i]? with
    | none =>
      have : stackAt l (i + 1) = stackAt l i := by rw [stackAt, stackAt, List.take_add_one, he]; simp
      rw [this]; omega
    | some e =>
      rw [stackAt_succ he, stepL]
      split
      · simp; omega
      · split
        · have : (setLn (stackAt l i) e.line).length = (stackAt l i).length := by have := congrArg List.length (setLn_map (stackAt l i) e.line); simpa using this
          omega
        · simp; omega
/-- Fuel never falls. -/
theorem fuel_mono {l : List Ev} (hv : Vd l) : ∀ (n i : Nat), i + n ≤ l.length → fuelAt l i ≤ fuelAt l (i + n)
  | 0, i, _ => by simp
  | n + 1, i, h => by
    have ih := fuel_mono hv n i (by omega)
    have he : l[i + n]? = some l[i + n] := List.getElem?_eq_getElem (by omega)
    have := (hv.ok he).fuel
    rw [← Nat.add_assoc, fuelAt_succ he]
    omega
theorem fuel_nonneg {l : List Ev} (hv : Vd l) (i : Nat) (h : i ≤ l.length) : 0 ≤ fuelAt l i := by
  have := fuel_mono hv i 0 (by omega)
  simpa [fuelAt] using this
theorem lastFuel_eq (l : List Ev) : lastFuel l = fuelAt l l.length := by
  rcases List.eq_nil_or_concat l with rfl | ⟨L, e, rfl⟩
  · rfl
  · rw [List.concat_eq_append]
    simp [lastFuel, fuelAt]
/-- The fuel behind event i. -/
def nextF (l : List Ev) (fuel : Int) (i : Nat) : Int := match l[i + 1]? with
  | some e => e.fuel
  | none => fuel
def amt (l : List Ev) (fuel : Int) (i : Nat) : Int := nextF l fuel i - fuelAt l (i + 1)
/-- A valid trace with the fuel of its run. -/
structure Tr (l : List Ev) (fuel : Int) : Prop where
  vd : Vd l
  len : l.length ≤ 20000
  f0 : 0 ≤ fuel
  fl : fuelAt l l.length ≤ fuel
  mx : fuel ≤ 9223372036854775807
theorem check_Tr {l : List Ev} {fuel : Int} (h : (checkM l fuel).1 = 0) (hx : fuel ≤ 9223372036854775807) : Tr l fuel := by
  unfold checkM at h
  split at h
  · rename_i hc; exact absurd h hc
  · rename_i hc
    split at h
    · cases h
    · rename_i hf
      obtain ⟨h1, h2⟩ := valid_Vd (by simpa using hc)
      refine ⟨h1, h2, by omega, ?_, hx⟩
      rw [← lastFuel_eq]
      by_cases h0 : 0 < l.length
      · omega
      · have : l = [] := List.eq_nil_of_length_eq_zero (by omega)
        subst this
        simp [lastFuel]; omega
theorem Tr.next {l : List Ev} {fuel : Int} (t : Tr l fuel) {i : Nat} (h : i < l.length) : nextF l fuel i = (if i + 1 < l.length then fuelAt l (i + 2) else fuel) ∧ fuelAt l (i + 1) ≤ nextF l fuel i ∧ nextF l fuel i ≤ fuel ∧ 0 ≤ fuelAt l (i + 1) := by
  have h0 := fuel_nonneg t.vd (i + 1) (by omega)
  have hm := fuel_mono t.vd (l.length - (i + 1)) (i + 1) (by omega)
  rw [show i + 1 + (l.length - (i + 1)) = l.length by omega] at hm
  have hl := t.fl
  unfold nextF
  by_cases h1 : i + 1 < l.length
  · have he : l[i + 1]? = some l[i + 1] := List.getElem?_eq_getElem h1
    have h2 := fuel_mono t.vd 1 (i + 1) (by omega)
    have h3 := fuel_mono t.vd (l.length - (i + 2)) (i + 2) (by omega)
    rw [show i + 2 + (l.length - (i + 2)) = l.length by omega] at h3
    rw [fuelAt_succ he] at h2 h3
    rw [he, if_pos h1, fuelAt_succ he]
    exact ⟨rfl, h2, by dsimp only; omega, h0⟩
  · rw [List.getElem?_eq_none (by omega), if_neg h1]
    exact ⟨rfl, by dsimp only; omega, Int.le_refl _, h0⟩
end Go.Proofs.YtabmcfnefjipbaaGreatDoor
