/-
  Part 5 of the proof of names_holds: laws and contracts that it needs.
-/
import Derived.Test.YtgloielnnakknaaDoorQe4
namespace Go.Proofs.YtgloielnnakknaaDoor
open Go.RowKit
theorem pix_cases (m : Nat) : ∀ (ws : List Nat) (k : Nat), (pix m ws k = -1 ∧ (ws.filter fun w => w != m) = ws) ∨ ∃ i : Nat, i < ws.length ∧ pix m ws k = ((k + i : Nat) : Int) ∧ ((ws.take (i + 1)).filter fun w => w != m) = ws.take i
  | [], k => .inl ⟨rfl, rfl⟩
  | w :: r, k => by
    by_cases h : w = m
    · exact .inr ⟨0, by simp, by simp [pix, h], by simp [h]⟩
    · rcases pix_cases m r (k + 1) with ⟨h1, h2⟩ | ⟨i, h1, h2, h3⟩
      · exact .inl ⟨by rw [pix, if_neg h, h1], by rw [List.filter_cons_of_pos (by simpa using h), h2]⟩
      · refine .inr ⟨i + 1, by simpa using h1, by rw [pix, if_neg h, h2]; congr 1; omega, ?_⟩
        rw [List.take_succ_cons, List.filter_cons_of_pos (by simpa using h), h3, List.take_succ_cons]
theorem putR_take {α : Type} (rs new : List α) (n : Nat) (h : n ≤ rs.length) : (putR rs new n).take n = rs.take n := by
  rw [putR, List.append_assoc, List.take_append_of_le_length (by simp; omega), List.take_take, Nat.min_self]
theorem del_rows {α : Type} (rs z : List α) (i : Nat) (hi : i < rs.length) : (putR (putR rs ((rs.drop (i + 1)).take (rs.length - (i + 1))) i) z (i + (rs.length - (i + 1)))).take (rs.length - 1) = rs.eraseIdx i := by
  have e1 : (rs.drop (i + 1)).take (rs.length - (i + 1)) = rs.drop (i + 1) := List.take_of_length_le (by simp)
  have e2 : i + (rs.length - (i + 1)) = rs.length - 1 := by omega
  have e3 : putR rs (rs.drop (i + 1)) i = rs.eraseIdx i ++ rs.drop (i + (rs.length - (i + 1))) := by
    rw [putR, List.eraseIdx_eq_take_drop_succ]; simp
  have e4 : (rs.eraseIdx i).length = rs.length - 1 := List.length_eraseIdx_of_lt hi
  rw [e1, e3, e2, putR, List.append_assoc, List.take_append_of_le_length (by simp; omega), List.take_take, Nat.min_self, List.take_left' e4]
theorem deleteA_T (l : List At) (i : Nat) (hi : i < l.length) (hl : l.length ≤ 1000000) (n0 : Nat) (e0 : n0 = l.length) : CallsA Tryd.prog 71 [.d (.ow 902 n0), di i, di (i + 1)] [(902, .ar 84 2 (l.map At.v))] (Iso (.d (.ow 902 (l.eraseIdx i).length)) [(902, .ar 84 2 ((l.eraseIdx i).map At.v))]) := by
  subst e0
  refine callsA_of_vcO (T := tt) Tryd.func71 rfl rfl rfl rfl rfl ?_
  repeat' ((conv => whnf); first | refine Gs.id ?_ | refine Brn.F (by (try simp only [smT]); first | rfl | omega | fail) ?_ | (refine Bnd.mk (fun hm => ?_); (try simp only [smT] at hm)) | refine Raw.appendIn (T := tt) rfl rfl rfl rfl rfl rfl rfl rfl rfl rfl (by (try simp only [smT]); omega) (by (try simp only [smT]); omega) ?_ | refine Raw.clear (T := tt) rfl rfl rfl rfl rfl rfl rfl (by (try simp only [smT]); omega) ?_ | refine Slc.mk ⟨_, _, rfl, rfl, (by (try simp only [smT]); omega), (by (try simp only [smT]); omega), ?_⟩ | refine Slc3.mk ⟨_, _, _, rfl, rfl, rfl, (by (try simp only [smT]); omega), (by (try simp only [smT]); omega), (by (try simp only [smT]); omega)⟩ ?_ | refine Drw.of (T := tt) (i := 5) [6, 7] [] [(0, true), (1, true), (2, true), (3, true), (4, true), (5, true), (6, false), (7, false)] (by kernel_rfl) ?_)
  all_goals (conv => whnf)
  · have e : i + (l.length - (i + 1)) = (l.eraseIdx i).length := by rw [List.length_eraseIdx_of_lt hi]; omega
    refine RetO.mk ⟨[(902, .k 902)], _, _, .d (.ow rfl e), LeO.tr (m := l.length - 1) rfl rfl ?_ ?_ .nil, rfl, rfl⟩
    · simp only [smT]; omega
    · have := del_rows (l.map At.v) (List.replicate (l.length - (i + (l.length - (i + 1)))) [V.str ⟨#[]⟩, V.pn]) i (by simpa using hi)
      simp only [List.length_map] at this
      rw [this]
      simp only [List.eraseIdx_eq_take_drop_succ, List.map_take, List.map_drop, List.map_append]
abbrev pArr (l : List Nat) : Nat × Ob := (900, .ar 71 1 (ptr1 l))
set_option maxHeartbeats 1000000 in
theorem pdel_T (mods : List Md) (ws : List Nat) (m : Nat) (hl : ws.length ≤ 1000000) (ht : ∀ j ∈ ws, j < mods.length) (hmm : m < mods.length) (n0 : Nat) (e0 : n0 = ws.length) : CallsA Tryd.prog 82 [.d (.ow 900 n0), .d (.u (fnK m))] [pArr ws, (2, .fm 82 (mods.map Md.row))] (Iso (.d (.ow 900 (ws.filter fun w => w != m).length)) [pArr (ws.filter fun w => w != m), (2, .fm 82 (mods.map Md.row))]) := by
  subst e0
  rcases pix_cases m ws 0 with ⟨h1, h2⟩ | ⟨i0, h1, h2, h3⟩
  · rw [h2]
    have hx := pindex_T mods ws m hl ht hmm
    rw [h1] at hx
    refine callsA_of_vcO (T := tt) Tryd.func82 rfl rfl rfl rfl rfl ?_
    repeat' ((conv => whnf); first | refine Gs.id ?_ | with_reducible refine Brn.T rfl ?_ | (refine CL.mk (Or.inr (Raw.callB [2] [2] rfl rfl rfl rfl rfl rfl rfl (by (conv => whnf); (repeat (refine Len.mk (by first | rfl | (simp; done) | fail) ?_)); exact trivial) (hx) (by rintro _ _ ⟨rfl, rfl⟩; exact ⟨⟨_, rfl, rfl⟩, mdOb_mf mods⟩) ?_)); rintro _ _ ⟨rfl, rfl⟩; refine Bk.mk rfl rfl ?_))
    all_goals (conv => whnf)
    all_goals exact RetO.mk ⟨[(900, .k 900)], _, _, (by first | exact LeS.d (by first | exact LeD.ow rfl rfl | fail) | fail), (by repeat (first | exact LeO.nil | refine LeO.ar rfl rfl (by first | rfl | fail) ?_ | refine LeO.fm rfl (by first | rfl | fail) ?_ | fail)), rfl, rfl⟩
  · have hx := pindex_T mods ws m hl ht hmm
    rw [h2, Nat.zero_add] at hx
    refine callsA_of_vcO (T := tt) Tryd.func82 rfl rfl rfl rfl rfl ?_
    repeat' ((conv => whnf); first | refine Gs.id ?_ | with_reducible refine Brn.F rfl ?_ | refine Rng.mk (by (try simp only [smT]); omega) ?_ | (refine CL.mk (Or.inr (Raw.callB [2] [2] rfl rfl rfl rfl rfl rfl rfl (by (conv => whnf); (repeat (refine Len.mk (by first | rfl | (simp; done) | fail) ?_)); exact trivial) (hx) (by rintro _ _ ⟨rfl, rfl⟩; exact ⟨⟨_, rfl, rfl⟩, mdOb_mf mods⟩) ?_)); rintro _ _ ⟨rfl, rfl⟩; refine Bk.mk rfl rfl ?_))
    all_goals (conv => whnf)
    · refine ⟨⟨Nat × Nat × List Nat, fun x => x.1 < x.2.1 ∧ x.2.1 ≤ ws.length ∧ x.2.2.length = ws.length ∧ x.2.2.take x.1 = ((ws.take x.2.1).filter fun w => w != m) ∧ x.2.2.drop x.2.1 = ws.drop x.2.1, fun x => ws.length - x.2.1, fun x => ⟨[(0, .d (.ow 900 ws.length)), (1, .d (.u (fnK m))), (5, di x.1), (6, di x.2.1)], [pArr x.2.2, (2, .fm 82 (mods.map Md.row))]⟩, (i0, i0 + 1, ws), ⟨by dsimp only; omega, by dsimp only; omega, rfl, h3.symm, rfl⟩, ⟨[(900, .k 900), (2, .k 2)], ⟨by (try dsimp only); (repeat (refine LeT.cons rfl (by first | exact LeS.d (by first | exact LeD.u rfl | exact LeD.ow rfl rfl | fail) | fail) ?_)); exact LeT.nil, by (try dsimp only); repeat (first | exact LeO.nil | refine LeO.ar rfl rfl (by first | rfl | fail) ?_ | refine LeO.fm rfl (by first | rfl | fail) ?_ | fail)⟩⟩, fun ⟨i, j, a⟩ ⟨q1, q2, q3, q4, q5⟩ => ?_⟩⟩
      dsimp only at q1 q2 q3 q4 q5 ⊢
      by_cases h9 : j < ws.length
      · have hv : a[j]'(by omega) = ws[j] := by
          have := congrArg List.head? q5
          simpa [List.head?_drop, h9, show j < a.length by omega] using this
        have hjj := ht _ (List.getElem_mem h9)
        obtain ⟨w, hw⟩ : ∃ w, ws[j] = w := ⟨_, rfl⟩
        rw [hw] at hv hjj
        have hrow : ∀ {K : List V → Prop}, K [V.m 2 w 0] → Rw (ptr1 a) j K := fun k => ⟨_, by rw [List.getElem?_map, List.getElem?_eq_getElem (show j < a.length by omega), hv]; rfl, k⟩
        have hn := mk1_T mods w m hjj hmm
        by_cases hx : w = m
        · rw [decide_eq_true hx] at hn
          repeat' ((conv => whnf); first | refine hrow ?_ | refine Gs.id ?_ | with_reducible refine Brn.F rfl ?_ | refine Brn.T (by (try simp only [smT]); first | rfl | omega | fail) ?_ | (refine Bnd.mk (fun hm => ?_); (try simp only [smT] at hm)) | refine Rng.mk (by (try simp only [smT]); omega) ?_ | refine Ixo.mk ⟨_, rfl, (by (try simp only [smT]); omega), ?_⟩ | (refine Raw.callF [2] [2] rfl rfl rfl rfl rfl rfl rfl rfl (hn) ?_; rintro _ _ ⟨rfl, rfl⟩; refine Bk.mk rfl rfl ?_))
          all_goals (conv => whnf)
          all_goals refine ⟨(i, j + 1, a), ⟨by dsimp only; omega, by dsimp only; omega, q3, ?_, ?_⟩, by dsimp only; omega, [(900, .k 900), (2, .k 2)], ⟨by (try dsimp only); (repeat (refine LeT.cons rfl (by first | exact LeS.d (by first | exact LeD.u rfl | exact LeD.ow rfl rfl | fail) | fail) ?_)); exact LeT.nil, by (try dsimp only); repeat (first | exact LeO.nil | refine LeO.ar rfl rfl (by first | rfl | fail) ?_ | refine LeO.fm rfl (by first | rfl | fail) ?_ | fail)⟩⟩
          · dsimp only
            rw [List.take_succ_eq_append_getElem h9, List.filter_append, ← q4, hw, List.filter_cons_of_neg (by simpa using hx), List.filter_nil, List.append_nil]
          · dsimp only
            rw [← List.tail_drop, q5, List.tail_drop]
        · rw [decide_eq_false hx] at hn
          repeat' ((conv => whnf); first | refine hrow ?_ | refine Gs.id ?_ | with_reducible refine Brn.T rfl ?_ | refine Brn.T (by (try simp only [smT]); first | rfl | omega | fail) ?_ | (refine Bnd.mk (fun hm => ?_); (try simp only [smT] at hm)) | refine Rng.mk (by (try simp only [smT]); omega) ?_ | refine Ixo.mk ⟨_, rfl, (by (try simp only [smT]); omega), ?_⟩ | refine Rw.map (by (try simp only [smT]); omega) ?_ | (refine Raw.callF [2] [2] rfl rfl rfl rfl rfl rfl rfl rfl (hn) ?_; rintro _ _ ⟨rfl, rfl⟩; refine Bk.mk rfl rfl ?_))
          all_goals (conv => whnf)
          all_goals refine ⟨(i + 1, j + 1, a.set i w), ⟨by dsimp only; omega, by dsimp only; omega, by simp [q3], ?_, ?_⟩, by dsimp only; omega, [(900, .k 900), (2, .k 2)], ⟨by (try dsimp only); (repeat (refine LeT.cons rfl (by first | exact LeS.d (by first | exact LeD.u rfl | exact LeD.ow rfl rfl | fail) | fail) ?_)); exact LeT.nil, by (try dsimp only); repeat (first | exact LeO.nil | refine LeO.ar rfl rfl (by first | rfl | simp [List.map_set]) ?_ | refine LeO.fm rfl (by first | rfl | fail) ?_ | fail)⟩⟩
          · dsimp only
            rw [List.take_succ_eq_append_getElem h9, List.filter_append, ← q4, hw, List.filter_cons_of_pos (by simpa using hx), List.filter_nil, List.take_succ_eq_append_getElem (by simp; omega), List.take_set_of_le (Nat.le_refl _), List.getElem_set_self]
          · dsimp only
            rw [List.drop_set_of_lt (by omega), ← List.tail_drop, q5, List.tail_drop]
      · obtain rfl : j = ws.length := by omega
        rw [List.take_length] at q4
        repeat' ((conv => whnf); first | refine Gs.id ?_ | refine Brn.F (by (try simp only [smT]); first | rfl | omega | fail) ?_ | (refine Bnd.mk (fun hm => ?_); (try simp only [smT] at hm)) | refine Raw.clear (T := tt) rfl rfl rfl rfl rfl rfl rfl (by (try simp only [smT]); omega) ?_ | refine Slc.mk ⟨_, _, rfl, rfl, (by (try simp only [smT]); omega), (by (try simp only [smT]); omega), ?_⟩ | fail)
        all_goals (conv => whnf)
        have hl2 : i = (ws.filter fun w => w != m).length := by rw [← q4]; simp; omega
        refine RetO.mk ⟨[(900, .k 900), (2, .k 2)], _, _, .d (.ow rfl hl2), LeO.tr (m := i) rfl rfl ?_ ?_ (LeO.fm rfl rfl .nil), rfl, rfl⟩
        · simp [putR]; omega
        · rw [putR_take _ _ _ (by simp; omega), ← List.map_take, q4]
end Go.Proofs.YtgloielnnakknaaDoor
namespace Go.Proofs.YtgloielnnakknaaDoor
open Go.RowKit
theorem mdrop_T (us : List Un) (mods : List Md) (table : List Nat) (log : List Ev) (full : Bool) (i : Nat) (mn : ByteArray) (mr : Int) (ma : List At) (hmd : mods[i]? = some ⟨mn, mr, ma⟩) (hl : ma.length ≤ 1000000) (k : Nat) (hkl : k < ma.length) : CallsA Tryd.prog 61 [mdP i, di k] (ldOb us mods table log full) (Iso (.t []) (ldOb us (mods.set i ⟨mn, mr, ma.eraseIdx k⟩) table log full)) := by
  have hi := lt_get hmd
  have hc := deleteA_T ma k hkl hl
  refine callsA_of_vcO (T := tt) Tryd.func61 rfl rfl rfl rfl rfl ?_
  repeat' ((conv => whnf); first | refine Rw_md hmd ?_ | refine Rw.self (by simpa using hi) ?_ | refine Gs.id ?_ | refine Rng.mk (by (try simp only [smT]); omega) ?_ | refine Len.mk (by first | rfl | (simp; done) | fail) ?_ | (refine CL.mk (Or.inr (Raw.take 902 8 rfl rfl rfl ((by rw [List.getElem?_map, hmd]; rfl)) rfl rfl rfl (Raw.callI [902] [902] rfl rfl rfl rfl rfl rfl rfl (hc _ (by simp)) ?_))); rintro _ _ ⟨rfl, rfl⟩; refine Bk.mk rfl rfl ?_))
  all_goals (conv => whnf)
  all_goals exact RetO.mk ⟨[], _, _, .ts .nil, LeO.fm rfl rfl (LeO.fm rfl (by simp [List.map_set, Md.row]) .nil), rfl, rfl⟩
def cutM (s : ByteArray) : ByteArray := if 0 ≤ cutI s then s.extract 0 (cutI s).toNat else s
def cutA (s : ByteArray) : ByteArray := if 0 ≤ cutI s then s.extract ((cutI s).toNat + 1) s.size else emp
theorem idx_lt : ∀ (l : List UInt8), 0 ≤ Go.Lib.indexByte l 46 → (Go.Lib.indexByte l 46).toNat < l.length
  | [], h => by simp [Go.Lib.indexByte] at h
  | b :: l, h => by
    by_cases hb : b = 46
    · subst hb; simp [Go.Lib.indexByte]
    · have h4 : (b == 46) = false := by simpa using hb
      rw [Go.Lib.indexByte, h4] at h ⊢
      simp only [Bool.false_eq_true, if_false] at h ⊢
      by_cases h5 : Go.Lib.indexByte l 46 = -1
      · rw [h5] at h; simp at h
      · have h6 : (Go.Lib.indexByte l 46 == -1) = false := by simpa using h5
        rw [h6] at h ⊢
        simp only [Bool.false_eq_true, if_false] at h ⊢
        by_cases h7 : 0 ≤ Go.Lib.indexByte l 46
        · have := idx_lt l h7
          rw [List.length_cons]; omega
        · rw [List.length_cons]; omega
theorem cutI_lt (s : ByteArray) (h : 0 ≤ cutI s) : (cutI s).toNat < s.size := by
  have := idx_lt s.data.toList h
  simpa [cutI] using this
theorem cut0_T (s : ByteArray) (hs : s.size ≤ 1000000) : CallsA Tryd.prog 75 [dsr s, dsr dot] [] (Is (.t [.d (.u (.str (cutM s))), .d (.u (.str (cutA s))), .d (.u (.bool (decide (0 ≤ cutI s))))])) := by
  have h := indexS_T s
  by_cases h0 : 0 ≤ cutI s
  · obtain ⟨m, hm0⟩ : ∃ m : Nat, cutI s = m := ⟨(cutI s).toNat, by omega⟩
    have hlt := cutI_lt s h0
    have e1 : cutM s = s.extract 0 m := by rw [cutM, if_pos h0, hm0]; rfl
    have e2 : cutA s = s.extract (m + 1) s.size := by rw [cutA, if_pos h0, hm0]; rfl
    rw [e1, e2, decide_eq_true h0]
    rw [hm0] at h hlt
    simp only [Int.toNat_natCast] at hlt
    have hd : dot.size = 1 := rfl
    refine callsA_of_vc (T := tt) Tryd.func75 rfl rfl rfl rfl rfl ?_
    repeat' ((conv => whnf); first | refine Gs.id ?_ | with_reducible refine Brn.T rfl ?_ | (refine Bnd.mk (fun hm => ?_); (try simp only [smT] at hm)) | refine Rng.mk (by (try simp only [smT]); omega) ?_ | refine Slc.mk ⟨_, _, rfl, rfl, (by (try simp only [smT]); omega), (by (try simp only [smT]); omega), ?_⟩ | refine Drw.of (T := tt) (i := 3) [] [] [(0, true), (1, true), (2, true), (3, true), (4, true), (5, true), (6, true), (7, true), (8, true), (9, true), (10, true), (11, true)] (by kernel_rfl) ?_ | (refine CL.mk (Or.inl ?_); (conv => whnf); refine Cl.is (h) rfl (by first | exact fun _ => rfl | fail) ?_) | fail)
    all_goals (conv => whnf)
    all_goals exact Ret.is rfl
  · have e1 : cutM s = s := by rw [cutM, if_neg h0]
    have e2 : cutA s = emp := by rw [cutA, if_neg h0]
    rw [e1, e2, decide_eq_false h0]
    refine callsA_of_vc (T := tt) Tryd.func75 rfl rfl rfl rfl rfl ?_
    repeat' ((conv => whnf); first | refine Gs.id ?_ | refine Brn.F (by (try simp only [smT]); first | rfl | omega | fail) ?_ | (refine CL.mk (Or.inl ?_); (conv => whnf); refine Cl.is (h) rfl (by first | exact fun _ => rfl | fail) ?_) | fail)
    all_goals (conv => whnf)
    all_goals exact Ret.is rfl
theorem cut_T (s : ByteArray) (hs : s.size ≤ 1000000) : CallsA Tryd.prog 64 [dsr s, dsr dot] [] (Is (.t [.d (.u (.str (cutM s))), .d (.u (.str (cutA s))), .d (.u (.bool (decide (0 ≤ cutI s))))])) := by
  have h := cut0_T s hs
  refine callsA_of_vc (T := tt) Tryd.func64 rfl rfl rfl rfl rfl ?_
  repeat' ((conv => whnf); first | refine Gs.id ?_ | (refine CL.mk (Or.inl ?_); (conv => whnf); refine Cl.is (h) rfl (by first | exact fun _ => rfl | fail) ?_) | fail)
  all_goals (conv => whnf)
  all_goals exact Ret.is rfl
end Go.Proofs.YtgloielnnakknaaDoor
namespace Go.Proofs.YtgloielnnakknaaDoor
open Go.RowKit
structure Ld where
  mods : List Md
  table : List Nat
  log : List Ev
  full : Bool
def updM (mods : List Md) (i : Nat) (f : Md → Md) : List Md := match mods[i]? with
  | some m => mods.set i (f m)
  | none => mods
def noteS (s : Ld) (k : Int) (n : ByteArray) : Ld := ⟨s.mods, s.table, noteLog s.log s.full k n, noteFull s.log s.full⟩
def updS (s : Ld) (i : Nat) (f : Md → Md) : Ld := ⟨updM s.mods i f, s.table, s.log, s.full⟩
def setS (s : Ld) (i : Nat) (n : ByteArray) (v : Option Nat) : Ld := updS s i fun m => ⟨m.name, m.run, setA m.ats n v⟩
def dropS (s : Ld) (i : Nat) (n : ByteArray) : Ld := updS s i fun m => ⟨m.name, m.run, dropA m.ats n⟩
def runS (s : Ld) (i : Nat) (d : Int) : Ld := updS s i fun m => ⟨m.name, m.run + d, m.ats⟩
def nameS (s : Ld) (i : Nat) : ByteArray := (nmOf s.mods i).getD emp
def atsS (s : Ld) (i : Nat) : List At := match s.mods[i]? with
  | some m => m.ats
  | none => []
def runOf (s : Ld) (i : Nat) : Int := match s.mods[i]? with
  | some m => m.run
  | none => 0
def findS (s : Ld) (n : ByteArray) : Option Nat := tfind s.mods n s.table
def unitS : List Un → ByteArray → List Stp
  | [], _ => []
  | u :: r, n => if n = u.name then u.steps else unitS r n
def hasU : List Un → ByteArray → Bool
  | [], _ => false
  | u :: r, n => if n = u.name then true else hasU r n
def stepsW (St : Ld → Nat → Stp → Ld × Bool) (i : Nat) : Ld → List Stp → Ld × Bool
  | s, [] => (s, true)
  | s, t :: r => if s.full = true then (s, false) else if (St s i t).2 = true then stepsW St i (St s i t).1 r else ((St s i t).1, false)
/-- Ahead of the steps of a run. -/
def beginS (s : Ld) (i : Nat) : Ld := runS (noteS s 1 (nameS s i)) i 1
def endS (s : Ld) (i : Nat) (ok : Bool) : Ld := noteS (runS s i (-1)) (if ok = true then 2 else 3) (nameS s i)
def runW (St : Ld → Nat → Stp → Ld × Bool) (us : List Un) (s : Ld) (i : Nat) : Ld × Bool := (endS (stepsW St i (beginS s i) (unitS us (nameS s i))).1 i (stepsW St i (beginS s i) (unitS us (nameS s i))).2, (stepsW St i (beginS s i) (unitS us (nameS s i))).2)
def dotAt (n : ByteArray) : Int := lastB n 46 n.size
def parB (n : ByteArray) : ByteArray := n.extract 0 (dotAt n).toNat
def lastP (n : ByteArray) : ByteArray := if 0 ≤ dotAt n then n.extract ((dotAt n).toNat + 1) n.size else n
def pushS (s : Ld) (n : ByteArray) : Ld := ⟨s.mods ++ [⟨n, 0, []⟩], s.table ++ [s.mods.length], s.log, s.full⟩
/-- Where the parent of a new module stands. -/
def parS (s : Ld) (n : ByteArray) : Option Nat := if 0 ≤ dotAt n then findS (pushS s n) (parB n) else none
def linkS (s : Ld) (n : ByteArray) : Ld := match parS s n with
  | some p => setS (pushS s n) p (lastP n) (some s.mods.length)
  | none => pushS s n
def goneS (s : Ld) (i : Nat) (p : Option Nat) (n : ByteArray) : Ld := match p with
  | some p => if lookA (atsS s p) n = some (some i) then dropS ⟨s.mods, s.table.filter fun j => j != i, s.log, s.full⟩ p n else ⟨s.mods, s.table.filter fun j => j != i, s.log, s.full⟩
  | none => ⟨s.mods, s.table.filter fun j => j != i, s.log, s.full⟩
def makeW (R : Ld → Nat → Ld × Bool) (s : Ld) (n : ByteArray) : Ld × Bool := if (R (linkS s n) s.mods.length).2 = true then R (linkS s n) s.mods.length else (goneS (R (linkS s n) s.mods.length).1 s.mods.length (parS s n) (lastP n), false)
def loadW (R : Ld → Nat → Ld × Bool) (us : List Un) : Ld → List ByteArray → Ld × Bool
  | s, [] => (s, true)
  | s, n :: r => match findS s n with
    | some j => loadW R us (noteS s (if 0 < runOf s j then 5 else 4) n) r
    | none => if hasU us n = true then (if (makeW R s n).2 = true then loadW R us (makeW R s n).1 r else ((makeW R s n).1, false)) else (noteS s 6 n, false)
def wholeB (t : Stp) : ByteArray := t.name ++ dot ++ t.part
def partW (R : Ld → Nat → Ld × Bool) (us : List Un) (s : Ld) (i : Nat) (t : Stp) : Ld × Bool := match findS s t.name with
  | none => (s, false)
  | some j => match lookA (atsS s j) t.part with
    | some v => (setS s i t.part v, true)
    | none => if hasU us (wholeB t) = true then (if (loadW R us s (chainM (wholeB t))).2 = true then (setS (loadW R us s (chainM (wholeB t))).1 i t.part (findS (loadW R us s (chainM (wholeB t))).1 (wholeB t)), true) else ((loadW R us s (chainM (wholeB t))).1, false)) else (s, false)
def stepW (R : Ld → Nat → Ld × Bool) (us : List Un) (s : Ld) (i : Nat) (t : Stp) : Ld × Bool :=
  if t.kind = 1 then (setS s i t.name none, true)
  else if t.kind = 2 then (if (lookA (atsS s i) t.name).isSome = true then (dropS s i t.name, true) else (s, false))
  else if t.kind = 5 then (match findS s t.name with
    | some j => R s j
    | none => (s, false))
  else if (loadW R us s (chainM t.name)).2 = true then
    (if t.kind = 3 then (setS (loadW R us s (chainM t.name)).1 i (cutM t.name) (findS (loadW R us s (chainM t.name)).1 (cutM t.name)), true)
    else partW R us (loadW R us s (chainM t.name)).1 i t)
  else ((loadW R us s (chainM t.name)).1, false)
def runM (us : List Un) : Nat → Ld → Nat → Ld × Bool
  | 0 => runW (fun s _ _ => (s, false)) us
  | n + 1 => runW (stepW (runM us n) us) us
/-- How many events can still come. -/
def left (s : Ld) : Nat := if s.full = true then 0 else 5001 - s.log.length
/-- Names that attributes can have. -/
def namesA (us : List Un) : List ByteArray := us.flatMap fun u => lastP u.name :: u.steps.flatMap fun t => [t.name, t.part, cutM t.name]
structure Uok (us : List Un) : Prop where
  len : us.length ≤ 40
  name : ∀ u ∈ us, u.name.size ≤ 60
  steps : ∀ u ∈ us, u.steps.length ≤ 30
  step : ∀ u ∈ us, ∀ t ∈ u.steps, t.name.size ≤ 60 ∧ t.part.size ≤ 60
structure Inv (us : List Un) (s : Ld) : Prop where
  log : s.log.length ≤ 5000
  tab : ∀ j ∈ s.table, j < s.mods.length
  tnd : (s.table.map (nmOf s.mods)).Nodup
  nm : ∀ m ∈ s.mods, hasU us m.name = true
  nd : ∀ m ∈ s.mods, (m.ats.map At.name).Nodup
  sub : ∀ m ∈ s.mods, ∀ a ∈ m.ats, a.name ∈ namesA us
  ptr : ∀ m ∈ s.mods, ∀ a ∈ m.ats, ∀ j, a.mod = some j → j < s.mods.length
structure Keep (s s' : Ld) : Prop where
  len : s.mods.length ≤ s'.mods.length
  get : ∀ (i : Nat) m, s.mods[i]? = some m → ∃ m', s'.mods[i]? = some m' ∧ m'.name = m.name ∧ m'.run = m.run
  new : ∀ (i : Nat) m, s.mods.length ≤ i → s'.mods[i]? = some m → m.run = 0
  log : s.log.length ≤ s'.log.length
  full : s.full = true → s'.full = true
def RunB (s : Ld) (n : Nat) : Prop := ∀ m ∈ s.mods, 0 ≤ m.run ∧ m.run + n ≤ 10000
theorem Keep.refl (s : Ld) : Keep s s := ⟨Nat.le_refl _, fun _ m h => ⟨m, h, rfl, rfl⟩, fun i m h1 h2 => by have := lt_get h2; omega, Nat.le_refl _, id⟩
theorem Keep.trans {a b c : Ld} (h : Keep a b) (k : Keep b c) : Keep a c := ⟨Nat.le_trans h.len k.len, fun i m e => by
  obtain ⟨m1, q1, q2, q3⟩ := h.get i m e
  obtain ⟨m2, r1, r2, r3⟩ := k.get i m1 q1
  exact ⟨m2, r1, r2.trans q2, r3.trans q3⟩, fun i m h1 h2 => by
  by_cases hi : b.mods.length ≤ i
  · exact k.new i m hi h2
  · have hlt : i < b.mods.length := by omega
    have e := List.getElem?_eq_getElem hlt
    obtain ⟨m2, r1, _, r3⟩ := k.get i _ e
    rw [h2] at r1
    injection r1 with r1
    subst r1
    rw [r3]
    exact h.new i _ h1 e, Nat.le_trans h.log k.log, fun e => k.full (h.full e)⟩
theorem Keep.lf {s s' : Ld} (h : Keep s s') : left s' ≤ left s := by
  unfold left
  have h1 := h.full
  have h2 := h.log
  cases hf : s.full <;> cases hf' : s'.full <;> simp_all <;> omega
theorem Keep.runB {s s' : Ld} {n : Nat} (h : Keep s s') (b : RunB s n) (hn : n ≤ 10000) : RunB s' n := fun m hm => by
  obtain ⟨i, hi⟩ := List.getElem?_of_mem hm
  by_cases hlt : s.mods.length ≤ i
  · rw [h.new i m hlt hi]; omega
  · have e := List.getElem?_eq_getElem (show i < s.mods.length by omega)
    obtain ⟨m2, r1, _, r3⟩ := h.get i _ e
    rw [hi] at r1
    injection r1 with r1
    subst r1
    rw [r3]
    exact b _ (List.mem_of_getElem? e)
theorem Keep.nm {s s' : Ld} (h : Keep s s') {j : Nat} {n : ByteArray} (e : nmOf s.mods j = some n) : nmOf s'.mods j = some n := by
  unfold nmOf at *
  cases hm : s.mods[j]? with
  | none => rw [hm] at e; cases e
  | some m =>
    obtain ⟨m', q1, q2, _⟩ := h.get j m hm
    rw [hm] at e
    rw [q1]
    simp only [Option.map_some] at e ⊢
    rw [q2]; exact e
theorem noteFull_mono {log : List Ev} {full : Bool} (h : full = true) : noteFull log full = true := by simp [noteFull, h]
theorem noteLog_len (log : List Ev) (full : Bool) (k : Int) (n : ByteArray) (h : log.length ≤ 5000) : log.length ≤ (noteLog log full k n).length ∧ (noteLog log full k n).length ≤ 5000 := by
  unfold noteLog
  split
  · exact ⟨Nat.le_refl _, h⟩
  · rename_i hf
    simp [noteFull] at hf
    simp; omega
theorem Keep.note (s : Ld) (k : Int) (n : ByteArray) (h : s.log.length ≤ 5000) : Keep s (noteS s k n) := ⟨Nat.le_refl _, fun _ m h => ⟨m, h, rfl, rfl⟩, fun i m h1 h2 => by have : i < s.mods.length := lt_get h2; omega, (noteLog_len _ _ _ _ h).1, noteFull_mono⟩
theorem Inv.note {us : List Un} {s : Ld} (h : Inv us s) (k : Int) (n : ByteArray) : Inv us (noteS s k n) := ⟨(noteLog_len _ _ _ _ h.log).2, h.tab, h.tnd, h.nm, h.nd, h.sub, h.ptr⟩
theorem left_note (s : Ld) (k : Int) (n : ByteArray) (h : s.log.length ≤ 5000) : left (noteS s k n) = left s - 1 := by
  unfold left noteS noteLog noteFull
  cases hf : s.full
  · by_cases h5 : s.log.length = 5000
    · simp [h5]
    · simp [h5]; omega
  · simp
theorem updM_len (mods : List Md) (i : Nat) (f : Md → Md) : (updM mods i f).length = mods.length := by
  unfold updM; split <;> simp
theorem updM_get (mods : List Md) (i : Nat) (f : Md → Md) (j : Nat) : (updM mods i f)[j]? = (mods[j]?).map fun m => if j = i then f m else m := by
  unfold updM
  cases hm : mods[i]? with
  | none =>
    simp only
    by_cases h : j = i
    · subst h; rw [hm]; rfl
    · simp [h]
  | some m =>
    simp only
    rw [List.getElem?_set]
    by_cases h : i = j
    · subst h; have e := (List.getElem?_eq_some_iff.1 hm).2; simp [lt_get hm, e]
    · rw [if_neg h]
      have : ¬ j = i := fun e => h e.symm
      simp [this]
theorem updM_mem {mods : List Md} {i : Nat} {f : Md → Md} {m : Md} (h : m ∈ updM mods i f) : ∃ m0 ∈ mods, m = f m0 ∨ m = m0 := by
  obtain ⟨j, hj⟩ := List.getElem?_of_mem h
  rw [updM_get] at hj
  cases hm : mods[j]? with
  | none => rw [hm] at hj; cases hj
  | some m0 =>
    rw [hm] at hj
    simp only [Option.map_some, Option.some.injEq] at hj
    refine ⟨m0, List.mem_of_getElem? hm, ?_⟩
    split at hj
    · exact .inl hj.symm
    · exact .inr hj.symm
theorem nmOf_upd {mods : List Md} {i : Nat} {f : Md → Md} (hf : ∀ m, (f m).name = m.name) (j : Nat) : nmOf (updM mods i f) j = nmOf mods j := by
  unfold nmOf
  rw [updM_get]
  cases mods[j]? with
  | none => rfl
  | some m =>
    simp only [Option.map_some]
    split
    · rw [hf]
    · rfl
theorem Keep.upd {s : Ld} {i : Nat} {f : Md → Md} (h1 : ∀ m, (f m).name = m.name) (h2 : ∀ m, (f m).run = m.run) : Keep s (updS s i f) := ⟨by simp [updS, updM_len], fun j m e => by
  refine ⟨if j = i then f m else m, by simp only [updS, updM_get, e, Option.map_some], ?_, ?_⟩
  · split
    · exact h1 m
    · rfl
  · split
    · exact h2 m
    · rfl, fun j m q1 q2 => by have := lt_get q2; simp [updS, updM_len] at this; omega, Nat.le_refl _, id⟩
theorem Keep.set (s : Ld) (i : Nat) (n : ByteArray) (v : Option Nat) : Keep s (setS s i n v) := .upd (fun _ => rfl) fun _ => rfl
theorem Keep.drop (s : Ld) (i : Nat) (n : ByteArray) : Keep s (dropS s i n) := .upd (fun _ => rfl) fun _ => rfl
theorem Inv.upd {us : List Un} {s : Ld} (h : Inv us s) {i : Nat} {f : Md → Md} (h1 : ∀ m, (f m).name = m.name) (h2 : ∀ m ∈ s.mods, ((f m).ats.map At.name).Nodup) (h3 : ∀ m ∈ s.mods, ∀ a ∈ (f m).ats, a.name ∈ namesA us ∧ ∀ j, a.mod = some j → j < s.mods.length) : Inv us (updS s i f) := by
  refine ⟨h.log, fun j hj => by simp only [updS, updM_len]; exact h.tab j hj, ?_, fun m hm => ?_, fun m hm => ?_, fun m hm => ?_, fun m hm => ?_⟩
  · have : (updS s i f).table.map (nmOf (updS s i f).mods) = s.table.map (nmOf s.mods) := List.map_congr_left fun j _ => nmOf_upd h1 j
    rw [this]; exact h.tnd
  · obtain ⟨m0, q1, rfl | rfl⟩ := updM_mem hm
    · rw [h1]; exact h.nm m0 q1
    · exact h.nm _ q1
  · obtain ⟨m0, q1, rfl | rfl⟩ := updM_mem hm
    · exact h2 m0 q1
    · exact h.nd _ q1
  · obtain ⟨m0, q1, rfl | rfl⟩ := updM_mem hm
    · exact fun a ha => (h3 m0 q1 a ha).1
    · exact h.sub _ q1
  · intro a ha j hj
    simp only [updS, updM_len]
    obtain ⟨m0, q1, rfl | rfl⟩ := updM_mem hm
    · exact (h3 m0 q1 a ha).2 j hj
    · exact h.ptr _ q1 a ha j hj
theorem setA_mem {l : List At} {n : ByteArray} {v : Option Nat} {a : At} (h : a ∈ setA l n v) : a ∈ l ∨ a = ⟨n, v⟩ := by
  induction l with
  | nil => simp [setA] at h; exact .inr h
  | cons b r ih =>
    simp only [setA] at h
    split at h
    · rcases List.mem_cons.1 h with h | h
      · exact .inr h
      · exact .inl (List.mem_cons_of_mem _ h)
    · rcases List.mem_cons.1 h with h | h
      · exact .inl (by rw [h]; exact List.mem_cons_self)
      · exact (ih h).imp (List.mem_cons_of_mem _) id
theorem setA_nd {n : ByteArray} {v : Option Nat} : ∀ {l : List At}, (l.map At.name).Nodup → ((setA l n v).map At.name).Nodup
  | [], _ => by simp [setA]
  | b :: r, h => by
    simp only [List.map_cons, List.nodup_cons] at h
    simp only [setA]
    split
    · rename_i e
      simp only [List.map_cons, List.nodup_cons]
      exact ⟨by rw [← e]; exact h.1, h.2⟩
    · rename_i e
      simp only [List.map_cons, List.nodup_cons]
      refine ⟨fun hm => ?_, setA_nd h.2⟩
      obtain ⟨a, ha, q⟩ := List.mem_map.1 hm
      rcases setA_mem ha with ha | ha
      · exact h.1 (List.mem_map.2 ⟨a, ha, q⟩)
      · subst ha; exact e q.symm
theorem dropA_sub (n : ByteArray) : ∀ l, (dropA l n).Sublist l
  | [] => .slnil
  | b :: r => by
    simp only [dropA]
    split
    · exact List.sublist_cons_self _ _
    · exact (dropA_sub n r).cons_cons _
theorem Inv.set {us : List Un} {s : Ld} (h : Inv us s) (i : Nat) {n : ByteArray} {v : Option Nat} (hn : n ∈ namesA us) (hv : ∀ j, v = some j → j < s.mods.length) : Inv us (setS s i n v) := by
  refine h.upd (fun _ => rfl) (fun m hm => setA_nd (h.nd m hm)) fun m hm a ha => ?_
  rcases setA_mem ha with ha | rfl
  · exact ⟨h.sub m hm a ha, h.ptr m hm a ha⟩
  · exact ⟨hn, hv⟩
theorem Inv.drop {us : List Un} {s : Ld} (h : Inv us s) (i : Nat) (n : ByteArray) : Inv us (dropS s i n) := by
  refine h.upd (fun _ => rfl) (fun m hm => (h.nd m hm).sublist ((dropA_sub n m.ats).map _)) fun m hm a ha => ?_
  have ha := (dropA_sub n m.ats).subset ha
  exact ⟨h.sub m hm a ha, h.ptr m hm a ha⟩
theorem tfind_mem {mods : List Md} {n : ByteArray} : ∀ {l : List Nat} {j : Nat}, tfind mods n l = some j → j ∈ l ∧ nmOf mods j = some n
  | [], j, h => by cases h
  | k :: r, j, h => by
    simp only [tfind] at h
    split at h
    · rename_i e; injection h with h; subst h; exact ⟨List.mem_cons_self, e⟩
    · obtain ⟨q1, q2⟩ := tfind_mem h; exact ⟨List.mem_cons_of_mem _ q1, q2⟩
theorem tfind_some {mods : List Md} {n : ByteArray} : ∀ {l : List Nat} {j : Nat}, j ∈ l → nmOf mods j = some n → ∃ k, tfind mods n l = some k
  | k :: r, j, h, e => by
    simp only [tfind]
    split
    · exact ⟨_, rfl⟩
    · rcases List.mem_cons.1 h with rfl | h
      · rename_i hne; exact absurd e hne
      · exact tfind_some h e
theorem Inv.find {us : List Un} {s : Ld} (h : Inv us s) {n : ByteArray} : ∀ j, findS s n = some j → j < s.mods.length := fun j e => h.tab j (tfind_mem e).1
theorem hasU_mem : ∀ {us : List Un} {n : ByteArray}, hasU us n = true → ∃ u ∈ us, u.name = n
  | u :: r, n, h => by
    simp only [hasU] at h
    split at h
    · rename_i e; exact ⟨u, List.mem_cons_self, e.symm⟩
    · obtain ⟨v, q1, q2⟩ := hasU_mem h; exact ⟨v, List.mem_cons_of_mem _ q1, q2⟩
  | [], _, h => by cases h
theorem unitS_mem : ∀ {us : List Un} {n : ByteArray} {t : Stp}, t ∈ unitS us n → ∃ u ∈ us, t ∈ u.steps
  | u :: r, n, t, h => by
    simp only [unitS] at h
    split at h
    · exact ⟨u, List.mem_cons_self, h⟩
    · obtain ⟨v, q1, q2⟩ := unitS_mem h; exact ⟨v, List.mem_cons_of_mem _ q1, q2⟩
  | [], _, _, h => by cases h
theorem namesA_step {us : List Un} {u : Un} {t : Stp} (hu : u ∈ us) (ht : t ∈ u.steps) : t.name ∈ namesA us ∧ t.part ∈ namesA us ∧ cutM t.name ∈ namesA us := by
  have key : ∀ x, x ∈ [t.name, t.part, cutM t.name] → x ∈ namesA us := fun x hx => by
    unfold namesA
    exact List.mem_flatMap.2 ⟨u, hu, List.mem_cons_of_mem _ (List.mem_flatMap.2 ⟨t, ht, hx⟩)⟩
  exact ⟨key _ (by simp), key _ (by simp), key _ (by simp)⟩
theorem namesA_last {us : List Un} {n : ByteArray} (h : hasU us n = true) : lastP n ∈ namesA us := by
  obtain ⟨u, hu, rfl⟩ := hasU_mem h
  exact List.mem_flatMap.2 ⟨u, hu, List.mem_cons_self⟩
end Go.Proofs.YtgloielnnakknaaDoor
namespace Go.Proofs.YtgloielnnakknaaDoor
open Go.RowKit
/-- A module of the reference. -/
structure Rm where
  name : ByteArray
  act : Int
  gone : Bool
  nms : List ByteArray
  vals : List Int
def sv1 (n : ByteArray) : List V := [.str n]
def iv1 (n : Int) : List V := [.int .i64 n]
def Rm.row (m : Rm) : List E := [.v (.str m.name), .v (.int .i64 m.act), .v (.bool m.gone), .os 9 1 (m.nms.map sv1), .os 3 1 (m.vals.map iv1)]
structure Wd where
  mods : List Rm
  log : List Ev
  ok : Bool
abbrev wdA (us : List Un) (w : Wd) : SV := .a [.u (uns us), .ow 900 w.mods.length, .ow 901 w.log.length, .u (.bool w.ok)]
abbrev wdO (w : Wd) : List (Nat × Ob) := [(900, .fa 69 5 (w.mods.map Rm.row)), (901, .ar 43 2 (w.log.map Ev.v))]
theorem Rw_rm {l : List Rm} {n : Nat} {t : Rm} {K : List E → Prop} (h : l[n]? = some t) (k : K t.row) : Rw (l.map Rm.row) n K := ⟨_, by simp [h], k⟩
theorem Rw_rs {l : List Rm} {n : Nat} {t : Rm} {row : List E} {K : List E → Prop} (h : l[n]? = some t) (k : K row) : Rw ((l.map Rm.row).set n row) n K := ⟨row, by rw [List.getElem?_set]; simp [lt_get h], k⟩
theorem Rw_i1 {l : List Int} {n : Nat} {e : Int} {K : List V → Prop} (h : l[n]? = some e) (k : K [V.int .i64 e]) : Rw (l.map iv1) n K := ⟨_, by simp [h, iv1], k⟩
/-- Where a name stands, or -1. -/
def six (n : ByteArray) : List ByteArray → Nat → Int
  | [], _ => -1
  | a :: r, k => if a = n then (k : Int) else six n r (k + 1)
/-- Where a module stands, or -1. -/
def mix (n : ByteArray) : List Rm → Nat → Int
  | [], _ => -1
  | a :: r, k => if a.name = n ∧ a.gone = false then (k : Int) else mix n r (k + 1)
theorem drop_get {α : Type} {l : List α} {i : Nat} {a : α} (h : l[i]? = some a) : l.drop i = a :: l.drop (i + 1) := by
  have := lt_get h
  rw [List.drop_eq_getElem_cons this]
  rw [List.getElem?_eq_getElem this] at h
  injection h with h
  rw [h]
/-- A module as a row of values. -/
def Rm.v (m : Rm) : List V := [.str m.name, .int .i64 m.act, .bool m.gone, .sl 1 (m.nms.map sv1), .sl 1 (m.vals.map iv1)]
theorem Ix_get {α : Type} {f : α → List V} {l : List α} {i : Nat} {a : α} {K : List V → Prop} (h : l[i]? = some a) (k : K (f a)) : Ix (l.map f) (i : Int) K := Ix.map rfl (lt_get h) (by rw [(List.getElem?_eq_some_iff.1 h).2]; exact k)
theorem attribute_V (m : Rm) (n : ByteArray) (hl : m.nms.length ≤ 1000000) : CallsA Tryd.prog 51 [.a [.u (.str m.name), .u (.int .i64 m.act), .u (.bool m.gone), .u (.sl 1 (m.nms.map sv1)), .u (.sl 1 (m.vals.map iv1))], dsr n] [] (Is (di (six n m.nms 0))) := by
  obtain ⟨an, aa, ag, nms, vals⟩ := m
  dsimp only at hl
  refine callsA_of_vc (T := tt) Tryd.func51 rfl rfl rfl rfl rfl ?_
  repeat' ((conv => whnf); first | refine Gs.id ?_ | fail)
  all_goals (conv => whnf)
  refine ⟨⟨Nat, fun k => k ≤ nms.length ∧ six n (nms.drop k) k = six n nms 0, fun k => nms.length - k, fun k => ⟨[(1, dsr n), (2, .d (.p 2 0)), (5, di k)], [(2, .bx 69 [.u (.str an), .u (.int .i64 aa), .u (.bool ag), .u (.sl 1 (nms.map sv1)), .u (.sl 1 (vals.map iv1))])]⟩, 0, ⟨by omega, rfl⟩, ⟨[(2, .k 2)], ⟨by (try dsimp only); (repeat (refine LeT.cons rfl (by first | exact LeS.d (by first | exact LeD.u rfl | exact LeD.p rfl | fail) | fail) ?_)); exact LeT.nil, by (try dsimp only); repeat (first | exact LeO.nil | refine LeO.bx rfl rfl (by repeat (first | exact LeL.nil | refine LeL.cons (by first | exact LeD.u rfl | fail) ?_)) ?_ | fail)⟩⟩, fun k hk => ?_⟩⟩
  obtain ⟨hk1, hk2⟩ := hk
  by_cases h9 : k < nms.length
  · obtain ⟨a, ha⟩ : ∃ a, nms[k]? = some a := ⟨_, List.getElem?_eq_getElem h9⟩
    rw [drop_get ha, six] at hk2
    by_cases hb : a = n
    · have he : (a.toList == n.toList) = true := by rw [toList_beq]; simp [hb]
      rw [if_pos hb] at hk2
      rw [← hk2]
      repeat' ((conv => whnf); first | refine Ix_get ha ?_ | refine Gs.id ?_ | refine Brn.T (by (try simp only [smT]); first | rfl | assumption | omega | fail) ?_ | (refine Bnd.mk (fun hm => ?_); (try simp only [smT] at hm)) | fail)
      all_goals (conv => whnf)
      all_goals exact Ret.is rfl
    · have he : (a.toList == n.toList) = false := by rw [toList_beq]; simp [hb]
      rw [if_neg hb] at hk2
      repeat' ((conv => whnf); first | refine Ix_get ha ?_ | refine Gs.id ?_ | refine Brn.T (by (try simp only [smT]); first | rfl | omega | fail) ?_ | refine Brn.F (by (try simp only [smT]); first | rfl | assumption | fail) ?_ | (refine Bnd.mk (fun hm => ?_); (try simp only [smT] at hm)) | refine Rng.mk (by (try simp only [smT]); omega) ?_ | fail)
      all_goals (conv => whnf)
      all_goals exact ⟨k + 1, ⟨by omega, hk2⟩, (by dsimp only; omega), [(2, .k 2)], ⟨by (try dsimp only); (repeat (refine LeT.cons rfl (by first | exact LeS.d (by first | exact LeD.u rfl | exact LeD.p rfl | fail) | fail) ?_)); exact LeT.nil, by (try dsimp only); repeat (first | exact LeO.nil | refine LeO.bx rfl rfl (by repeat (first | exact LeL.nil | refine LeL.cons (by first | exact LeD.u rfl | fail) ?_)) ?_ | fail)⟩⟩
  · obtain rfl : k = nms.length := by omega
    rw [List.drop_length] at hk2
    rw [← hk2]
    repeat' ((conv => whnf); first | refine Gs.id ?_ | refine Brn.F (by (try simp only [smT]); first | rfl | omega | fail) ?_ | (refine Bnd.mk (fun hm => ?_); (try simp only [smT] at hm)) | fail)
    all_goals (conv => whnf)
    all_goals exact Ret.is rfl
abbrev wdV (us : List Un) (w : Wd) : SV := .a [.u (uns us), .u (.sl 5 (w.mods.map Rm.v)), .u (.sl 2 (w.log.map Ev.v)), .u (.bool w.ok)]
theorem module_V (us : List Un) (w : Wd) (n : ByteArray) (hl : w.mods.length ≤ 1000000) : CallsA Tryd.prog 53 [wdV us w, dsr n] [] (Is (di (mix n w.mods 0))) := by
  obtain ⟨ms, log, ok⟩ := w
  dsimp only at hl
  refine callsA_of_vc (T := tt) Tryd.func53 rfl rfl rfl rfl rfl ?_
  repeat' ((conv => whnf); first | refine Gs.id ?_ | fail)
  all_goals (conv => whnf)
  refine ⟨⟨Nat, fun k => k ≤ ms.length ∧ mix n (ms.drop k) k = mix n ms 0, fun k => ms.length - k, fun k => ⟨[(1, dsr n), (2, .d (.p 2 0)), (5, di k)], [(2, .bx 39 [.u (uns us), .u (.sl 5 (ms.map Rm.v)), .u (.sl 2 (log.map Ev.v)), .u (.bool ok)])]⟩, 0, ⟨by omega, rfl⟩, ⟨[(2, .k 2)], ⟨by (try dsimp only); (repeat (refine LeT.cons rfl (by first | exact LeS.d (by first | exact LeD.u rfl | exact LeD.p rfl | fail) | fail) ?_)); exact LeT.nil, by (try dsimp only); repeat (first | exact LeO.nil | refine LeO.bx rfl rfl (by repeat (first | exact LeL.nil | refine LeL.cons (by first | exact LeD.u rfl | fail) ?_)) ?_ | fail)⟩⟩, fun k hk => ?_⟩⟩
  obtain ⟨hk1, hk2⟩ := hk
  by_cases h9 : k < ms.length
  · obtain ⟨⟨a1, a2, a3, a4, a5⟩, ha⟩ : ∃ a, ms[k]? = some a := ⟨_, List.getElem?_eq_getElem h9⟩
    rw [drop_get ha, mix] at hk2
    dsimp only at hk2
    by_cases hb : a1 = n
    · have he : (a1.toList == n.toList) = true := by rw [toList_beq]; simp [hb]
      cases a3
      · rw [if_pos ⟨hb, rfl⟩] at hk2
        rw [← hk2]
        repeat' ((conv => whnf); first | refine Ix_get ha ?_ | refine Gs.id ?_ | with_reducible refine Brn.T rfl ?_ | refine Brn.T (by (try simp only [smT]); first | rfl | assumption | omega | fail) ?_ | (refine Bnd.mk (fun hm => ?_); (try simp only [smT] at hm)) | fail)
        all_goals (conv => whnf)
        all_goals exact Ret.is rfl
      · rw [if_neg (by simp)] at hk2
        repeat' ((conv => whnf); first | refine Ix_get ha ?_ | refine Gs.id ?_ | with_reducible refine Brn.F rfl ?_ | refine Brn.T (by (try simp only [smT]); first | rfl | assumption | omega | fail) ?_ | (refine Bnd.mk (fun hm => ?_); (try simp only [smT] at hm)) | refine Rng.mk (by (try simp only [smT]); omega) ?_ | fail)
        all_goals (conv => whnf)
        all_goals exact ⟨k + 1, ⟨by omega, hk2⟩, (by dsimp only; omega), [(2, .k 2)], ⟨by (try dsimp only); (repeat (refine LeT.cons rfl (by first | exact LeS.d (by first | exact LeD.u rfl | exact LeD.p rfl | fail) | fail) ?_)); exact LeT.nil, by (try dsimp only); repeat (first | exact LeO.nil | refine LeO.bx rfl rfl (by repeat (first | exact LeL.nil | refine LeL.cons (by first | exact LeD.u rfl | fail) ?_)) ?_ | fail)⟩⟩
    · have he : (a1.toList == n.toList) = false := by rw [toList_beq]; simp [hb]
      rw [if_neg (by simp [hb])] at hk2
      repeat' ((conv => whnf); first | refine Ix_get ha ?_ | refine Gs.id ?_ | with_reducible refine Brn.F rfl ?_ | refine Brn.T (by (try simp only [smT]); first | rfl | omega | fail) ?_ | refine Brn.F (by (try simp only [smT]); first | rfl | assumption | fail) ?_ | (refine Bnd.mk (fun hm => ?_); (try simp only [smT] at hm)) | refine Rng.mk (by (try simp only [smT]); omega) ?_ | fail)
      all_goals (conv => whnf)
      all_goals exact ⟨k + 1, ⟨by omega, hk2⟩, (by dsimp only; omega), [(2, .k 2)], ⟨by (try dsimp only); (repeat (refine LeT.cons rfl (by first | exact LeS.d (by first | exact LeD.u rfl | exact LeD.p rfl | fail) | fail) ?_)); exact LeT.nil, by (try dsimp only); repeat (first | exact LeO.nil | refine LeO.bx rfl rfl (by repeat (first | exact LeL.nil | refine LeL.cons (by first | exact LeD.u rfl | fail) ?_)) ?_ | fail)⟩⟩
  · obtain rfl : k = ms.length := by omega
    rw [List.drop_length] at hk2
    rw [← hk2]
    repeat' ((conv => whnf); first | refine Gs.id ?_ | refine Brn.F (by (try simp only [smT]); first | rfl | omega | fail) ?_ | (refine Bnd.mk (fun hm => ?_); (try simp only [smT] at hm)) | fail)
    all_goals (conv => whnf)
    all_goals exact Ret.is rfl
/-- An event is said. -/
def sayR (w : Wd) (k : Int) (n : ByteArray) : Wd := ⟨w.mods, w.log ++ [⟨k, n⟩], w.ok && !decide (5000 < w.log.length + 1)⟩
theorem say_R (us : List Un) (w : Wd) (k : Int) (n : ByteArray) (hl : w.log.length ≤ 1000000) : CallsA Tryd.prog 42 [wdA us w, di k, dsr n] (wdO w) (Iso (wdA us (sayR w k n)) (wdO (sayR w k n))) := by
  obtain ⟨ms, log, ok⟩ := w
  dsimp only at hl
  simp only [sayR]
  by_cases h5 : 5000 < log.length + 1
  · rw [show (ok && !decide (5000 < log.length + 1)) = false by simp [h5]]
    refine callsA_of_vcO (T := tt) Tryd.func42 rfl rfl rfl rfl rfl ?_
    repeat' ((conv => whnf); first | refine Gs.id ?_ | refine Brn.T (by (try simp only [smT]); first | rfl | omega | fail) ?_ | (refine Bnd.mk (fun hm => ?_); (try simp only [smT] at hm)) | refine Apd.mk (by first | rfl | simp) (by first | rfl | fail) (by (try simp only [smT]); first | omega | fail) (by unfold maxLen; first | (simp; omega) | fail) ?_ | fail)
    all_goals (conv => whnf)
    all_goals refine RetO.mk ⟨[(900, .k 900), (901, .k 13)], _, _, (by first | exact LeS.a (by repeat (first | exact LeL.nil | refine LeL.cons (by first | exact LeD.u rfl | exact LeD.ow rfl rfl | exact LeD.ow rfl (by simp) | fail) ?_)) | fail), (by repeat (first | exact LeO.nil | refine LeO.ar rfl rfl (by first | rfl | simp) ?_ | refine LeO.fa rfl rfl (by first | rfl | fail) ?_ | fail)), rfl, rfl⟩
  · rw [show (ok && !decide (5000 < log.length + 1)) = ok by simp [h5]]
    refine callsA_of_vcO (T := tt) Tryd.func42 rfl rfl rfl rfl rfl ?_
    repeat' ((conv => whnf); first | refine Gs.id ?_ | refine Brn.F (by (try simp only [smT]); first | rfl | omega | fail) ?_ | (refine Bnd.mk (fun hm => ?_); (try simp only [smT] at hm)) | refine Apd.mk (by first | rfl | simp) (by first | rfl | fail) (by (try simp only [smT]); first | omega | fail) (by unfold maxLen; first | (simp; omega) | fail) ?_ | fail)
    all_goals (conv => whnf)
    all_goals refine RetO.mk ⟨[(900, .k 900), (901, .k 13)], _, _, (by first | exact LeS.a (by repeat (first | exact LeL.nil | refine LeL.cons (by first | exact LeD.u rfl | exact LeD.ow rfl rfl | exact LeD.ow rfl (by simp) | fail) ?_)) | fail), (by repeat (first | exact LeO.nil | refine LeO.ar rfl rfl (by first | rfl | simp) ?_ | refine LeO.fa rfl rfl (by first | rfl | fail) ?_ | fail)), rfl, rfl⟩
end Go.Proofs.YtgloielnnakknaaDoor
namespace Go.Proofs.YtgloielnnakknaaDoor
open Go.RowKit
/-- Orders of a region: alternatives, each with what follows it; or a free operation first. -/
inductive OF where
  | nil
  | alt (i : Nat) (s r : OF)
  | fst (i : Nat) (s : OF)
def OF.heads : OF → List Nat
  | .nil => []
  | .alt i _ r => i :: r.heads
  | .fst _ _ => []
def OF.depth : OF → Nat
  | .nil => 0
  | .alt _ s r => max (s.depth + 1) r.depth
  | .fst _ s => s.depth + 1
def OF.chk (ops : Array Oper) (late free : List Nat) : OF → Bool → Array Bool → Bool
  | .nil, top, listed => bif top then Region.ready .any ops listed == [] else true
  | .alt i s r, top, listed => (bif top then Region.ready .any ops listed == (OF.alt i s r).heads else true) && ((late.contains i && !free.contains i) && (s.chk ops late free true (listed.setIfInBounds i true) && r.chk ops late free false listed))
  | .fst i s, top, listed => (top && (free.contains i && regOk ops listed [] i)) && (dstAt ops i && s.chk ops late free true (listed.setIfInBounds i true))
section
variable (P : Program) (T : List (Nat × Ty)) (nt : Nat)
/-- An own array's row, found with no memory in sight. -/
def ixT (op : Op) (tm : List (Nat × SV)) (ob : List (Nat × Ob)) (K : SV → Prop) : Option Prop := match op with
  | .indexAddr t x ix => match evT tm ix with
    | some (.d (.u (.int _ i))) => match lk t T with
      | none => none
      | some ti => match ti.k with
        | .sl e => match lk e T with
          | none => none
          | some j => match evT tm x with
            | some (.d (.ow k n)) => bif szT ob j.size (.d (.ow k n)) then some (Ixo n i fun m => K (.d (.e k m 0))) else none
            | _ => none
        | _ => none
    | _ => none
  | _ => none
def vcYW (o : Oper) (tm : List (Nat × SV)) (ob : List (Nat × Ob)) (K : Kt) : Prop := match ixT T o.op tm ob (fun s => putT nt o.dst s tm ob K) with
  | some p => p
  | none => vcYF P T nt o tm ob K
end
section
variable {P : Program} {T : List (Nat × Ty)} [hT : Tys P T] {nt : Nat} {c : Cx} {st : St} {tm : List (Nat × Value)} {h : Hs} {ρ : Rho} {G : FG} {ty : TypeId} {pos : String} {af : Array Edge} {gd : Option (Nat × Bool)} {d : Option Tmp}
theorem ixT_sound (g : Gd c st tm h ρ G) {op : Op} {K : SV → Prop} {p : Prop} (hy : ixT T op st.tm st.ob K = some p) (hp : p) : ∃ s v, (∀ h', Yd P nt ⟨d, op, ty, pos, af, gd⟩ tm h' v) ∧ DenS ρ ⟨G, h.w0⟩ s v ∧ K s := by
  unfold ixT at hy
  split at hy
  · split at hy
    · rename_i ik i hix
      split at hy
      · cases hy
      · rename_i ti ht
        split at hy
        · rename_i e hk
          split at hy
          · cases hy
          · rename_i j hj
            obtain ⟨jk, js, jb, jz⟩ := j
            have e2 := evT_int g hix
            split at hy
            · rename_i k n hx
              cases hb : szT st.ob js (.d (.ow k n)) <;> simp only [hb, cond_false, cond_true] at hy
              · cases hy
              · injection hy with hy; subst hy
                obtain ⟨m, rfl, hm, hp⟩ := hp.out
                obtain ⟨v, q1, q2⟩ := g.ev hx
                cases q2 with | d q2 => cases q2 with | @ow _ _ l h0 hA hnc =>
                obtain ⟨hls, hform⟩ := szT_at g hb h0
                obtain ⟨A, cc, lsz⟩ := l
                dsimp only at hls
                subst hls
                rcases hform with h1 | ⟨b, h1⟩ <;> dsimp only at h1 <;> subst h1
                · have := hA rfl; omega
                · refine ⟨_, _, fun h' => ?_, .d (.e (o := 0) h0), hp⟩
                  have := Yd.indexNat (P := P) (nt := nt) (h := h') (d := d) (ty := ty) (pos := pos) (af := af) (gd := gd) q1 e2 ht hk hj hm
                  rw [Nat.zero_add] at this
                  exact this
            · cases hy
        · cases hy
    · cases hy
  · cases hy
end
section
variable (P : Program) (T : List (Nat × Ty)) (nt : Nat)
def vcGF (ops : Array Oper) (i : Nat) (X : Kt) : Kt := fun tm ob => match nth ops.toList i with
  | none => False
  | some o => match o.guard with
    | none => vcYW P T nt o tm ob X
    | some (j, want) => match gdT ops j with
      | none => False
      | some t => match lk t tm with
        | some (.d (.u (.bool b))) => match want with
          | true => Brn b (vcYW P T nt o tm ob X) (skipT nt o.dst tm ob X)
          | false => Brn b (skipT nt o.dst tm ob X) (vcYW P T nt o tm ob X)
        | some (.t []) => skipT nt o.dst tm ob X
        | _ => False
def vcOF (ops : Array Oper) (K : Kt) : OF → Kt
  | .nil, tm, ob => K tm ob
  | .fst i s, tm, ob => vcGF P T nt ops i (vcOF ops K s) tm ob
  | .alt i s .nil, tm, ob => vcG P T nt ops i (vcOF ops K s) tm ob
  | .alt i s (.alt j s' r), tm, ob => vcG P T nt ops i (vcOF ops K s) tm ob ∧ vcOF ops K (.alt j s' r) tm ob
  | .alt _ _ (.fst _ _), _, _ => False
end
section
variable {P : Program} {T : List (Nat × Ty)} [hT : Tys P T] {nt : Nat} {ops : Array Oper} {Q : Exit → Act → World → Prop} {late free : List Nat} {c : Cx} {K : Kt}
omit hT in
theorem vcOF_alt {i : Nat} {s r : OF} {tm : List (Nat × SV)} {ob : List (Nat × Ob)} (k : vcOF P T nt ops K (.alt i s r) tm ob) : vcG P T nt ops i (vcOF P T nt ops K s) tm ob ∧ (r ≠ .nil → vcOF P T nt ops K r tm ob) := by
  cases r with
  | nil => exact ⟨k, fun h => absurd rfl h⟩
  | alt j s' r => exact ⟨k.1, fun _ => k.2⟩
  | fst j s' => exact k.elim
theorem vcOF_sound [q : PanicOk Q] (hK : ∀ st tm h ρ G, Gd c st tm h ρ G → K st.tm st.ob → AWq nt Q .normal tm h) : ∀ (t : OF) (listed : Array Bool) (fuel : Nat) (S : World → Prop) (st : St) (tm : List (Nat × Value)) (h : Hs) (ρ : Rho) (G : FG), t.depth ≤ fuel → DC .any ops listed → Gd c st tm h ρ G → vcOF P T nt ops K t st.tm st.ob → ∀ (a : Act) (w : World), Slt nt tm a → Hp h w →
    (t.chk ops late free true listed = true → wpAnyX P .any ops Q S (Frn h) late free fuel listed a w) ∧ (∀ f, fuel = f + 1 → t.chk ops late free false listed = true → ∀ i ∈ t.heads, i ∈ Region.ready .any ops listed → wpOp P ops Q i (fun a' w' => (((free.contains i = true → w' = w) ∧ (late.contains i = false → free.contains i = false → S w')) ∧ Frn h w') ∧ wpAnyX P .any ops Q S (Frn h) late free f (listed.setIfInBounds i true) a' w') a w)
  | .nil, listed, fuel, S, st, tm, h, ρ, G, hf, hdc, g, k, a, w, ha, hw => by
    refine ⟨fun hc => ?_, fun f _ _ i hi => by cases hi⟩
    have hr : Region.ready .any ops listed = [] := by simpa [OF.chk] using hc
    have hq := (hK st tm h ρ G g k).out a w ha hw
    cases fuel with
    | zero => exact ⟨hr, hq⟩
    | succ n => exact ⟨fun _ => hq, by rw [hr]; simp⟩
  | .alt i s r, listed, fuel, S, st, tm, h, ρ, G, hf, hdc, g, k, a, w, ha, hw => by
    obtain ⟨k1, k2⟩ := vcOF_alt k
    simp only [OF.depth] at hf
    have two : ∀ f, fuel = f + 1 → (OF.alt i s r).chk ops late free false listed = true → ∀ j ∈ (OF.alt i s r).heads, j ∈ Region.ready .any ops listed → wpOp P ops Q j (fun a' w' => (((free.contains j = true → w' = w) ∧ (late.contains j = false → free.contains j = false → S w')) ∧ Frn h w') ∧ wpAnyX P .any ops Q S (Frn h) late free f (listed.setIfInBounds j true) a' w') a w := by
      intro f hfu hc j hj hrj
      simp only [OF.chk, cond_false, Bool.true_and, Bool.and_eq_true, Bool.not_eq_true'] at hc
      obtain ⟨⟨lt1, lt2⟩, hcs, hcr⟩ := hc
      rcases List.mem_cons.1 hj with rfl | hj
      · obtain ⟨_, o, hoj, hdep⟩ := mem_ready.1 hrj
        exact vcG_sound g.recx k1 (fun tm' h' ⟨st', ρ', G', h2, hh, g', k'⟩ a' w' ha' hw' => ⟨⟨⟨fun hn => (by rw [lt2] at hn; cases hn), fun hn => (by rw [lt1] at hn; cases hn)⟩, Frn.back hw g' (hh w' hw').frn⟩,
          wpAnyX_mono (fun _ h => h) (fun w2 hw2 => Frn.back hw g' hw2) _ _ _ _ ((vcOF_sound hK s _ f S st' tm' h2 ρ' G' (by omega) (hdc.set hoj hdep) (g.back g') k' a' w' ha' (hh w' hw')).1 hcs)⟩) a w ha hw
      · have hne : r ≠ .nil := fun e => by subst e; cases hj
        exact (vcOF_sound hK r listed fuel S st tm h ρ G (by omega) hdc g (k2 hne) a w ha hw).2 f hfu hcr j hj hrj
    refine ⟨fun hc => ?_, two⟩
    simp only [OF.chk, cond_true, Bool.and_eq_true] at hc
    have hr : Region.ready .any ops listed = (OF.alt i s r).heads := eq_of_beq hc.1
    cases fuel with
    | zero => omega
    | succ n =>
      refine ⟨fun h' => (by rw [hr] at h'; cases h'), fun j hj => ?_⟩
      have hj0 := hj
      rw [hr] at hj
      exact two n rfl (by simp only [OF.chk, cond_false, Bool.true_and, Bool.and_eq_true]; exact hc.2) j hj hj0
  | .fst i s, listed, fuel, S, st, tm, h, ρ, G, hf, hdc, g, k, a, w, ha, hw => by
    refine ⟨fun hc => ?_, fun f _ _ i hi => by cases hi⟩
    simp only [OF.chk, Bool.true_and, Bool.and_eq_true, regOk] at hc
    obtain ⟨⟨hfr, b1, b2, b3, _⟩, hds, hcs⟩ := hc
    simp only [OF.depth] at hf
    cases fuel with
    | zero => omega
    | succ fuel =>
    have hr' : i ∈ Region.ready .any ops listed := by simpa using b3
    obtain ⟨_, o, hoj, hdep⟩ := mem_ready.1 hr'
    have hdc' := hdc.set hoj hdep
    have hdd : ∃ d, o.dst = some d := by
      simp only [dstAt, hoj] at hds
      exact Option.isSome_iff_exists.1 hds
    obtain ⟨d0, hd0⟩ := hdd
    have hn : nth ops.toList i = some o := by rw [nth_eq]; simpa using hoj
    simp only [vcOF, vcGF, hn] at k
    obtain ⟨d, op, ty, pos, af, gu⟩ := o
    simp only at hd0
    subst hd0
    rcases vcR_guard (X := vcOF P T nt ops K s) (i := i) g a ha k with ⟨hw1, k1⟩ | ⟨hw1, k1⟩
    · simp only [vcYW] at k1
      cases hi : ixT T op st.tm st.ob (fun z => putT nt (some d0) z st.tm st.ob (vcOF P T nt ops K s)) with
      | some p =>
        simp only [hi] at k1
        obtain ⟨z, v, q1, q2, q3⟩ := ixT_sound g hi k1 (P := P) (nt := nt) (ty := ty) (pos := pos) (af := af) (gd := gu) (d := some d0)
        simp only [putT] at q3
        cases hd : Nat.blt d0 nt
        · rw [hd] at q3; exact q3.elim
        · rw [hd] at q3
          have hrest := (vcOF_sound hK s _ fuel S _ _ h ρ G (by omega) hdc' (g.put (d := d0) q2) q3 _ w (ha.put (by simpa using hd) v) hw).1 hcs
          exact wpAnyX_free hoj (Region.noSelect_spec b1) (fun c a w hq => q.ok c a _ _ w hq) hfr fuel listed a w hdc (Region.free_spec hoj b2) hr' (.inl ⟨hw1, fun w' hw' => (q1 ⟨h.F, h.w0, []⟩).out a w' ha hw'⟩) hw.frn hrest
      | none =>
      simp only [hi, vcYF] at k1
      cases hy : vcY P T op st.tm [] (fun z => putT nt (some d0) z st.tm st.ob (vcOF P T nt ops K s)) with
      | none => simp only [hy] at k1
      | some p =>
        simp only [hy] at k1
        have g0 : Gd c ⟨st.tm, []⟩ tm ⟨h.F, h.w0, []⟩ ρ G := ⟨g.fF, g.fw, g.gF, g.gx, g.fm, g.tm, rfl⟩
        obtain ⟨z, v, q1, q2, q3⟩ := vcY_sound g0 hy k1 (P := P) (nt := nt) (ty := ty) (pos := pos) (af := af) (gd := gu) (d := some d0)
        simp only [putT] at q3
        cases hd : Nat.blt d0 nt
        · rw [hd] at q3; exact q3.elim
        · rw [hd] at q3
          have hrest := (vcOF_sound hK s _ fuel S _ _ h ρ G (by omega) hdc' (g.put (d := d0) q2) q3 _ w (ha.put (by simpa using hd) v) hw).1 hcs
          exact wpAnyX_free hoj (Region.noSelect_spec b1) (fun c a w hq => q.ok c a _ _ w hq) hfr fuel listed a w hdc (Region.free_spec hoj b2) hr' (.inl ⟨hw1, fun w' hw' => q1.out a w' ha hw'⟩) hw.frn hrest
    · simp only [skipT] at k1
      cases hd : Nat.blt d0 nt
      · rw [hd] at k1; exact k1.elim
      · rw [hd] at k1
        have hrest := (vcOF_sound hK s _ fuel S _ _ h ρ G (by omega) hdc' (g.put (d := d0) (.t (vs := []) rfl (by simp))) k1 _ w (ha.put (by simpa using hd) undef) hw).1 hcs
        exact wpAnyX_free hoj (Region.noSelect_spec b1) (fun c a w hq => q.ok c a _ _ w hq) hfr fuel listed a w hdc (Region.free_spec hoj b2) hr' (.inr ⟨hw1, rfl⟩) hw.frn hrest
/-- A region that draws: free operations as soon as they may, all orders of the others. -/
theorem Drw.ofT {i : Nat} {tmT : List (Nat × SV)} {ob : List (Nat × Ob)} (late free : List Nat) (t : OF) (ho : (Nat.ble t.depth ops.size && t.chk ops late free true (Array.replicate ops.size false)) = true) (k : vcOF P T nt ops K t tmT ob) : Drw P nt i ops K tmT ob :=
  ⟨fun c tm h ρ G g Q q hK => ⟨fun a w ha hw => wp_region_any hT.mo (wpAny_of_X (S := Hp h) (S1 := Frn h) (late := late) (free := free) _ _ _ _ (by
    simp only [Bool.and_eq_true, Nat.ble_eq] at ho
    exact (vcOF_sound hK t _ _ _ ⟨tmT, ob⟩ tm h ρ G ho.1 DC.start g k a { w with drawn := w.drawn + 1 } ha (hw.drawn _)).1 ho.2))⟩⟩
end
end Go.Proofs.YtgloielnnakknaaDoor
namespace Go.Proofs.YtgloielnnakknaaDoor
open Go.RowKit
def setRm (m : Rm) (n : ByteArray) (v : Int) : Rm := if 0 ≤ six n m.nms 0 then ⟨m.name, m.act, m.gone, m.nms, m.vals.set (six n m.nms 0).toNat v⟩ else ⟨m.name, m.act, m.gone, m.nms ++ [n], m.vals ++ [v]⟩
theorem six_cases (n : ByteArray) : ∀ (l : List ByteArray) (k : Nat), (six n l k = -1 ∧ ∀ a ∈ l, ¬ a = n) ∨ ∃ i : Nat, l[i]? = some n ∧ six n l k = ((k + i : Nat) : Int) ∧ ∀ j : Nat, j < i → ¬ l[j]? = some n
  | [], k => .inl ⟨rfl, fun _ h => by cases h⟩
  | a :: r, k => by
    by_cases h : a = n
    · exact .inr ⟨0, by simp [h], by simp [six, h], fun j hj => by omega⟩
    · rcases six_cases n r (k + 1) with ⟨h1, h2⟩ | ⟨i, h1, h2, h3⟩
      · exact .inl ⟨by rw [six, if_neg h, h1], fun x hx => by
          rcases List.mem_cons.1 hx with rfl | hx
          · exact h
          · exact h2 x hx⟩
      · refine .inr ⟨i + 1, by simpa using h1, by rw [six, if_neg h, h2]; congr 1; omega, fun j hj => ?_⟩
        cases j with
        | zero => simpa using h
        | succ j => simpa using h3 j (by omega)
set_option maxHeartbeats 2000000 in
theorem set_R (us : List Un) (ms : List Rm) (log : List Ev) (ok : Bool) (i : Nat) (m m' : Rm) (n : ByteArray) (v : Int) (hmd : ms[i]? = some m) (hl : m.nms.length ≤ 1000000) (hv : m.vals.length = m.nms.length) (hr : setRm m n v = m') : CallsA Tryd.prog 50 [wdA us ⟨ms, log, ok⟩, di i, dsr n, di v] (wdO ⟨ms, log, ok⟩) (Iso (wdA us ⟨ms.set i m', log, ok⟩) (wdO ⟨ms.set i m', log, ok⟩)) := by
  obtain ⟨a1, a2, a3, a4, a5⟩ := m
  dsimp only at hl hv
  have hx := attribute_V ⟨a1, a2, a3, a4, a5⟩ n hl
  have hi := lt_get hmd
  have hmr : (ms.map Rm.row)[i]? = some (Rm.row ⟨a1, a2, a3, a4, a5⟩) := by simp [hmd]
  rcases six_cases n a4 0 with ⟨h1, _⟩ | ⟨k, h1, h2, _⟩
  · dsimp only at hx
    rw [h1] at hx
    rw [setRm, if_neg (by dsimp only; rw [h1]; decide)] at hr
    subst hr
    refine callsA_of_vcO (T := tt) Tryd.func50 rfl rfl rfl rfl rfl ?_
    refine' cutR (fun z : Bool => z = ok) (fun z => ⟨[(1, di i), (3, di v), (4, .d (.p 4 0)), (8, .d (.p 8 0))], [(8, .bx 39 [.u .nl, .u .nl, .u .nl, .u (.bool false)]), (4, .bx 39 [.u (uns us), .ow 900 ms.length, .ow 901 log.length, .u (.bool z)]), (900, .fa 69 5 ((ms.map Rm.row).set i [.v (.str a1), .v (.int .i64 a2), .v (.bool a3), .os 9 1 ((a4 ++ [n]).map sv1), .os 3 1 (a5.map iv1)])), (901, .ar 43 2 (log.map Ev.v))]⟩) _ (fun hR => ?_) ?_
    rotate_left
    · repeat' ((conv => whnf); first | refine Rw_rm hmd ?_ | exact Drw.cut (i := 6) (by assumption) _ [(8, .k 8), (4, .k 4), (900, .k 900), (901, .k 901)] rfl ⟨by (try dsimp only); (repeat (refine LeT.cons rfl (by first | exact LeS.d (by first | exact LeD.u rfl | exact LeD.p rfl | fail) | fail) ?_)); (first | exact LeT.nil | fail), by (try dsimp only); (repeat (first | exact LeO.nil | refine LeO.bx rfl rfl (by repeat (first | exact LeL.nil | refine LeL.cons (by first | exact LeD.u rfl | exact LeD.ow rfl rfl | fail) ?_)) ?_ | refine LeO.ar rfl rfl (by first | rfl | fail) ?_ | refine LeO.fa rfl rfl (by first | (simp [Rm.row, sv1]; done) | fail) ?_ | fail)); done⟩ (by first | rfl | fail) | refine Gs.id ?_ | with_reducible refine And.intro ?_ ?_ | with_reducible refine Brn.F rfl ?_ | refine Ixo.mk ⟨_, rfl, (by (try simp only [smT]); omega), ?_⟩ | refine Apd.mk (by first | rfl | fail) (by first | rfl | fail) (by (try simp only [smT]); first | omega | fail) (by unfold maxLen; first | (simp; omega) | fail) ?_ | refine Raw.faStoreO (T := tt) rfl rfl rfl rfl rfl rfl rfl rfl (by first | assumption | exact fa_get (by first | (simp; omega))) rfl ?_ | refine Raw.faAppend (T := tt) rfl rfl rfl rfl rfl rfl rfl rfl rfl rfl rfl rfl rfl (by first | assumption | fail) rfl rfl ?_ | refine Drw.ofT (T := tt) (i := 5) [1, 4, 8, 10, 11, 14] [0, 2, 3, 5, 6, 7, 9, 12, 13] (OF.fst 0 (OF.fst 2 (OF.fst 3 (OF.fst 5 (OF.fst 9 (OF.alt 1 (OF.alt 4 (OF.fst 6 (OF.fst 7 (OF.alt 8 (OF.alt 10 (OF.alt 11 (OF.fst 12 (OF.fst 13 (OF.alt 14 OF.nil OF.nil))) OF.nil) OF.nil) (OF.alt 10 (OF.alt 8 (OF.alt 11 (OF.fst 12 (OF.fst 13 (OF.alt 14 OF.nil OF.nil))) OF.nil) OF.nil) OF.nil)))) (OF.alt 10 (OF.alt 4 (OF.fst 6 (OF.fst 7 (OF.alt 8 (OF.alt 11 (OF.fst 12 (OF.fst 13 (OF.alt 14 OF.nil OF.nil))) OF.nil) OF.nil))) OF.nil) OF.nil)) (OF.alt 4 (OF.fst 6 (OF.fst 7 (OF.alt 1 (OF.alt 8 (OF.alt 10 (OF.alt 11 (OF.fst 12 (OF.fst 13 (OF.alt 14 OF.nil OF.nil))) OF.nil) OF.nil) (OF.alt 10 (OF.alt 8 (OF.alt 11 (OF.fst 12 (OF.fst 13 (OF.alt 14 OF.nil OF.nil))) OF.nil) OF.nil) OF.nil)) (OF.alt 8 (OF.alt 1 (OF.alt 10 (OF.alt 11 (OF.fst 12 (OF.fst 13 (OF.alt 14 OF.nil OF.nil))) OF.nil) OF.nil) (OF.alt 10 (OF.alt 1 (OF.alt 11 (OF.fst 12 (OF.fst 13 (OF.alt 14 OF.nil OF.nil))) OF.nil) (OF.alt 11 (OF.alt 1 (OF.fst 12 (OF.fst 13 (OF.alt 14 OF.nil OF.nil))) OF.nil) OF.nil)) OF.nil)) (OF.alt 10 (OF.alt 1 (OF.alt 8 (OF.alt 11 (OF.fst 12 (OF.fst 13 (OF.alt 14 OF.nil OF.nil))) OF.nil) OF.nil) (OF.alt 8 (OF.alt 1 (OF.alt 11 (OF.fst 12 (OF.fst 13 (OF.alt 14 OF.nil OF.nil))) OF.nil) (OF.alt 11 (OF.alt 1 (OF.fst 12 (OF.fst 13 (OF.alt 14 OF.nil OF.nil))) OF.nil) OF.nil)) OF.nil)) OF.nil))))) (OF.alt 10 (OF.alt 1 (OF.alt 4 (OF.fst 6 (OF.fst 7 (OF.alt 8 (OF.alt 11 (OF.fst 12 (OF.fst 13 (OF.alt 14 OF.nil OF.nil))) OF.nil) OF.nil))) OF.nil) (OF.alt 4 (OF.fst 6 (OF.fst 7 (OF.alt 1 (OF.alt 8 (OF.alt 11 (OF.fst 12 (OF.fst 13 (OF.alt 14 OF.nil OF.nil))) OF.nil) OF.nil) (OF.alt 8 (OF.alt 1 (OF.alt 11 (OF.fst 12 (OF.fst 13 (OF.alt 14 OF.nil OF.nil))) OF.nil) (OF.alt 11 (OF.alt 1 (OF.fst 12 (OF.fst 13 (OF.alt 14 OF.nil OF.nil))) OF.nil) OF.nil)) OF.nil)))) OF.nil)) OF.nil)))))))) (by kernel_rfl) ?_ | (refine CL.mk (Or.inr (Raw.callR (by repeat (first | exact ArgR.nil | refine ArgR.d rfl (by first | exact BorR.u | fail) ?_ | refine ArgR.a rfl (by repeat (first | exact BorLR.nil | refine BorLR.cons (by first | exact BorR.u | exact BorR.rf rfl (by first | assumption | fail) rfl (by first | rfl | fail)) ?_)) ?_)) rfl (hx) ⟨_, rfl, rfl⟩ rfl ?_)); refine Bk.mk rfl rfl ?_))
      all_goals (conv => whnf)
    · intro _ hz
      subst hz
      dsimp only
      repeat' ((conv => whnf); first | refine Rw_rs hmd ?_ | refine Gs.id ?_ | with_reducible refine And.intro ?_ ?_ | refine Ixo.mk ⟨_, rfl, (by (try simp only [smT]); omega), ?_⟩ | refine Apd.mk (by first | rfl | fail) (by first | rfl | fail) (by (try simp only [smT]); first | omega | fail) (by unfold maxLen; first | (simp; omega) | fail) ?_ | refine Raw.faStoreO (T := tt) rfl rfl rfl rfl rfl rfl rfl rfl (by first | assumption | exact fa_get (by first | (simp; omega))) rfl ?_ | refine Raw.faAppend (T := tt) rfl rfl rfl rfl rfl rfl rfl rfl rfl rfl rfl rfl rfl (by first | assumption | exact fa_get (by first | (simp; omega))) rfl rfl ?_ | refine Drw.ofT (T := tt) (i := 6) [1, 4, 8, 10, 11, 14] [0, 2, 3, 5, 6, 7, 9, 12, 13] (OF.fst 0 (OF.fst 2 (OF.fst 3 (OF.fst 5 (OF.fst 9 (OF.alt 1 (OF.alt 4 (OF.fst 6 (OF.fst 7 (OF.alt 8 (OF.alt 10 (OF.alt 11 (OF.fst 12 (OF.fst 13 (OF.alt 14 OF.nil OF.nil))) OF.nil) OF.nil) (OF.alt 10 (OF.alt 8 (OF.alt 11 (OF.fst 12 (OF.fst 13 (OF.alt 14 OF.nil OF.nil))) OF.nil) OF.nil) OF.nil)))) (OF.alt 10 (OF.alt 4 (OF.fst 6 (OF.fst 7 (OF.alt 8 (OF.alt 11 (OF.fst 12 (OF.fst 13 (OF.alt 14 OF.nil OF.nil))) OF.nil) OF.nil))) OF.nil) OF.nil)) (OF.alt 4 (OF.fst 6 (OF.fst 7 (OF.alt 1 (OF.alt 8 (OF.alt 10 (OF.alt 11 (OF.fst 12 (OF.fst 13 (OF.alt 14 OF.nil OF.nil))) OF.nil) OF.nil) (OF.alt 10 (OF.alt 8 (OF.alt 11 (OF.fst 12 (OF.fst 13 (OF.alt 14 OF.nil OF.nil))) OF.nil) OF.nil) OF.nil)) (OF.alt 8 (OF.alt 1 (OF.alt 10 (OF.alt 11 (OF.fst 12 (OF.fst 13 (OF.alt 14 OF.nil OF.nil))) OF.nil) OF.nil) (OF.alt 10 (OF.alt 1 (OF.alt 11 (OF.fst 12 (OF.fst 13 (OF.alt 14 OF.nil OF.nil))) OF.nil) (OF.alt 11 (OF.alt 1 (OF.fst 12 (OF.fst 13 (OF.alt 14 OF.nil OF.nil))) OF.nil) OF.nil)) OF.nil)) (OF.alt 10 (OF.alt 1 (OF.alt 8 (OF.alt 11 (OF.fst 12 (OF.fst 13 (OF.alt 14 OF.nil OF.nil))) OF.nil) OF.nil) (OF.alt 8 (OF.alt 1 (OF.alt 11 (OF.fst 12 (OF.fst 13 (OF.alt 14 OF.nil OF.nil))) OF.nil) (OF.alt 11 (OF.alt 1 (OF.fst 12 (OF.fst 13 (OF.alt 14 OF.nil OF.nil))) OF.nil) OF.nil)) OF.nil)) OF.nil))))) (OF.alt 10 (OF.alt 1 (OF.alt 4 (OF.fst 6 (OF.fst 7 (OF.alt 8 (OF.alt 11 (OF.fst 12 (OF.fst 13 (OF.alt 14 OF.nil OF.nil))) OF.nil) OF.nil))) OF.nil) (OF.alt 4 (OF.fst 6 (OF.fst 7 (OF.alt 1 (OF.alt 8 (OF.alt 11 (OF.fst 12 (OF.fst 13 (OF.alt 14 OF.nil OF.nil))) OF.nil) OF.nil) (OF.alt 8 (OF.alt 1 (OF.alt 11 (OF.fst 12 (OF.fst 13 (OF.alt 14 OF.nil OF.nil))) OF.nil) (OF.alt 11 (OF.alt 1 (OF.fst 12 (OF.fst 13 (OF.alt 14 OF.nil OF.nil))) OF.nil) OF.nil)) OF.nil)))) OF.nil)) OF.nil)))))))) (by kernel_rfl) ?_)
      all_goals (conv => whnf)
      all_goals refine RetO.mk ⟨[(900, .k 900), (901, .k 901)], _, _, (by first | exact LeS.a (by repeat (first | exact LeL.nil | refine LeL.cons (by first | exact LeD.u rfl | exact LeD.ow rfl rfl | exact LeD.ow rfl (by simp) | fail) ?_)) | fail), LeO.fa rfl rfl (by simp [List.map_set, Rm.row, iv1, sv1]) (LeO.ar rfl rfl rfl .nil), rfl, rfl⟩
  · dsimp only at hx
    rw [h2, Nat.zero_add] at hx
    rw [setRm, if_pos (by dsimp only; rw [h2]; omega)] at hr
    dsimp only at hr
    rw [h2, Nat.zero_add, Int.toNat_natCast] at hr
    subst hr
    have hk := lt_get h1
    have hk2 : (a5.map iv1)[k]? = some (iv1 (a5[k]'(by omega))) := by rw [List.getElem?_map, List.getElem?_eq_getElem (by omega)]; rfl
    refine callsA_of_vcO (T := tt) Tryd.func50 rfl rfl rfl rfl rfl ?_
    repeat' ((conv => whnf); first | refine Raw.faStoreRe (T := tt) rfl rfl rfl rfl rfl rfl rfl rfl hmr rfl hk2 (by simp [iv1]) ?_ | refine Rw_rm hmd ?_ | refine Gs.id ?_ | with_reducible refine Brn.T rfl ?_ | refine Ixo.mk ⟨_, rfl, (by (try simp only [smT]); omega), ?_⟩ | (refine CL.mk (Or.inr (Raw.callR (by repeat (first | exact ArgR.nil | refine ArgR.d rfl (by first | exact BorR.u | fail) ?_ | refine ArgR.a rfl (by repeat (first | exact BorLR.nil | refine BorLR.cons (by first | exact BorR.u | exact BorR.rf rfl (by first | assumption | fail) rfl (by first | rfl | fail)) ?_)) ?_)) rfl (hx) ⟨_, rfl, rfl⟩ rfl ?_)); refine Bk.mk rfl rfl ?_))
    all_goals (conv => whnf)
    all_goals refine RetO.mk ⟨[(900, .k 900), (901, .k 901)], _, _, (by first | exact LeS.a (by repeat (first | exact LeL.nil | refine LeL.cons (by first | exact LeD.u rfl | exact LeD.ow rfl rfl | exact LeD.ow rfl (by simp) | fail) ?_)) | fail), LeO.fa rfl rfl (by simp [List.map_set, Rm.row, iv1]) (LeO.ar rfl rfl rfl .nil), rfl, rfl⟩
end Go.Proofs.YtgloielnnakknaaDoor
namespace Go.Proofs.YtgloielnnakknaaDoor
open Go.RowKit
def dropRm (m : Rm) (k : Nat) : Rm := ⟨m.name, m.act, m.gone, m.nms.take k ++ m.nms.drop (k + 1), m.vals.take k ++ m.vals.drop (k + 1)⟩
abbrev wdNl : Ob := .bx 39 [.u .nl, .u .nl, .u .nl, .u (.bool false)]
theorem set_gt {α : Type} {l : List α} {j : Nat} {a b : α} (h : l[j]? = some a) : (l.set j b)[j]? = some b := by
  rw [List.getElem?_set]; simp [lt_get h]
theorem Ghost.takeFa' {tmT : List (Nat × SV)} {ob ob1 obF : List (Nat × Ob)} (k m o k1 : Nat) {u szf e sz : Nat} {rs : List (List E)} {row : List E} {rr : List (List V)} (hk : lk k ob = some (.fa u szf rs)) (h1 : famOne k ob = true) (hrow : rs[m]? = some row) (ho : row[o]? = some (.os e sz rr))
    (e1 : obu k (.fa u szf (rs.set m (row.set o .hl))) ob = ob1) (hnew : newN k1 tmT ob1 = true) (hTm : qTm (tkD k m o k1) tmT = tmT) (hO : qOb (tkD k m o k1) ob1 = obF) : Ghost tmT ob tmT ((k1, .ar e sz rr) :: obF) := by
  subst e1
  exact Ghost.takeFa k m o k1 hk h1 hrow ho hnew hTm hO
set_option maxHeartbeats 2000000 in
theorem drop_R (us : List Un) (ms : List Rm) (log : List Ev) (ok : Bool) (i k : Nat) (m m' : Rm) (hmd : ms[i]? = some m) (hl : m.nms.length ≤ 1000000) (hv : m.vals.length = m.nms.length) (hk : k < m.nms.length) (hr : dropRm m k = m') : CallsA Tryd.prog 52 [wdA us ⟨ms, log, ok⟩, di i, di k] (wdO ⟨ms, log, ok⟩) (Iso (wdA us ⟨ms.set i m', log, ok⟩) (wdO ⟨ms.set i m', log, ok⟩)) := by
  obtain ⟨a1, a2, a3, a4, a5⟩ := m
  dsimp only at hl hv hk
  subst hr
  have hi := lt_get hmd
  have hmr : (ms.map Rm.row)[i]? = some [.v (.str a1), .v (.int .i64 a2), .v (.bool a3), .os 9 1 (a4.map sv1), .os 3 1 (a5.map iv1)] := by simp [hmd, Rm.row]
  have hi2 : i < (ms.map Rm.row).length := by simpa using hi
  have q1 : (a4.map sv1).take a4.length = a4.map sv1 := List.take_of_length_le (by simp)
  have q2 : (a5.map iv1).take a5.length = a5.map iv1 := List.take_of_length_le (by simp)
  have hii : Nat.beq i i = true := Nat.beq_refl i
  refine callsA_of_vcO (T := tt) Tryd.func52 rfl rfl rfl rfl rfl ?_
  refine' cutR (fun z : Bool => z = ok) (fun z => ⟨[(1, di i), (2, di k), (3, .d (.p 3 0)), (6, .d (.p 6 0)), (7, .d (.p 7 0))], [(7, .bx 69 [.u (.str a1), .u (.int .i64 a2), .u (.bool a3), .r 900 i 3 1 a4.length, .r 900 i 4 1 a5.length]), (6, wdNl), (3, .bx 39 [.u (uns us), .ow 900 ms.length, .ow 901 log.length, .u (.bool z)]), (900, .fa 69 5 (ms.map Rm.row)), (901, .ar 43 2 (log.map Ev.v))]⟩) _ (fun hR => ?_) ?_
  rotate_left
  · repeat' ((conv => whnf); first | refine Rw_rm hmd ?_ | exact Drw.cut (i := 2) (by assumption) _ [(7, .k 7), (6, .k 6), (3, .k 3), (900, .k 900), (901, .k 901)] rfl ⟨by (try dsimp only); (repeat (refine LeT.cons rfl (by first | exact LeS.d (by first | exact LeD.u rfl | exact LeD.p rfl | fail) | fail) ?_)); (first | exact LeT.nil | fail), by (try dsimp only); (repeat (first | exact LeO.nil | refine LeO.bx rfl rfl (by repeat (first | exact LeL.nil | refine LeL.cons (by first | exact LeD.u rfl | exact LeD.ow rfl rfl | exact LeD.r (by simp [Rm.row, sv1]; done) | fail) ?_)) ?_ | refine LeO.ar rfl rfl (by first | rfl | fail) ?_ | refine LeO.fa rfl rfl (by first | rfl | fail) ?_ | fail)); done⟩ (by first | rfl | fail) | refine Gs.id ?_ | refine Ixo.mk ⟨_, rfl, (by (try simp only [smT]); omega), ?_⟩ | fail)
    all_goals (conv => whnf)
  · intro z hz
    subst hz
    rename Bool => ok
    dsimp only
    have t1 : tkD 900 i 3 910 (.r 900 i 3 1 a4.length) = .ow 910 a4.length := by simp only [tkD, hii]; rfl
    have t2 : tkD 900 i 3 910 (.r 900 i 4 1 a5.length) = .r 900 i 4 1 a5.length := by simp only [tkD, hii]; rfl
    have t3 : tkD 900 i 4 911 (.r 900 i 4 1 a5.length) = .ow 911 a5.length := by simp only [tkD, hii]; rfl
    refine Drw.ghost (Ghost.takeFa' (ob1 := [(7, .bx 69 [.u (.str a1), .u (.int .i64 a2), .u (.bool a3), .r 900 i 3 1 a4.length, .r 900 i 4 1 a5.length]), (6, wdNl), (3, .bx 39 [.u (uns us), .ow 900 ms.length, .ow 901 log.length, .u (.bool ok)]), (900, .fa 69 5 ((ms.map Rm.row).set i [.v (.str a1), .v (.int .i64 a2), .v (.bool a3), .hl, .os 3 1 (a5.map iv1)])), (901, .ar 43 2 (log.map Ev.v))]) 900 i 3 910 rfl rfl hmr rfl rfl rfl rfl (by simp only [qOb, qL, t1, t2]; rfl)) ?_
    refine Drw.ghost (Ghost.takeFa' (ob1 := [(910, .ar 9 1 (a4.map sv1)), (7, .bx 69 [.u (.str a1), .u (.int .i64 a2), .u (.bool a3), .ow 910 a4.length, .r 900 i 4 1 a5.length]), (6, wdNl), (3, .bx 39 [.u (uns us), .ow 900 ms.length, .ow 901 log.length, .u (.bool ok)]), (900, .fa 69 5 (((ms.map Rm.row).set i [.v (.str a1), .v (.int .i64 a2), .v (.bool a3), .hl, .os 3 1 (a5.map iv1)]).set i [.v (.str a1), .v (.int .i64 a2), .v (.bool a3), .hl, .hl])), (901, .ar 43 2 (log.map Ev.v))]) 900 i 4 911 rfl rfl (set_gt hmr) rfl rfl rfl rfl (by simp only [qOb, qL, t3]; rfl)) ?_
    refine Drw.ghost ((Ghost.frzA 910 rfl (by repeat ((conv => whnf); first | exact trivial | refine Len.mk (by first | rfl | simp) ?_))).trans (Ghost.frzA 911 rfl (by repeat ((conv => whnf); first | exact trivial | refine Len.mk (by first | rfl | simp) ?_)))) ?_
    conv => whnf
    refine Drw.ghost (Ghost.frzB 7 rfl rfl) ?_
    repeat' ((conv => whnf); first | refine Gs.id ?_ | with_reducible refine And.intro ?_ ?_ | refine Rng.mk (by (try simp only [smT]); omega) ?_ | refine Ixo.mk ⟨_, rfl, (by (try simp only [smT]); omega), ?_⟩ | refine Apd.mk (by first | rfl | fail) (by first | rfl | fail) (by (try simp only [smT]); first | omega | fail) (by unfold maxLen; first | (simp; omega) | fail) ?_ | refine Slc.mk ⟨_, _, rfl, rfl, (by (try simp only [smT]); omega), (by (try simp only [smT]); omega), ?_⟩ | refine Raw.faStoreO (T := tt) rfl rfl rfl rfl rfl rfl rfl rfl (by first | assumption | exact fa_get (by first | (simp; omega))) rfl ?_ | refine Drw.ofT (T := tt) (i := 2) [1, 3, 8, 14, 17] [0, 2, 4, 5, 6, 7, 9, 10, 11, 12, 13, 15, 16] (OF.fst 0 (OF.fst 2 (OF.fst 4 (OF.fst 5 (OF.fst 6 (OF.fst 7 (OF.fst 9 (OF.fst 10 (OF.fst 11 (OF.fst 12 (OF.fst 13 (OF.alt 1 (OF.alt 3 (OF.alt 8 (OF.alt 14 (OF.fst 15 (OF.fst 16 (OF.alt 17 OF.nil OF.nil))) OF.nil) OF.nil) OF.nil) (OF.alt 3 (OF.alt 1 (OF.alt 8 (OF.alt 14 (OF.fst 15 (OF.fst 16 (OF.alt 17 OF.nil OF.nil))) OF.nil) OF.nil) (OF.alt 8 (OF.alt 1 (OF.alt 14 (OF.fst 15 (OF.fst 16 (OF.alt 17 OF.nil OF.nil))) OF.nil) (OF.alt 14 (OF.alt 1 (OF.fst 15 (OF.fst 16 (OF.alt 17 OF.nil OF.nil))) OF.nil) OF.nil)) OF.nil)) OF.nil))))))))))))) (by kernel_rfl) ?_ | refine Drw.ofT (T := tt) (i := 3) [1, 3, 8, 14, 17] [0, 2, 4, 5, 6, 7, 9, 10, 11, 12, 13, 15, 16] (OF.fst 0 (OF.fst 2 (OF.fst 4 (OF.fst 5 (OF.fst 6 (OF.fst 7 (OF.fst 9 (OF.fst 10 (OF.fst 11 (OF.fst 12 (OF.fst 13 (OF.alt 1 (OF.alt 3 (OF.alt 8 (OF.alt 14 (OF.fst 15 (OF.fst 16 (OF.alt 17 OF.nil OF.nil))) OF.nil) OF.nil) OF.nil) (OF.alt 3 (OF.alt 1 (OF.alt 8 (OF.alt 14 (OF.fst 15 (OF.fst 16 (OF.alt 17 OF.nil OF.nil))) OF.nil) OF.nil) (OF.alt 8 (OF.alt 1 (OF.alt 14 (OF.fst 15 (OF.fst 16 (OF.alt 17 OF.nil OF.nil))) OF.nil) (OF.alt 14 (OF.alt 1 (OF.fst 15 (OF.fst 16 (OF.alt 17 OF.nil OF.nil))) OF.nil) OF.nil)) OF.nil)) OF.nil))))))))))))) (by kernel_rfl) ?_)
    all_goals (conv => whnf)
    all_goals refine RetO.mk ⟨[(900, .k 900), (901, .k 901)], _, _, (by first | exact LeS.a (by repeat (first | exact LeL.nil | refine LeL.cons (by first | exact LeD.u rfl | exact LeD.ow rfl rfl | exact LeD.ow rfl (by simp) | fail) ?_)) | fail), LeO.fa rfl rfl (by simp [List.map_set, Rm.row, dropRm, q1, q2]) (LeO.ar rfl rfl rfl .nil), rfl, rfl⟩
end Go.Proofs.YtgloielnnakknaaDoor
namespace Go.Proofs.YtgloielnnakknaaDoor
open Go.RowKit
structure Good3 (us : List Un) (s : Ld) (p : Ld × Bool) : Prop where
  inv : Inv us p.1
  keep : Keep s p.1
  tab : p.2 = true → ∀ j ∈ s.table, j ∈ p.1.table
def RP (us : List Un) (R : Ld → Nat → Ld × Bool) : Prop := ∀ s i, Inv us s → i < s.mods.length → Good3 us s (R s i)
def SP (us : List Un) (St : Ld → Nat → Stp → Ld × Bool) : Prop := ∀ s i t, Inv us s → i < s.mods.length → (∃ u ∈ us, t ∈ u.steps) → Good3 us s (St s i t)
theorem Good3.trans {us : List Un} {s s1 : Ld} {p : Ld × Bool} (h : Keep s s1) (ht : p.2 = true → ∀ j ∈ s.table, j ∈ s1.table) (k : Good3 us s1 p) : Good3 us s p := ⟨k.inv, h.trans k.keep, fun e j hj => k.tab e j (ht e j hj)⟩
theorem stepsW_P {us : List Un} {St : Ld → Nat → Stp → Ld × Bool} (hS : SP us St) (i : Nat) : ∀ (l : List Stp) (s : Ld), Inv us s → i < s.mods.length → (∀ t ∈ l, ∃ u ∈ us, t ∈ u.steps) → Good3 us s (stepsW St i s l)
  | [], s, h, _, _ => ⟨h, .refl s, fun _ j hj => hj⟩
  | t :: r, s, h, hi, hl => by
    simp only [stepsW]
    split
    · exact ⟨h, .refl s, fun e => by cases e⟩
    · have g := hS s i t h hi (hl t (by simp))
      split
      · rename_i e
        exact .trans g.keep (fun _ => g.tab e) (stepsW_P hS i r _ g.inv (Nat.lt_of_lt_of_le hi g.keep.len) fun t ht => hl t (by simp [ht]))
      · exact ⟨g.inv, g.keep, fun e => by cases e⟩
theorem Inv.run {us : List Un} {s : Ld} (h : Inv us s) (i : Nat) (d : Int) : Inv us (runS s i d) :=
  h.upd (fun _ => rfl) (fun m hm => h.nd m hm) fun m hm a ha => ⟨h.sub m hm a ha, h.ptr m hm a ha⟩
/-- Between the beginning and the end of a run. -/
theorem Keep.run {s s1 : Ld} {i : Nat} (hi : i < s.mods.length) (k : Keep (runS s i 1) s1) : Keep s (runS s1 i (-1)) := by
  have hl : (runS s i 1).mods.length = s.mods.length := by simp [runS, updS, updM_len]
  refine ⟨by simp only [runS, updS, updM_len]; rw [← hl]; exact k.len, fun j m e => ?_, fun j m q1 q2 => ?_, k.log, k.full⟩
  · have e1 : (runS s i 1).mods[j]? = some (if j = i then ⟨m.name, m.run + 1, m.ats⟩ else m) := by simp only [runS, updS, updM_get, e, Option.map_some]
    obtain ⟨m', r1, r2, r3⟩ := k.get j _ e1
    refine ⟨if j = i then ⟨m'.name, m'.run + -1, m'.ats⟩ else m', by simp only [runS, updS, updM_get, r1, Option.map_some], ?_, ?_⟩
    · split
      · rename_i h; rw [if_pos h] at r2; exact r2
      · rename_i h; rw [if_neg h] at r2; exact r2
    · split
      · rename_i h; rw [if_pos h] at r3; simp only at r3 ⊢; omega
      · rename_i h; rw [if_neg h] at r3; exact r3
  · simp only [runS, updS, updM_get] at q2
    cases e : s1.mods[j]? with
    | none => rw [e] at q2; cases q2
    | some m1 =>
      rw [e] at q2
      simp only [Option.map_some, Option.some.injEq] at q2
      have h0 := k.new j m1 (by rw [hl]; exact q1) e
      split at q2
      · rename_i hji
        subst hji
        omega
      · subst q2; exact h0
theorem runW_P {us : List Un} {St : Ld → Nat → Stp → Ld × Bool} (hS : SP us St) : RP us (runW St us) := fun s i h hi => by
  have h1 : Inv us (beginS s i) := (h.note 1 _).run i 1
  have hi1 : i < (beginS s i).mods.length := by simpa [beginS, runS, updS, updM_len, noteS] using hi
  have g := stepsW_P hS i (unitS us (nameS s i)) (beginS s i) h1 hi1 fun t ht => unitS_mem ht
  unfold runW
  generalize stepsW St i (beginS s i) (unitS us (nameS s i)) = p at g ⊢
  have kb : Keep s (noteS s 1 (nameS s i)) := .note s _ _ h.log
  have kr : Keep (noteS s 1 (nameS s i)) (runS p.1 i (-1)) := Keep.run (s := noteS s 1 (nameS s i)) hi g.keep
  have hr : Inv us (runS p.1 i (-1)) := g.inv.run i (-1)
  exact ⟨hr.note _ _, (kb.trans kr).trans (.note _ _ _ hr.log), fun e j hj => g.tab e j hj⟩
theorem Inv.push {us : List Un} {s : Ld} (h : Inv us s) {n : ByteArray} (hn : hasU us n = true) (hf : findS s n = none) : Inv us (pushS s n) := by
  have hlt : ∀ (j : Nat), j < s.mods.length → nmOf (s.mods ++ [⟨n, 0, []⟩]) j = nmOf s.mods j := fun j hj => by simp [nmOf, List.getElem?_append_left hj]
  have hge : nmOf (s.mods ++ [⟨n, 0, []⟩]) s.mods.length = some n := by simp [nmOf]
  refine ⟨h.log, fun j hj => ?_, ?_, fun m hm => ?_, fun m hm => ?_, fun m hm => ?_, fun m hm => ?_⟩
  · simp only [pushS, List.mem_append, List.mem_singleton, List.length_append, List.length_singleton] at hj ⊢
    rcases hj with hj | hj
    · have := h.tab j hj; omega
    · omega
  · simp only [pushS, List.map_append, List.map_cons, List.map_nil, hge]
    rw [List.map_congr_left (fun j hj => hlt j (h.tab j hj)), List.nodup_append]
    refine ⟨h.tnd, by simp, fun a ha b hb hab => ?_⟩
    simp only [List.mem_singleton] at hb
    subst hab hb
    obtain ⟨j, hj, q⟩ := List.mem_map.1 ha
    obtain ⟨k, hk⟩ := tfind_some hj q
    rw [findS, hk] at hf
    cases hf
  all_goals simp only [pushS, List.mem_append, List.mem_singleton] at hm
  · rcases hm with hm | rfl
    · exact h.nm m hm
    · exact hn
  · rcases hm with hm | rfl
    · exact h.nd m hm
    · simp
  · rcases hm with hm | rfl
    · exact h.sub m hm
    · intro a ha; cases ha
  · intro a ha j hj
    simp only [pushS, List.length_append, List.length_singleton]
    rcases hm with hm | rfl
    · have := h.ptr m hm a ha j hj; omega
    · cases ha
theorem Keep.push (s : Ld) (n : ByteArray) : Keep s (pushS s n) := ⟨by simp [pushS], fun j m e => ⟨m, by simp only [pushS]; rw [List.getElem?_append_left (lt_get e)]; exact e, rfl, rfl⟩, fun j m q1 q2 => by
  simp only [pushS] at q2
  rw [List.getElem?_append_right q1] at q2
  have : j - s.mods.length = 0 := by have := lt_get q2; simp at this; omega
  rw [this] at q2
  simp at q2
  subst q2; rfl, Nat.le_refl _, id⟩
theorem link_P {us : List Un} {s : Ld} (h : Inv us s) {n : ByteArray} (hn : hasU us n = true) (hf : findS s n = none) : Inv us (linkS s n) ∧ Keep s (linkS s n) ∧ (linkS s n).table = s.table ++ [s.mods.length] ∧ (linkS s n).mods.length = s.mods.length + 1 ∧ (linkS s n).log = s.log ∧ (linkS s n).full = s.full ∧ nmOf (linkS s n).mods s.mods.length = some n := by
  have h1 := h.push hn hf
  have hl : (pushS s n).mods.length = s.mods.length + 1 := by simp [pushS]
  have hge : nmOf (pushS s n).mods s.mods.length = some n := by simp [nmOf, pushS]
  unfold linkS
  split
  · refine ⟨h1.set _ (namesA_last hn) fun j e => ?_, (Keep.push s n).trans (Keep.set _ _ _ _), rfl, by simp [setS, updS, updM_len, hl], rfl, rfl, ?_⟩
    · injection e with e; subst e; omega
    · simp only [setS, updS]
      refine Eq.trans (nmOf_upd ?_ _) hge; intro m; rfl
  · exact ⟨h1, .push s n, rfl, hl, rfl, rfl, hge⟩
theorem gone_P {us : List Un} {s : Ld} (h : Inv us s) (i : Nat) (p : Option Nat) (n : ByteArray) : Inv us (goneS s i p n) ∧ Keep s (goneS s i p n) := by
  have h1 : Inv us ⟨s.mods, s.table.filter fun j => j != i, s.log, s.full⟩ := ⟨h.log, fun j hj => h.tab j ((List.mem_filter.1 hj).1), h.tnd.sublist (List.filter_sublist.map _), h.nm, h.nd, h.sub, h.ptr⟩
  have k1 : Keep s ⟨s.mods, s.table.filter fun j => j != i, s.log, s.full⟩ := ⟨Nat.le_refl _, fun _ m h => ⟨m, h, rfl, rfl⟩, fun j m q1 q2 => by have : j < s.mods.length := lt_get q2; omega, Nat.le_refl _, id⟩
  unfold goneS
  split
  · split
    · exact ⟨h1.drop _ _, k1.trans (.drop _ _ _)⟩
    · exact ⟨h1, k1⟩
  · exact ⟨h1, k1⟩
theorem makeW_P {us : List Un} {R : Ld → Nat → Ld × Bool} (hR : RP us R) {s : Ld} (h : Inv us s) {n : ByteArray} (hn : hasU us n = true) (hf : findS s n = none) : Good3 us s (makeW R s n) ∧ ((makeW R s n).2 = true → ∃ k, findS (makeW R s n).1 n = some k) := by
  obtain ⟨a1, a2, a3, a4, _, _, a7⟩ := link_P h hn hf
  have g := hR (linkS s n) s.mods.length a1 (by omega)
  unfold makeW
  split
  · rename_i e
    refine ⟨.trans a2 (fun _ j hj => by rw [a3]; exact List.mem_append_left _ hj) g, fun _ => ?_⟩
    exact tfind_some (j := s.mods.length) (g.tab e _ (by rw [a3]; simp)) (g.keep.nm a7)
  · obtain ⟨b1, b2⟩ := gone_P g.inv s.mods.length (parS s n) (lastP n)
    exact ⟨⟨b1, (a2.trans g.keep).trans b2, fun e => by cases e⟩, fun e => by cases e⟩
theorem loadW_P {us : List Un} {R : Ld → Nat → Ld × Bool} (hR : RP us R) : ∀ (l : List ByteArray) (s : Ld), Inv us s → Good3 us s (loadW R us s l)
  | [], s, h => ⟨h, .refl s, fun _ j hj => hj⟩
  | n :: r, s, h => by
    simp only [loadW]
    split
    · exact .trans (.note s _ _ h.log) (fun _ j hj => hj) (loadW_P hR r _ (h.note _ _))
    · rename_i hf
      split
      · rename_i hn
        obtain ⟨g, _⟩ := makeW_P hR h hn hf
        split
        · rename_i e
          exact .trans g.keep (fun _ => g.tab e) (loadW_P hR r _ g.inv)
        · exact ⟨g.inv, g.keep, fun e => by cases e⟩
      · exact ⟨h.note _ _, .note s _ _ h.log, fun e => by cases e⟩
theorem set_P {us : List Un} {s s1 : Ld} (h : Inv us s1) (k : Keep s s1) (ht : ∀ j ∈ s.table, j ∈ s1.table) (i : Nat) {n : ByteArray} {v : Option Nat} (hn : n ∈ namesA us) (hv : ∀ j, v = some j → j < s1.mods.length) : Good3 us s (setS s1 i n v, true) := ⟨h.set i hn hv, k.trans (.set _ _ _ _), fun _ => ht⟩
theorem lookA_mem {n : ByteArray} : ∀ {l : List At} {v : Option Nat}, lookA l n = some v → ∃ a ∈ l, a.name = n ∧ a.mod = v
  | [], v, h => by cases h
  | a :: r, v, h => by
    simp only [lookA] at h
    split at h
    · rename_i e; injection h with h; exact ⟨a, List.mem_cons_self, e, h⟩
    · obtain ⟨b, q1, q2⟩ := lookA_mem h; exact ⟨b, List.mem_cons_of_mem _ q1, q2⟩
theorem look_ptr {us : List Un} {s : Ld} (h : Inv us s) {i : Nat} {n : ByteArray} {v : Option Nat} (hl : lookA (atsS s i) n = some v) : ∀ j, v = some j → j < s.mods.length := fun j e => by
  obtain ⟨a, q1, _, q3⟩ := lookA_mem hl
  unfold atsS at q1
  split at q1
  · rename_i m hmd
    exact h.ptr m (List.mem_of_getElem? hmd) a q1 j (q3.trans e)
  · cases q1
theorem stepW_P {us : List Un} {R : Ld → Nat → Ld × Bool} (hR : RP us R) : SP us (stepW R us) := fun s i t h hi ⟨u, hu, htu⟩ => by
  obtain ⟨n1, n2, n3⟩ := namesA_step hu htu
  unfold stepW
  split
  · exact set_P h (.refl s) (fun _ hj => hj) i n1 fun j e => by cases e
  split
  · split
    · exact ⟨h.drop _ _, .drop _ _ _, fun _ j hj => hj⟩
    · exact ⟨h, .refl s, fun e => by cases e⟩
  split
  · split
    · rename_i j e
      exact hR s j h (h.find j e)
    · exact ⟨h, .refl s, fun e => by cases e⟩
  have g := loadW_P hR (chainM t.name) s h
  generalize loadW R us s (chainM t.name) = p at g
  split
  · rename_i e
    split
    · exact set_P g.inv g.keep (g.tab e) i n3 g.inv.find
    · unfold partW
      split
      · exact ⟨g.inv, g.keep, fun e => by cases e⟩
      · split
        · rename_i v hv
          exact set_P g.inv g.keep (g.tab e) i n2 (look_ptr g.inv hv)
        · have g2 := loadW_P hR (chainM (wholeB t)) p.1 g.inv
          generalize loadW R us p.1 (chainM (wholeB t)) = q at g2
          split
          · split
            · rename_i e2
              exact set_P g2.inv (g.keep.trans g2.keep) (fun j hj => g2.tab e2 j (g.tab e j hj)) i n2 g2.inv.find
            · exact ⟨g2.inv, g.keep.trans g2.keep, fun e => by cases e⟩
          · exact ⟨g.inv, g.keep, fun e => by cases e⟩
  · exact ⟨g.inv, g.keep, fun e => by cases e⟩
theorem runM_P (us : List Un) : ∀ n, RP us (runM us n)
  | 0 => runW_P fun s i t h _ _ => ⟨h, .refl s, fun e => by cases e⟩
  | n + 1 => runW_P (stepW_P (runM_P us n))
end Go.Proofs.YtgloielnnakknaaDoor
namespace Go.Proofs.YtgloielnnakknaaDoor
open Go.RowKit
def SteC (us : List Un) (St : Ld → Nat → Stp → Ld × Bool) (n : Nat) : Prop := ∀ (mods : List Md) (table : List Nat) (log : List Ev) (full : Bool) (i : Nat) (t : Stp) (zm : List Md) (zt : List Nat) (zl : List Ev) (zf zk : Bool), Inv us ⟨mods, table, log, full⟩ → RunB ⟨mods, table, log, full⟩ n → i < mods.length → (∃ u ∈ us, t ∈ u.steps) → left ⟨mods, table, log, full⟩ ≤ n → St ⟨mods, table, log, full⟩ i t = (⟨zm, zt, zl, zf⟩, zk) → CallsA Tryd.prog 49 [ldP, mdP i, .a [.u (.int .i64 t.kind), .u (.str t.name), .u (.str t.part)]] (ldOb us mods table log full) (Iso (db zk) (ldOb us zm zt zl zf))
def RunC (us : List Un) (R : Ld → Nat → Ld × Bool) (n : Nat) : Prop := ∀ (mods : List Md) (table : List Nat) (log : List Ev) (full : Bool) (i : Nat) (zm : List Md) (zt : List Nat) (zl : List Ev) (zf zk : Bool) (r1 r2 : List (List E)), Inv us ⟨mods, table, log, full⟩ → RunB ⟨mods, table, log, full⟩ n → i < mods.length → left ⟨mods, table, log, full⟩ ≤ n → R ⟨mods, table, log, full⟩ i = (⟨zm, zt, zl, zf⟩, zk) → r1 = [ldRow us table log full] → r2 = mods.map Md.row → CallsA Tryd.prog 40 [ldP, mdP i] [(1, .fm 63 r1), (2, .fm 82 r2)] (Iso (db zk) (ldOb us zm zt zl zf))
theorem note_T' (us : List Un) (mods : List Md) (table : List Nat) (log : List Ev) (full : Bool) (k : Int) (n : ByteArray) (hl : log.length ≤ 5000) (r1 r2 : List (List E)) (e1 : r1 = [ldRow us table log full]) (e2 : r2 = mods.map Md.row) : CallsA Tryd.prog 48 [ldP, di k, dsr n] [(1, .fm 63 r1), (2, .fm 82 r2)] (Iso (.t []) (ldOb us mods table (noteLog log full k n) (noteFull log full))) := by
  subst e1 e2
  exact note_T us mods table log full k n hl
theorem eqC_sd (a b : ByteArray) : eqCs [V.str a] [V.str b] = decide (a = b) := by rw [eqCs_one]; rfl
theorem uents_get (n : ByteArray) (z : List V) : ∀ us : List Un, (hasU us n = true → mgetT (uents us) [.str n] z = [.str n, .sl 3 ((unitS us n).map Stp.row)]) ∧ mhasT (uents us) [.str n] = hasU us n
  | [] => ⟨fun h => (by cases h), rfl⟩
  | u :: r => by
    obtain ⟨h1, h2⟩ := uents_get n z r
    simp only [uents, List.map_cons, mgetT, mhasT, eqC_sd, hasU, unitS] at *
    by_cases h : n = u.name
    · subst h; simp [Un.row]
    · simp only [h, decide_false, cond_false, if_false]
      exact ⟨h1, h2⟩
theorem uents_ok (us : List Un) : ∀ e ∈ uents us, keyT .sr e.1 = true := by
  intro e he
  obtain ⟨u, _, rfl⟩ := List.mem_map.1 he
  rfl
theorem stepsW_next {St : Ld → Nat → Stp → Ld × Bool} {i : Nat} {s : Ld} {l : List Stp} {q : Nat} (h : q < l.length) : stepsW St i s (l.drop q) = if s.full = true then (s, false) else if (St s i l[q]).2 = true then stepsW St i (St s i l[q]).1 (l.drop (q + 1)) else ((St s i l[q]).1, false) := by
  rw [List.drop_eq_getElem_cons h, stepsW]
theorem upd_at {mods : List Md} {i : Nat} {m : Md} {f : Md → Md} (h : mods[i]? = some m) : updM mods i f = mods.set i (f m) := by unfold updM; rw [h]
end Go.Proofs.YtgloielnnakknaaDoor
namespace Go.Proofs.YtgloielnnakknaaDoor
open Go.RowKit
theorem get_set {mods : List Md} {i : Nat} {m m' : Md} (h : mods[i]? = some m) : (mods.set i m')[i]? = some m' := by
  rw [List.getElem?_set]; simp [lt_get h]
theorem Rw_set {l : List Md} {n : Nat} {m : Md} {row : List E} {K : List E → Prop} (h : l[n]? = some m) (k : K row) : Rw ((l.map Md.row).set n row) n K := ⟨row, by rw [List.getElem?_set]; simp [lt_get h], k⟩
theorem end_eq {m3 : List Md} {t3 : List Nat} {l3 : List Ev} {f3 ok : Bool} {i : Nat} {mn : ByteArray} {mr : Int} {ma3 : List At} (h : m3[i]? = some ⟨mn, mr + 1, ma3⟩) : endS ⟨m3, t3, l3, f3⟩ i ok = ⟨m3.set i ⟨mn, mr, ma3⟩, t3, noteLog l3 f3 (if ok = true then 2 else 3) mn, noteFull l3 f3⟩ := by
  have hn : nameS ⟨m3, t3, l3, f3⟩ i = mn := by simp [nameS, nmOf, h]
  have e : mr + 1 + -1 = mr := by omega
  simp only [endS, hn, runS, updS, upd_at h, noteS, e]
set_option maxHeartbeats 4000000 in
theorem run_C {us : List Un} (hU : Uok us) {St : Ld → Nat → Stp → Ld × Bool} (hP : SP us St) (n n' : Nat) (hn : n ≤ 6000) (hnn : n' ≤ 6000) (hC : ∀ s, left s < n → SteC us St n') (hn' : n' + 1 = n ∨ n = 0) : RunC us (runW St us) n := by
  intro mods table log full i rm rt rl rf rk r1 r2 hI hB hi hL hr e1 e2
  subst e1 e2
  obtain ⟨⟨mn, mr, ma⟩, hmd⟩ : ∃ m, mods[i]? = some m := ⟨_, List.getElem?_eq_getElem hi⟩
  have hmem := List.mem_of_getElem? hmd
  have hlog := hI.log
  have hrun := hB _ hmem
  have hhas := hI.nm _ hmem
  dsimp only at hlog hrun hhas
  have hnS : nameS ⟨mods, table, log, full⟩ i = mn := by simp [nameS, nmOf, hmd]
  have hpos : runW St us ⟨mods, table, log, full⟩ i = (⟨rm, rt, rl, rf⟩, rk) := hr
  have hbeg : beginS ⟨mods, table, log, full⟩ i = ⟨mods.set i ⟨mn, mr + 1, ma⟩, table, noteLog log full 1 mn, noteFull log full⟩ := by
    simp only [beginS, hnS, noteS, runS, updS, upd_at hmd]
  rw [runW, hnS, hbeg] at hpos
  have hI1 : Inv us ⟨mods.set i ⟨mn, mr + 1, ma⟩, table, noteLog log full 1 mn, noteFull log full⟩ := by
    rw [← hbeg]; exact (hI.note 1 _).run i 1
  have hl1 : left ⟨mods.set i ⟨mn, mr + 1, ma⟩, table, noteLog log full 1 mn, noteFull log full⟩ = left ⟨mods, table, log, full⟩ - 1 := left_note ⟨mods, table, log, full⟩ 1 mn hlog
  have hB1 : n = 0 ∨ RunB ⟨mods.set i ⟨mn, mr + 1, ma⟩, table, noteLog log full 1 mn, noteFull log full⟩ n' := by
    rcases hn' with hn' | hn'
    · right
      intro m hm'
      rcases List.mem_or_eq_of_mem_set hm' with h | rfl
      · have := hB m h; omega
      · dsimp only; omega
    · exact .inl hn'
  have hnote := note_T us mods table log full 1 mn hlog
  have hi1 : i < (mods.set i ⟨mn, mr + 1, ma⟩).length := by simpa using hi
  have hk1 : (mods.set i ⟨mn, mr + 1, ma⟩)[i]? = some ⟨mn, mr + 1, ma⟩ := get_set hmd
  generalize hlg : noteLog log full 1 mn = log1 at *
  generalize hfl : noteFull log full = full1 at *
  have hent := (uents_get mn [.str ⟨#[]⟩, .nl] us).1 hhas
  have hhs := (uents_get mn [.str ⟨#[]⟩, .nl] us).2
  have huok := uents_ok us
  have hsteps : ∀ t ∈ unitS us mn, ∃ u ∈ us, t ∈ u.steps := fun t ht => unitS_mem ht
  have hlen : (unitS us mn).length ≤ 1000000 := by
    obtain ⟨u, hu, he⟩ := hasU_mem hhas
    have : ∀ us : List Un, (∀ u ∈ us, u.steps.length ≤ 30) → (unitS us mn).length ≤ 30 := by
      intro us
      induction us with
      | nil => intro _; simp [unitS]
      | cons a r ih =>
        intro h
        simp only [unitS]
        split
        · exact h a (by simp)
        · exact ih fun u hu => h u (by simp [hu])
    have := this us hU.steps
    omega
  generalize hst : unitS us mn = steps at *
  refine callsA_of_vcO (T := tt) Tryd.func40 rfl rfl rfl rfl rfl ?_
  repeat' ((conv => whnf); first | refine Rw_md hmd ?_ | refine Rw_set hmd ?_ | refine Mlk.of _ _ (by kernel_rfl) huok hent hhs ?_ | refine Gs.id ?_ | (refine Bnd.mk (fun hm => ?_); (try simp only [smT] at hm)) | refine Rng.mk (by (try simp only [smT]); omega) ?_ | refine Rw.lit rfl ?_ | refine Drw.of (T := tt) (i := 4) [] [] [(0, true), (1, true), (2, true), (3, true), (4, true), (5, true), (6, true), (7, true), (8, true), (9, true), (10, true), (11, true)] (by kernel_rfl) ?_ | (refine CL.mk (Or.inr (Raw.callI [1,2] [1,2] rfl rfl rfl rfl rfl rfl rfl (hnote) ?_)); rintro _ _ ⟨rfl, rfl⟩; refine Bk.mk rfl rfl ?_))
  all_goals (conv => whnf)
  generalize hm1 : mods.set i ⟨mn, mr + 1, ma⟩ = mods1 at *
  have hsv : List.map Md.row mods1 = (mods.map Md.row).set i [.v (.str mn), .v (.int .i64 (mr + 1)), .os 84 2 (ma.map At.v)] := by rw [← hm1]; simp [List.map_set, Md.row]
  refine ⟨⟨Ld × Nat, fun x => x.2 ≤ steps.length ∧ stepsW St i ⟨mods1, table, log1, full1⟩ steps = stepsW St i x.1 (steps.drop x.2) ∧ Inv us x.1 ∧ Keep ⟨mods1, table, log1, full1⟩ x.1, fun x => steps.length - x.2, fun x => ⟨[(0, ldP), (1, mdP i), (5, db true), (30, .d (.u (.sl 3 (steps.map Stp.row)))), (31, di steps.length), (32, di x.2)], ldOb us x.1.mods x.1.table x.1.log x.1.full⟩, (⟨mods1, table, log1, full1⟩, 0), ⟨Nat.zero_le _, rfl, hI1, .refl _⟩, ⟨[(1, .k 1), (2, .k 2)], ⟨by (try dsimp only); (repeat (refine LeT.cons rfl (by first | exact LeS.d (by first | exact LeD.u rfl | exact LeD.u (by simp [hsv]; done) | fail) | fail) ?_)); exact LeT.nil, by (try dsimp only); repeat (first | exact LeO.nil | refine LeO.fm rfl (by first | rfl | simp [hsv]) ?_ | fail)⟩⟩, fun x hx => ?_⟩⟩
  obtain ⟨⟨m3, t3, l3, f3⟩, q⟩ := x
  obtain ⟨hq, he, hI3, hK3⟩ := hx
  dsimp only at hq he hI3 hK3 ⊢
  have hget : ∀ s, Keep ⟨mods1, table, log1, full1⟩ s → ∃ ma3, s.mods[i]? = some ⟨mn, mr + 1, ma3⟩ := fun s k => by
    obtain ⟨⟨a, b, c⟩, q1, q2, q3⟩ := k.get i _ hk1
    dsimp only at q2 q3
    subst q2 q3
    exact ⟨c, q1⟩
  have hB3 : n = 0 ∨ RunB ⟨m3, t3, l3, f3⟩ n' := hB1.imp id fun h => hK3.runB h (by omega)
  have hL3 := hK3.lf
  rw [hl1] at hL3
  have hi3 : i < m3.length := Nat.lt_of_lt_of_le hi1 hK3.len
  clear hnote hsv hent hhs huok
  by_cases h9 : q < steps.length
  · rw [stepsW_next h9] at he
    obtain ⟨⟨tk, tn, tp⟩, htq⟩ : ∃ t, steps[q] = t := ⟨_, rfl⟩
    have hrow : ∀ {K : List V → Prop}, K (Stp.row ⟨tk, tn, tp⟩) → Ix (steps.map Stp.row) (q : Int) K := fun k => Ix.map rfl h9 (by rw [htq]; exact k)
    have htm := hsteps _ (List.getElem_mem h9)
    rw [htq] at he htm
    obtain ⟨ma3, hm3⟩ := hget _ hK3
    dsimp only at hm3
    cases f3
    · rw [if_neg (by simp)] at he
      have hne : left ⟨m3, t3, l3, false⟩ ≠ 0 := by
        have h5 : l3.length ≤ 5000 := hI3.log
        simp only [left]; simp; omega
      have hn0 : n ≠ 0 := by omega
      have hlt : left ⟨m3, t3, l3, false⟩ < n := by omega
      have hgo := hP ⟨m3, t3, l3, false⟩ i ⟨tk, tn, tp⟩ hI3 hi3 htm
      generalize hz : St ⟨m3, t3, l3, false⟩ i ⟨tk, tn, tp⟩ = z at he hgo
      obtain ⟨⟨zm, zt, zl, zf⟩, zk⟩ := z
      have hcon := hC _ hlt m3 t3 l3 false i ⟨tk, tn, tp⟩ zm zt zl zf zk hI3 (hB3.resolve_left hn0) hi3 htm (by omega) hz
      have hKz := hK3.trans hgo.keep
      obtain ⟨maz, hmz⟩ := hget _ hKz
      dsimp only at hmz hcon he
      cases zk
      · rw [if_neg (by simp)] at he
        rw [he] at hpos
        injection hpos with p1 p2
        rw [end_eq hmz] at p1
        injection p1 with p3 p4 p5 p6
        subst p2 p3 p4 p5 p6
        have hnz := note_T' us (zm.set i ⟨mn, mr, maz⟩) zt zl zf 3 mn hgo.inv.log
        repeat' ((conv => whnf); first | refine hrow ?_ | refine Rw_md hmz ?_ | refine Rw_set hmz ?_ | refine Gs.id ?_ | with_reducible refine Brn.T rfl ?_ | with_reducible refine Brn.F rfl ?_ | refine Brn.T (by (try simp only [smT]); first | rfl | omega | fail) ?_ | refine Rng.mk (by (try simp only [smT]); omega) ?_ | refine Rw.lit rfl ?_ | (refine CL.mk (Or.inr (Raw.callI [1,2] [1,2] rfl rfl rfl rfl rfl rfl rfl (hcon) ?_)); rintro _ _ ⟨rfl, rfl⟩; refine Bk.mk rfl rfl ?_) | (refine CL.mk (Or.inr (Raw.callI [1,2] [1,2] rfl rfl rfl rfl rfl rfl rfl (hnz _ _ (by simp) (by simp [List.map_set, Md.row])) ?_)); rintro _ _ ⟨rfl, rfl⟩; refine Bk.mk rfl rfl ?_))
        all_goals (conv => whnf)
        all_goals exact RetO.mk ⟨[], _, _, (by first | exact LeS.d (by first | exact LeD.u rfl | fail) | fail), LeO.fm rfl rfl (LeO.fm rfl rfl .nil), rfl, rfl⟩
      · rw [if_pos rfl] at he
        repeat' ((conv => whnf); first | refine hrow ?_ | refine Gs.id ?_ | with_reducible refine Brn.T rfl ?_ | with_reducible refine Brn.F rfl ?_ | refine Brn.T (by (try simp only [smT]); first | rfl | omega | fail) ?_ | refine Rng.mk (by (try simp only [smT]); omega) ?_ | refine Rw.lit rfl ?_ | (refine CL.mk (Or.inr (Raw.callI [1,2] [1,2] rfl rfl rfl rfl rfl rfl rfl (hcon) ?_)); rintro _ _ ⟨rfl, rfl⟩; refine Bk.mk rfl rfl ?_))
        all_goals (conv => whnf)
        all_goals exact ⟨(⟨zm, zt, zl, zf⟩, q + 1), ⟨by dsimp only; omega, he, hgo.inv, hKz⟩, by dsimp only; omega, [(1, .k 1), (2, .k 2)], ⟨by (try dsimp only); (repeat (refine LeT.cons rfl (by first | exact LeS.d (by first | exact LeD.u rfl | fail) | fail) ?_)); exact LeT.nil, by (try dsimp only); repeat (first | exact LeO.nil | refine LeO.fm rfl (by first | rfl | fail) ?_ | fail)⟩⟩
    · rw [if_pos rfl] at he
      rw [he] at hpos
      injection hpos with p1 p2
      rw [end_eq hm3] at p1
      injection p1 with p3 p4 p5 p6
      subst p2 p3 p4 p5 p6
      have hnz := note_T' us (m3.set i ⟨mn, mr, ma3⟩) t3 l3 true 3 mn hI3.log
      repeat' ((conv => whnf); first | refine hrow ?_ | refine Rw_md hm3 ?_ | refine Rw_set hm3 ?_ | refine Gs.id ?_ | with_reducible refine Brn.T rfl ?_ | with_reducible refine Brn.F rfl ?_ | refine Brn.T (by (try simp only [smT]); first | rfl | omega | fail) ?_ | refine Rng.mk (by (try simp only [smT]); omega) ?_ | refine Rw.lit rfl ?_ | (refine CL.mk (Or.inr (Raw.callI [1,2] [1,2] rfl rfl rfl rfl rfl rfl rfl (hnz _ _ (by simp) (by simp [List.map_set, Md.row])) ?_)); rintro _ _ ⟨rfl, rfl⟩; refine Bk.mk rfl rfl ?_))
      all_goals (conv => whnf)
      all_goals exact RetO.mk ⟨[], _, _, (by first | exact LeS.d (by first | exact LeD.u rfl | fail) | fail), LeO.fm rfl rfl (LeO.fm rfl rfl .nil), rfl, rfl⟩
  · obtain rfl : q = steps.length := by omega
    rw [List.drop_length, stepsW] at he
    obtain ⟨ma3, hm3⟩ := hget _ hK3
    dsimp only at hm3
    rw [he] at hpos
    injection hpos with p1 p2
    rw [end_eq hm3] at p1
    injection p1 with p3 p4 p5 p6
    subst p2 p3 p4 p5 p6
    have hnz := note_T' us (m3.set i ⟨mn, mr, ma3⟩) t3 l3 f3 2 mn hI3.log
    repeat' ((conv => whnf); first | refine Rw_md hm3 ?_ | refine Rw_set hm3 ?_ | refine Gs.id ?_ | with_reducible refine Brn.T rfl ?_ | refine Brn.F (by (try simp only [smT]); first | rfl | omega | fail) ?_ | refine Rng.mk (by (try simp only [smT]); omega) ?_ | (refine CL.mk (Or.inr (Raw.callI [1,2] [1,2] rfl rfl rfl rfl rfl rfl rfl (hnz _ _ (by simp) (by simp [List.map_set, Md.row])) ?_)); rintro _ _ ⟨rfl, rfl⟩; refine Bk.mk rfl rfl ?_))
    all_goals (conv => whnf)
    all_goals exact RetO.mk ⟨[], _, _, (by first | exact LeS.d (by first | exact LeD.u rfl | fail) | fail), LeO.fm rfl rfl (LeO.fm rfl rfl .nil), rfl, rfl⟩
end Go.Proofs.YtgloielnnakknaaDoor
namespace Go.Proofs.YtgloielnnakknaaDoor
open Go.RowKit
theorem nd_len {α : Type} [DecidableEq α] : ∀ {l m : List α}, l.Nodup → (∀ x ∈ l, x ∈ m) → l.length ≤ m.length
  | [], _, _, _ => Nat.zero_le _
  | a :: r, m, h, hs => by
    rw [List.nodup_cons] at h
    have ha := hs a (by simp)
    have := nd_len (m := m.erase a) h.2 fun x hx => (List.mem_erase_of_ne (fun e => h.1 (by rw [← e]; exact hx))).2 (hs x (by simp [hx]))
    rw [List.length_erase_of_mem ha] at this
    have := List.length_pos_of_mem ha
    simp; omega
theorem flat_le {α β : Type} {f : α → List β} {k : Nat} : ∀ {l : List α}, (∀ a ∈ l, (f a).length ≤ k) → (l.flatMap f).length ≤ l.length * k
  | [], _ => by simp
  | a :: r, h => by
    have h1 := h a (by simp)
    have h2 := flat_le (f := f) (k := k) (l := r) fun b hb => h b (by simp [hb])
    simp only [List.flatMap_cons, List.length_append, List.length_cons, Nat.succ_mul]
    omega
theorem namesA_len {us : List Un} (hU : Uok us) : (namesA us).length ≤ 3640 := by
  have h : (namesA us).length ≤ us.length * 91 := flat_le fun u hu => by
    have h1 : (u.steps.flatMap fun t => [t.name, t.part, cutM t.name]).length ≤ u.steps.length * 3 := flat_le fun t _ => by simp
    have h2 := hU.steps u hu
    simp only [List.length_cons]
    omega
  have := hU.len
  omega
theorem Inv.alen {us : List Un} (hU : Uok us) {s : Ld} (h : Inv us s) {m : Md} (hm : m ∈ s.mods) : m.ats.length ≤ 3640 := by
  have h1 := nd_len (h.nd m hm) fun x hx => by
    obtain ⟨a, ha, rfl⟩ := List.mem_map.1 hx
    exact h.sub m hm a ha
  rw [List.length_map] at h1
  exact Nat.le_trans h1 (namesA_len hU)
theorem Inv.tlen {us : List Un} (hU : Uok us) {s : Ld} (h : Inv us s) : s.table.length ≤ 40 := by
  have h1 := nd_len (m := us.map fun u => some u.name) h.tnd fun x hx => by
    obtain ⟨j, hj, rfl⟩ := List.mem_map.1 hx
    have hlt := h.tab j hj
    obtain ⟨u, hu, e⟩ := hasU_mem (h.nm _ (List.getElem_mem hlt))
    simp only [nmOf, List.getElem?_eq_getElem hlt, Option.map_some]
    exact List.mem_map.2 ⟨u, hu, by rw [e]⟩
  rw [List.length_map, List.length_map] at h1
  exact Nat.le_trans h1 hU.len
theorem hasU_size {us : List Un} (hU : Uok us) {n : ByteArray} (h : hasU us n = true) : n.size ≤ 60 := by
  obtain ⟨u, hu, rfl⟩ := hasU_mem h
  exact hU.name u hu
theorem lastB_lt (s : ByteArray) (c : UInt8) : ∀ i : Nat, -1 ≤ lastB s c i ∧ (0 ≤ lastB s c i → (lastB s c i).toNat < i)
  | 0 => by simp [lastB]
  | i + 1 => by
    obtain ⟨h1, h2⟩ := lastB_lt s c i
    rw [lastB]
    split
    · simp
    · exact ⟨h1, fun h => by have := h2 h; omega⟩
theorem dotAt_lt {s : ByteArray} (h : 0 ≤ dotAt s) : (dotAt s).toNat < s.size := (lastB_lt s 46 s.size).2 h
abbrev addM (mods : List Md) (name : ByteArray) : List Md := mods ++ [⟨name, 0, []⟩]
theorem mk_md (n : ByteArray) : mkE [(2, 84, 2)] 0 [V.str n, V.int .i64 0, V.nl] = [E.v (V.str n), E.v (V.int .i64 0), E.os 84 2 []] := rfl
def MakC (us : List Un) (R : Ld → Nat → Ld × Bool) (n : Nat) : Prop := ∀ (mods : List Md) (table : List Nat) (log : List Ev) (full : Bool) (name : ByteArray) (zm : List Md) (zt : List Nat) (zl : List Ev) (zf zk : Bool), Inv us ⟨mods, table, log, full⟩ → RunB ⟨mods, table, log, full⟩ n → left ⟨mods, table, log, full⟩ ≤ n → hasU us name = true → findS ⟨mods, table, log, full⟩ name = none → (0 ≤ dotAt name → ∃ p, parS ⟨mods, table, log, full⟩ name = some p) → makeW R ⟨mods, table, log, full⟩ name = (⟨zm, zt, zl, zf⟩, zk) → CallsA Tryd.prog 74 [ldP, dsr name] (ldOb us mods table log full) (Iso (db zk) (ldOb us zm zt zl zf))
theorem Rw_at {l : List At} {i : Nat} {a : At} {K : List V → Prop} (h : l[i]? = some a) (k : K a.v) : Rw (l.map At.v) i K := ⟨_, by simp [h], k⟩
set_option maxHeartbeats 4000000 in
theorem make_C {us : List Un} (hU : Uok us) {R : Ld → Nat → Ld × Bool} (hP : RP us R) (n : Nat) (hn : n ≤ 6000) (hC : RunC us R n) : MakC us R n := by
  intro mods table log full name rm rt rl rf rk hI hB hL hhas hfind hpar hr
  have hlog := hI.log
  have htl := hI.tlen hU
  have hsz := hasU_size hU hhas
  obtain ⟨a1, a2, a3, a4, a5, a6, a7⟩ := link_P hI hhas hfind
  have hlast : CallsA Tryd.prog 81 [dsr name, dby 46] [] (Is (di (dotAt name))) := lastIdx_T name 46 (by omega)
  have hIp := hI.push hhas hfind
  dsimp only at hlog htl
  refine callsA_of_vcO (T := tt) Tryd.func74 rfl rfl rfl rfl rfl ?_
  refine' cutR (fun _ : Unit => True) (fun _ => ⟨[(0, ldP), (1, dsr name), (4, db false), (5, .d (.p 5 0)), (6, .d (.u .pn)), (7, dsr name)], (5, .bx 71 [.u (.m 2 mods.length 0)]) :: ldOb us (addM mods name) (table ++ [mods.length]) log full⟩) _ (fun hR => ?_) ?_
  rotate_left
  · repeat' ((conv => whnf); first | refine Gs.cut (i := 5) (by assumption) () [(1, .k 1), (2, .k 2), (5, .k 5)] rfl ?_ trivial | refine Gs.id ?_ | refine Rw.lit rfl ?_ | refine Len.mk (by first | rfl | fail) ?_ | refine Apd.mk (by first | rfl | fail) (by first | rfl | fail) (by (try simp only [smT]); first | omega | fail) (by unfold maxLen; first | (simp; omega) | fail) ?_ | (refine Raw.appendR (T := tt) ?_; (conv => whnf); first | refine Rw.lit rfl ?_ | fail) | refine Drw.of (T := tt) (i := 2) [7, 8, 9, 10] [0] [(0, true), (1, true), (2, true), (3, true), (4, true), (5, true), (6, false), (7, false), (8, false), (9, false), (10, false)] (by kernel_rfl) ?_ | refine Spc.mk ⟨[(2,(84,2))], ?_⟩)
    all_goals exact ⟨by (try dsimp only); (repeat (refine LeT.cons rfl (by first | exact LeS.d (by first | exact LeD.u rfl | exact LeD.p rfl | fail) | fail) ?_)); exact LeT.nil, by (try dsimp only); repeat (first | exact LeO.nil | refine LeO.bx rfl rfl (by repeat (first | exact LeL.nil | refine LeL.cons (by first | exact LeD.u (by simp [Md.row, mk_md]; done) | fail) ?_)) ?_ | refine LeO.fm rfl (by first | simp [Md.row, mk_md]) ?_ | fail)⟩
  · intro _ _
    dsimp only
    have hIp1 := hIp.tab
    have hl1 : (addM mods name).length = mods.length + 1 := by simp
    by_cases hd : 0 ≤ dotAt name
    · obtain ⟨p, hp⟩ := hpar hd
      obtain ⟨k, hk⟩ : ∃ k : Nat, dotAt name = k := ⟨(dotAt name).toNat, by omega⟩
      have hkl : k < name.size := by have := dotAt_lt hd; rw [hk] at this; simpa using this
      have hlp : lastP name = name.extract (k + 1) name.size := by rw [lastP, if_pos hd, hk]; rfl
      have hpb : parB name = name.extract 0 k := by rw [parB, hk]; rfl
      have hp2 : tfind (addM mods name) (name.extract 0 k) (table ++ [mods.length]) = some p := by
        have := hp; rw [parS, if_pos hd, hpb] at this; exact this
      have hpl : p < (addM mods name).length := hIp.tab p (tfind_mem hp2).1
      obtain ⟨⟨pn, pr, pa⟩, hpm⟩ : ∃ m, (addM mods name)[p]? = some m := ⟨_, List.getElem?_eq_getElem hpl⟩
      have hlink : linkS ⟨mods, table, log, full⟩ name = ⟨(addM mods name).set p ⟨pn, pr, setA pa (lastP name) (some mods.length)⟩, table ++ [mods.length], log, full⟩ := by
        simp only [linkS, hp, pushS, setS, updS, upd_at hpm]
      have hfindp := lfind_T us (addM mods name) (table ++ [mods.length]) log full (name.extract 0 k) (by simp; omega) hIp.tab
      rw [hp2] at hfindp
      have hal := hIp.alen hU (List.mem_of_getElem? hpm)
      dsimp only at hal
      have hset := mset_T us (addM mods name) (table ++ [mods.length]) log full p pn pr pa hpm (by omega) (name.extract (k + 1) name.size) (some mods.length)
      rw [hlink] at a1 a2
      have hgo := hP _ mods.length a1 (by simp [addM])
      rw [makeW, hlink, hp] at hr
      rw [hlp] at hr hgo a1 a2
      rw [hk] at hlast
      dsimp only at hr hgo
      have hBl := a2.runB hB (by omega)
      have hLl := Nat.le_trans a2.lf hL
      generalize hz : R ⟨(addM mods name).set p ⟨pn, pr, setA pa (name.extract (k + 1) name.size) (some mods.length)⟩, table ++ [mods.length], log, full⟩ mods.length = z at hr hgo
      obtain ⟨⟨zm, zt, zl, zf⟩, zk⟩ := z
      have hrun := hC _ _ _ _ mods.length zm zt zl zf zk _ _ a1 hBl (by simp [addM]) hLl hz rfl rfl
      have hil : mods.length < zm.length := by have := hgo.keep.len; simp [addM] at this; omega
      cases zk
      · rw [if_neg (by simp)] at hr
        injection hr with p1 p2
        subst p2
        have htz := hgo.inv.tlen hU
        dsimp only at htz
        have hdel := pdel_T zm zt mods.length (by omega) hgo.inv.tab hil
        have hpz : p < zm.length := by have h1 := hgo.keep.len; simp [addM] at h1 hpl; omega
        obtain ⟨⟨pn2, pr2, pa2⟩, hz3⟩ : ∃ m, zm[p]? = some m := ⟨_, List.getElem?_eq_getElem hpz⟩
        have hal2 := hgo.inv.alen hU (List.mem_of_getElem? hz3)
        have hptr := hgo.inv.ptr _ (List.mem_of_getElem? hz3)
        have hats : atsS ⟨zm, zt, zl, zf⟩ p = pa2 := by simp [atsS, hz3]
        dsimp only at hal2 hptr
        have hmf := mfind_T us zm (zt.filter fun j => j != mods.length) zl zf p pn2 pr2 pa2 hz3 (by omega) (name.extract (k + 1) name.size)
        simp only [goneS, hats] at p1
        refine' cutR (fun _ : Unit => True) (fun _ => ⟨[(0, ldP), (1, dsr name), (4, db false), (5, .d (.q [.m 2 mods.length 0] 0)), (6, mdP p), (7, dsr (name.extract (k + 1) name.size))], ldOb us zm (zt.filter fun j => j != mods.length) zl zf⟩) _ (fun hR => ?_) ?_
        rotate_left
        · repeat' ((conv => whnf); first | refine Gs.cut (i := 12) (by assumption) () [(1, .k 1), (2, .k 2)] rfl ?_ trivial | refine Gs.go (i := 11) (Ghost.frzB 5 rfl rfl) ?_ | refine Gs.id ?_ | with_reducible refine Brn.T rfl ?_ | with_reducible refine Brn.F rfl ?_ | refine Rng.mk (by (try simp only [smT]); omega) ?_ | refine Rw.lit rfl ?_ | refine Len.mk (by first | rfl | (simp; done) | fail) ?_ | refine Slc.mk ⟨_, _, rfl, rfl, (by (try simp only [smT]); omega), (by (try simp only [smT]); omega), ?_⟩ | refine Drw.ofP (T := tt) (i := 7) [4, 9, 10] [0, 1, 2, 3, 5, 6, 7, 8] [0, 1, 2, 3, 5, 6, 7, 8] (OT.alt 4 (OT.alt 9 (OT.alt 10 OT.nil OT.nil) OT.nil) OT.nil) (by kernel_rfl) ?_ | (refine CL.mk (Or.inl ?_); (conv => whnf); refine Cl.is (hlast) rfl (by first | exact fun _ => rfl | fail) ?_) | (refine CL.mk (Or.inr (Raw.callI [1,2] [1,2] rfl rfl rfl rfl rfl rfl rfl (hfindp) ?_)); rintro _ _ ⟨rfl, rfl⟩; refine Bk.mk rfl rfl ?_) | (refine CL.mk (Or.inr (Raw.callI [1,2] [1,2] rfl rfl rfl rfl rfl rfl rfl (hset) ?_)); rintro _ _ ⟨rfl, rfl⟩; refine Bk.mk rfl rfl ?_) | (refine CL.mk (Or.inr (Raw.callI [1,2] [1,2] rfl rfl rfl rfl rfl rfl rfl (hrun) ?_)); rintro _ _ ⟨rfl, rfl⟩; refine Bk.mk rfl rfl ?_) | (refine CL.mk (Or.inr (Raw.take 900 48 rfl rfl rfl ((by rfl)) rfl rfl rfl (Raw.callI [900,2] [900,2] rfl rfl rfl rfl rfl rfl rfl (hdel _ (by simp)) ?_))); rintro _ _ ⟨rfl, rfl⟩; refine Bk.mk rfl rfl ?_))
          all_goals exact ⟨by (try dsimp only); (repeat (refine LeT.cons rfl (by first | exact LeS.d (by first | exact LeD.u rfl | exact LeD.q rfl | fail) | fail) ?_)); exact LeT.nil, by (try dsimp only); repeat (first | exact LeO.nil | refine LeO.fm rfl (by first | rfl | fail) ?_ | fail)⟩
        · intro _ _
          dsimp only
          rcases aix_cases (name.extract (k + 1) name.size) pa2 0 with ⟨h1, h2, _, _, _⟩ | ⟨kk, a, h1, h2, h3, h4, h5, _⟩
          · rw [h2, if_neg (by simp)] at p1
            injection p1 with p3 p4 p5 p6
            subst p3 p4 p5 p6
            rw [h1] at hmf
            repeat' ((conv => whnf); first | refine Gs.id ?_ | with_reducible refine Brn.T rfl ?_ | with_reducible refine Brn.F rfl ?_ | refine Drw.of (T := tt) (i := 14) [] [] [(0, true), (1, true), (2, true), (3, true), (4, true), (5, true), (6, true), (7, true), (8, true), (9, true), (10, true), (11, true), (12, true), (13, true)] (by kernel_rfl) ?_ | (refine CL.mk (Or.inr (Raw.callI [1,2] [1,2] rfl rfl rfl rfl rfl rfl rfl (hmf) ?_)); rintro _ _ ⟨rfl, rfl⟩; refine Bk.mk rfl rfl ?_))
            all_goals (conv => whnf)
            all_goals exact RetO.mk ⟨[], _, _, (by first | exact LeS.d (by first | exact LeD.u rfl | fail) | fail), LeO.fm rfl rfl (LeO.fm rfl rfl .nil), rfl, rfl⟩
          · rw [h2, Nat.zero_add] at hmf
            have hkl2 := lt_get h1
            have hpa := hptr _ (List.mem_of_getElem? h1)
            obtain ⟨an, am⟩ := a
            dsimp only at h3 h4 hpa
            subst h3
            rcases am with _ | j
            · rw [h4, if_neg (by simp)] at p1
              injection p1 with p3 p4 p5 p6
              subst p3 p4 p5 p6
              repeat' ((conv => whnf); first | refine Rw_md hz3 ?_ | refine Rw_at h1 ?_ | refine Gs.id ?_ | with_reducible refine Brn.T rfl ?_ | with_reducible refine Brn.F rfl ?_ | refine Ixo.mk ⟨_, rfl, (by (try simp only [smT]); omega), ?_⟩ | refine Drw.of (T := tt) (i := 14) [] [] [(0, true), (1, true), (2, true), (3, true), (4, true), (5, true), (6, true), (7, true), (8, true), (9, true), (10, true), (11, true), (12, true), (13, true)] (by kernel_rfl) ?_ | (refine CL.mk (Or.inr (Raw.callI [1,2] [1,2] rfl rfl rfl rfl rfl rfl rfl (hmf) ?_)); rintro _ _ ⟨rfl, rfl⟩; refine Bk.mk rfl rfl ?_))
              all_goals (conv => whnf)
              all_goals exact RetO.mk ⟨[], _, _, (by first | exact LeS.d (by first | exact LeD.u rfl | fail) | fail), LeO.fm rfl rfl (LeO.fm rfl rfl .nil), rfl, rfl⟩
            · have hjl := hpa j rfl
              have hdrop := mdrop_T us zm (zt.filter fun j => j != mods.length) zl zf p pn2 pr2 pa2 hz3 (by omega) kk hkl2
              by_cases hj : j = mods.length
              · rw [h4, hj, if_pos rfl] at p1
                simp only [dropS, updS, upd_at hz3, h5] at p1
                injection p1 with p3 p4 p5 p6
                subst p3 p4 p5 p6
                repeat' ((conv => whnf); first | refine Rw_md hz3 ?_ | refine Rw_at h1 ?_ | refine Gs.id ?_ | with_reducible refine Brn.T rfl ?_ | (refine Brn.mk (fun hb => ?_) (fun hb => ?_) <;> (try simp only [smT] at hb) <;> (try (exact absurd trivial hb)) <;> (try (exfalso; omega))) | refine Ixo.mk ⟨_, rfl, (by (try simp only [smT]); omega), ?_⟩ | refine Pm.mk (by first | assumption | (simp; omega)) (by first | assumption | (simp; omega)) ?_ | refine Drw.of (T := tt) (i := 14) [] [] [(0, true), (1, true), (2, true), (3, true), (4, true), (5, true), (6, true), (7, true), (8, true), (9, true), (10, true), (11, true), (12, true), (13, true)] (by kernel_rfl) ?_ | (refine CL.mk (Or.inr (Raw.callI [1,2] [1,2] rfl rfl rfl rfl rfl rfl rfl (hmf) ?_)); rintro _ _ ⟨rfl, rfl⟩; refine Bk.mk rfl rfl ?_) | (refine CL.mk (Or.inr (Raw.callI [1,2] [1,2] rfl rfl rfl rfl rfl rfl rfl (hdrop) ?_)); rintro _ _ ⟨rfl, rfl⟩; refine Bk.mk rfl rfl ?_))
                all_goals (conv => whnf)
                all_goals first | (exfalso; simp_all [notT]; done) | exact RetO.mk ⟨[], _, _, (by first | exact LeS.d (by first | exact LeD.u rfl | fail) | fail), LeO.fm rfl rfl (LeO.fm rfl rfl .nil), rfl, rfl⟩
              · rw [h4, if_neg (by simpa using hj)] at p1
                injection p1 with p3 p4 p5 p6
                subst p3 p4 p5 p6
                repeat' ((conv => whnf); first | refine Rw_md hz3 ?_ | refine Rw_at h1 ?_ | refine Gs.id ?_ | with_reducible refine Brn.T rfl ?_ | (refine Brn.mk (fun hb => ?_) (fun hb => ?_) <;> (try simp only [smT] at hb) <;> (try (exact absurd trivial hb)) <;> (try (exfalso; omega))) | refine Ixo.mk ⟨_, rfl, (by (try simp only [smT]); omega), ?_⟩ | refine Pm.mk (by first | assumption | (simp; omega)) (by first | assumption | (simp; omega)) ?_ | refine Drw.of (T := tt) (i := 14) [] [] [(0, true), (1, true), (2, true), (3, true), (4, true), (5, true), (6, true), (7, true), (8, true), (9, true), (10, true), (11, true), (12, true), (13, true)] (by kernel_rfl) ?_ | (refine CL.mk (Or.inr (Raw.callI [1,2] [1,2] rfl rfl rfl rfl rfl rfl rfl (hmf) ?_)); rintro _ _ ⟨rfl, rfl⟩; refine Bk.mk rfl rfl ?_) | (refine CL.mk (Or.inr (Raw.callI [1,2] [1,2] rfl rfl rfl rfl rfl rfl rfl (hdrop) ?_)); rintro _ _ ⟨rfl, rfl⟩; refine Bk.mk rfl rfl ?_))
                all_goals (conv => whnf)
                all_goals first | (exfalso; simp_all [notT]; done) | exact RetO.mk ⟨[], _, _, (by first | exact LeS.d (by first | exact LeD.u rfl | fail) | fail), LeO.fm rfl rfl (LeO.fm rfl rfl .nil), rfl, rfl⟩
      · rw [if_pos rfl] at hr
        injection hr with p1 p2
        injection p1 with p3 p4 p5 p6
        subst p2 p3 p4 p5 p6
        repeat' ((conv => whnf); first | refine Gs.id ?_ | with_reducible refine Brn.T rfl ?_ | refine Rng.mk (by (try simp only [smT]); omega) ?_ | refine Slc.mk ⟨_, _, rfl, rfl, (by (try simp only [smT]); omega), (by (try simp only [smT]); omega), ?_⟩ | refine Drw.ofP (T := tt) (i := 7) [4, 9, 10] [0, 1, 2, 3, 5, 6, 7, 8] [0, 1, 2, 3, 5, 6, 7, 8] (OT.alt 4 (OT.alt 9 (OT.alt 10 OT.nil OT.nil) OT.nil) OT.nil) (by kernel_rfl) ?_ | (refine CL.mk (Or.inl ?_); (conv => whnf); refine Cl.is (hlast) rfl (by first | exact fun _ => rfl | fail) ?_) | (refine CL.mk (Or.inr (Raw.callI [1,2] [1,2] rfl rfl rfl rfl rfl rfl rfl (hfindp) ?_)); rintro _ _ ⟨rfl, rfl⟩; refine Bk.mk rfl rfl ?_) | (refine CL.mk (Or.inr (Raw.callI [1,2] [1,2] rfl rfl rfl rfl rfl rfl rfl (hset) ?_)); rintro _ _ ⟨rfl, rfl⟩; refine Bk.mk rfl rfl ?_) | (refine CL.mk (Or.inr (Raw.callI [1,2] [1,2] rfl rfl rfl rfl rfl rfl rfl (hrun) ?_)); rintro _ _ ⟨rfl, rfl⟩; refine Bk.mk rfl rfl ?_))
        all_goals (conv => whnf)
        all_goals exact RetO.mk ⟨[], _, _, (by first | exact LeS.d (by first | exact LeD.u rfl | fail) | fail), LeO.fm rfl rfl (LeO.fm rfl rfl .nil), rfl, rfl⟩
    · have hlink : linkS ⟨mods, table, log, full⟩ name = ⟨addM mods name, table ++ [mods.length], log, full⟩ := by
        simp [linkS, parS, hd, pushS]
      have hps : parS ⟨mods, table, log, full⟩ name = none := by simp [parS, hd]
      rw [hlink] at a1 a2
      have hgo := hP _ mods.length a1 (by dsimp only; omega)
      rw [makeW, hlink, hps] at hr
      dsimp only at hr hgo
      have hBl := a2.runB hB (by omega)
      have hLl : left ⟨addM mods name, table ++ [mods.length], log, full⟩ ≤ n := Nat.le_trans a2.lf hL
      generalize hz : R ⟨addM mods name, table ++ [mods.length], log, full⟩ mods.length = z at hr hgo
      obtain ⟨⟨zm, zt, zl, zf⟩, zk⟩ := z
      have hrun := hC _ _ _ _ mods.length zm zt zl zf zk _ _ a1 hBl (by omega) hLl hz rfl rfl
      have hil : mods.length < zm.length := by have := hgo.keep.len; simp [addM] at this; omega
      cases zk
      · rw [if_neg (by simp)] at hr
        injection hr with p1 p2
        simp only [goneS] at p1
        injection p1 with p3 p4 p5 p6
        subst p2 p3 p4 p5 p6
        have htz := hgo.inv.tlen hU
        dsimp only at htz
        have hdel := pdel_T zm zt mods.length (by omega) hgo.inv.tab hil
        repeat' ((conv => whnf); first | refine Gs.go (i := 11) (Ghost.frzB 5 rfl rfl) ?_ | refine Gs.id ?_ | with_reducible refine Brn.F rfl ?_ | refine Brn.F (by (try simp only [smT]); first | rfl | omega | fail) ?_ | refine Rw.lit rfl ?_ | refine Len.mk (by first | rfl | (simp; done) | fail) ?_ | (refine CL.mk (Or.inl ?_); (conv => whnf); refine Cl.is (hlast) rfl (by first | exact fun _ => rfl | fail) ?_) | (refine CL.mk (Or.inr (Raw.callI [1,2] [1,2] rfl rfl rfl rfl rfl rfl rfl (hrun) ?_)); rintro _ _ ⟨rfl, rfl⟩; refine Bk.mk rfl rfl ?_) | (refine CL.mk (Or.inr (Raw.take 900 48 rfl rfl rfl ((by rfl)) rfl rfl rfl (Raw.callI [900,2] [900,2] rfl rfl rfl rfl rfl rfl rfl (hdel _ (by simp)) ?_))); rintro _ _ ⟨rfl, rfl⟩; refine Bk.mk rfl rfl ?_))
        all_goals (conv => whnf)
        all_goals exact RetO.mk ⟨[], _, _, (by first | exact LeS.d (by first | exact LeD.u rfl | fail) | fail), LeO.fm rfl rfl (LeO.fm rfl rfl .nil), rfl, rfl⟩
      · rw [if_pos rfl] at hr
        injection hr with p1 p2
        injection p1 with p3 p4 p5 p6
        subst p2 p3 p4 p5 p6
        repeat' ((conv => whnf); first | refine Gs.id ?_ | with_reducible refine Brn.T rfl ?_ | refine Brn.F (by (try simp only [smT]); first | rfl | omega | fail) ?_ | (refine CL.mk (Or.inl ?_); (conv => whnf); refine Cl.is (hlast) rfl (by first | exact fun _ => rfl | fail) ?_) | (refine CL.mk (Or.inr (Raw.callI [1,2] [1,2] rfl rfl rfl rfl rfl rfl rfl (hrun) ?_)); rintro _ _ ⟨rfl, rfl⟩; refine Bk.mk rfl rfl ?_))
        all_goals (conv => whnf)
        all_goals exact RetO.mk ⟨[], _, _, (by first | exact LeS.d (by first | exact LeD.u rfl | fail) | fail), LeO.fm rfl rfl (LeO.fm rfl rfl .nil), rfl, rfl⟩
end Go.Proofs.YtgloielnnakknaaDoor
namespace Go.Proofs.YtgloielnnakknaaDoor
open Go.RowKit
theorem ext_get (s : ByteArray) (i j : Nat) (hj : j < i) : (s.extract 0 i).data[j]? = s.data[j]? := by
  rw [ByteArray.data_extract, Array.getElem?_extract]
  by_cases h : j < s.data.size
  · have : j < min i s.data.size - 0 := by omega
    simp only [this, if_true, Nat.zero_add]
  · have : ¬ j < min i s.data.size - 0 := by omega
    simp only [this, if_false]
    rw [Array.getElem?_eq_none (by omega)]
theorem ext_ext (s : ByteArray) (i k : Nat) (h : k ≤ i) : (s.extract 0 i).extract 0 k = s.extract 0 k := by
  apply ByteArray.ext
  rw [ByteArray.data_extract, ByteArray.data_extract, ByteArray.data_extract]
  apply Array.ext'
  simp [Array.toList_extract, List.extract_eq_take_drop, List.take_take, Nat.min_eq_left h]
theorem lastB_ext (s : ByteArray) (i : Nat) : ∀ j, j ≤ i → lastB (s.extract 0 i) 46 j = lastB s 46 j
  | 0, _ => rfl
  | j + 1, h => by rw [lastB, lastB, ext_get s i j (by omega), lastB_ext s i j (by omega)]
theorem heads_last (s : ByteArray) : ∀ i, (lastB s 46 i = -1 ∧ headsB s i = []) ∨ ∃ k : Nat, lastB s 46 i = k ∧ k < i ∧ headsB s i = headsB s k ++ [s.extract 0 k]
  | 0 => .inl ⟨rfl, rfl⟩
  | i + 1 => by
    rw [lastB, headsB]
    split
    · exact .inr ⟨i, rfl, by omega, rfl⟩
    · rcases heads_last s i with h | ⟨k, h1, h2, h3⟩
      · exact .inl h
      · exact .inr ⟨k, h1, by omega, h3⟩
/-- Each name is the parent of the next one. -/
def Chn (l : List ByteArray) : Prop := ∀ (q : Nat) x, l[q]? = some x → (dotAt x < 0 ∧ q = 0) ∨ (0 ≤ dotAt x ∧ ∃ p, q = p + 1 ∧ l[p]? = some (parB x))
theorem dotAt_ext (s : ByteArray) (i : Nat) (h : i ≤ s.size) : dotAt (s.extract 0 i) = lastB s 46 i := by
  have e : (s.extract 0 i).size = i := by simp; omega
  rw [dotAt, e]
  exact lastB_ext s i i (Nat.le_refl _)
theorem chn_heads (s : ByteArray) : ∀ (n i : Nat), i ≤ n → i ≤ s.size → Chn (headsB s i ++ [s.extract 0 i])
  | n, i, hn, hi => by
    have hd := dotAt_ext s i hi
    rcases heads_last s i with ⟨h1, h2⟩ | ⟨k, h1, h2, h3⟩
    · intro q x hq
      rw [h2] at hq
      have hq0 : q = 0 := by have := lt_get hq; simpa using this
      subst hq0
      simp at hq
      subst hq
      exact .inl ⟨by rw [hd, h1]; omega, rfl⟩
    · cases n with
      | zero => omega
      | succ n =>
        have ih := chn_heads s n k (by omega) (by omega)
        rw [← h3] at ih
        intro q x hq
        by_cases hlt : q < (headsB s i).length
        · rw [List.getElem?_append_left hlt] at hq
          rcases ih q x hq with h | ⟨h4, p, h5, h6⟩
          · exact .inl h
          · exact .inr ⟨h4, p, h5, by rw [List.getElem?_append_left (by omega)]; exact h6⟩
        · have hq0 : q = (headsB s i).length := by have := lt_get hq; simp at this; omega
          subst hq0
          rw [List.getElem?_append_right (Nat.le_refl _)] at hq
          simp at hq
          subst hq
          refine .inr ⟨by rw [hd, h1]; omega, (headsB s k).length, by rw [h3]; simp, ?_⟩
          rw [h3, List.getElem?_append_left (by simp), List.getElem?_append_right (Nat.le_refl _), parB, hd, h1]
          simp only [Nat.sub_self, List.getElem?_cons_zero, Int.toNat_natCast]
          rw [ext_ext s i k (by omega)]
theorem ext_all (s : ByteArray) : s.extract 0 s.size = s := by
  apply ByteArray.ext
  rw [ByteArray.data_extract]
  simp
theorem chn_chain (s : ByteArray) : Chn (chainM s) := by
  have := chn_heads s s.size s.size (Nat.le_refl _) (Nat.le_refl _)
  rwa [ext_all] at this
theorem chain_size (s : ByteArray) : ∀ x ∈ chainM s, x.size ≤ s.size := by
  have h : ∀ i, ∀ x ∈ headsB s i, x.size ≤ s.size := by
    intro i
    induction i with
    | zero => intro x hx; cases hx
    | succ i ih =>
      intro x hx
      rw [headsB] at hx
      split at hx
      · rcases List.mem_append.1 hx with hx | hx
        · exact ih x hx
        · simp at hx; subst hx; simp; omega
      · exact ih x hx
  intro x hx
  rcases List.mem_append.1 hx with hx | hx
  · exact h _ x hx
  · simp at hx; subst hx; exact Nat.le_refl _
theorem chain_len (s : ByteArray) : (chainM s).length ≤ s.size + 1 := by
  have := headsB_le s s.size
  simp [chainM]; omega
theorem tfind_push {mods : List Md} {n p : ByteArray} : ∀ {l : List Nat} {j : Nat}, (∀ k ∈ l, k < mods.length) → tfind mods p l = some j → tfind (mods ++ [⟨n, 0, []⟩]) p (l ++ [mods.length]) = some j
  | k :: r, j, hl, h => by
    have hk : nmOf (mods ++ [⟨n, 0, []⟩]) k = nmOf mods k := by simp [nmOf, List.getElem?_append_left (hl k (by simp))]
    simp only [List.cons_append, tfind, hk] at h ⊢
    split
    · rename_i e; rw [if_pos e] at h; exact h
    · rename_i e; rw [if_neg e] at h; exact tfind_push (fun x hx => hl x (by simp [hx])) h
  | [], _, _, h => by cases h
theorem par_push {us : List Un} {s : Ld} (h : Inv us s) {n : ByteArray} (hd : 0 ≤ dotAt n) {j : Nat} (hf : findS s (parB n) = some j) : parS s n = some j := by
  rw [parS, if_pos hd]
  exact tfind_push h.tab hf
end Go.Proofs.YtgloielnnakknaaDoor
namespace Go.Proofs.YtgloielnnakknaaDoor
open Go.RowKit
def failW (w : Wd) : Wd := ⟨w.mods, w.log, false⟩
def updR (ms : List Rm) (i : Nat) (f : Rm → Rm) : List Rm := match ms[i]? with
  | some m => ms.set i (f m)
  | none => ms
def updW (w : Wd) (i : Nat) (f : Rm → Rm) : Wd := ⟨updR w.mods i f, w.log, w.ok⟩
def setW (w : Wd) (i : Nat) (n : ByteArray) (v : Int) : Wd := updW w i fun m => setRm m n v
def dropW (w : Wd) (i k : Nat) : Wd := updW w i fun m => dropRm m k
def actW (w : Wd) (i : Nat) (d : Int) : Wd := updW w i fun m => ⟨m.name, m.act + d, m.gone, m.nms, m.vals⟩
def killW (w : Wd) (i : Nat) : Wd := updW w i fun m => ⟨m.name, m.act, true, m.nms, m.vals⟩
def nmR (w : Wd) (i : Nat) : ByteArray := match w.mods[i]? with
  | some m => m.name
  | none => emp
def actR (w : Wd) (i : Nat) : Int := match w.mods[i]? with
  | some m => m.act
  | none => 0
def nmsR (w : Wd) (i : Nat) : List ByteArray := match w.mods[i]? with
  | some m => m.nms
  | none => []
def valsR (w : Wd) (i : Nat) : List Int := match w.mods[i]? with
  | some m => m.vals
  | none => []
def sixR (w : Wd) (i : Nat) (n : ByteArray) : Int := six n (nmsR w i) 0
def valR (w : Wd) (i : Nat) (k : Int) : Int := ((valsR w i)[k.toNat]?).getD (-1)
def modR (w : Wd) (n : ByteArray) : Int := mix n w.mods 0
def stepsR (St : Wd → Nat → Stp → Wd) (i : Nat) : Wd → List Stp → Wd
  | w, [] => w
  | w, t :: r => if w.ok = true then stepsR St i (St w i t) r else w
def beginR (w : Wd) (i : Nat) : Wd := actW (sayR w 1 (nmR w i)) i 1
def endR (w : Wd) (i : Nat) : Wd := sayR (actW w i (-1)) (if w.ok = true then 2 else 3) (nmR w i)
def runR (St : Wd → Nat → Stp → Wd) (us : List Un) (w : Wd) (i : Nat) : Wd := endR (stepsR St i (beginR w i) (unitS us (nmR w i))) i
def pushW (w : Wd) (n : ByteArray) : Wd := ⟨w.mods ++ [⟨n, 0, false, [], []⟩], w.log, w.ok⟩
def parW (w : Wd) (p : Option ByteArray) (n : ByteArray) : Int := match p with
  | none => -1
  | some q => modR (pushW w n) q
def linkW (w : Wd) (p : Option ByteArray) (n : ByteArray) : Wd := match p with
  | none => pushW w n
  | some q => setW (pushW w n) (modR (pushW w n) q).toNat (lastP n) w.mods.length
def goneW (w : Wd) (i : Nat) (p : Int) (n : ByteArray) : Wd :=
  if 0 ≤ p ∧ 0 ≤ sixR (killW w i) p.toNat n ∧ valR (killW w i) p.toNat (sixR (killW w i) p.toNat n) = i then dropW (killW w i) p.toNat (sixR (killW w i) p.toNat n).toNat else killW w i
def makeR (R : Wd → Nat → Wd) (w : Wd) (p : Option ByteArray) (n : ByteArray) : Wd := if (R (linkW w p n) w.mods.length).ok = true then R (linkW w p n) w.mods.length else goneW (R (linkW w p n) w.mods.length) w.mods.length (parW w p n) (lastP n)
def loadR (R : Wd → Nat → Wd) (us : List Un) : Wd → Option ByteArray → List ByteArray → Wd
  | w, _, [] => w
  | w, p, n :: r => if w.ok = true then (if 0 ≤ modR w n then loadR R us (sayR w (if 0 < actR w (modR w n).toNat then 5 else 4) n) (some n) r
      else if hasU us n = true then loadR R us (makeR R w p n) (some n) r else failW (sayR w 6 n)) else w
def partR (R : Wd → Nat → Wd) (us : List Un) (w : Wd) (i : Nat) (t : Stp) : Wd :=
  if 0 ≤ sixR w (modR w t.name).toNat t.part then setW w i t.part (valR w (modR w t.name).toNat (sixR w (modR w t.name).toNat t.part))
  else if hasU us (wholeB t) = true then (if (loadR R us w none (chainM (wholeB t))).ok = true then setW (loadR R us w none (chainM (wholeB t))) i t.part (modR (loadR R us w none (chainM (wholeB t))) (wholeB t)) else loadR R us w none (chainM (wholeB t))) else failW w
def stepR (R : Wd → Nat → Wd) (us : List Un) (w : Wd) (i : Nat) (t : Stp) : Wd :=
  if t.kind = 1 then setW w i t.name (-1)
  else if t.kind = 2 then (if 0 ≤ sixR w i t.name then dropW w i (sixR w i t.name).toNat else failW w)
  else if t.kind = 5 then (if 0 ≤ modR w t.name then R w (modR w t.name).toNat else failW w)
  else if (loadR R us w none (chainM t.name)).ok = true then
    (if t.kind = 3 then setW (loadR R us w none (chainM t.name)) i (cutM t.name) (modR (loadR R us w none (chainM t.name)) (cutM t.name))
    else partR R us (loadR R us w none (chainM t.name)) i t)
  else loadR R us w none (chainM t.name)
def runMR (us : List Un) : Nat → Wd → Nat → Wd
  | 0 => runR (fun w _ _ => failW w) us
  | n + 1 => runR (stepR (runMR us n) us) us
structure InvR (us : List Un) (w : Wd) : Prop where
  okl : w.ok = true → w.log.length ≤ 5000
  nm : ∀ m ∈ w.mods, hasU us m.name = true
  nd : ∀ m ∈ w.mods, m.nms.Nodup
  sub : ∀ m ∈ w.mods, ∀ x ∈ m.nms, x ∈ namesA us
  len : ∀ m ∈ w.mods, m.vals.length = m.nms.length
structure KeepR (w w' : Wd) : Prop where
  len : w.mods.length ≤ w'.mods.length
  get : ∀ (i : Nat) m, w.mods[i]? = some m → ∃ m', w'.mods[i]? = some m' ∧ m'.name = m.name ∧ m'.act = m.act ∧ (w'.ok = true → m'.gone = m.gone)
  new : ∀ (i : Nat) m, w.mods.length ≤ i → w'.mods[i]? = some m → m.act = 0
  log : w.log.length ≤ w'.log.length
  ok : w'.ok = true → w.ok = true
def M1 (w : Wd) : Prop := w.mods.length ≤ w.log.length + 1
def RunBR (w : Wd) (n : Nat) : Prop := ∀ m ∈ w.mods, 0 ≤ m.act ∧ m.act + n ≤ 20000
theorem KeepR.refl (w : Wd) : KeepR w w := ⟨Nat.le_refl _, fun _ m h => ⟨m, h, rfl, rfl, fun _ => rfl⟩, fun i m h1 h2 => by have := lt_get h2; omega, Nat.le_refl _, id⟩
theorem KeepR.trans {a b c : Wd} (h : KeepR a b) (k : KeepR b c) : KeepR a c := ⟨Nat.le_trans h.len k.len, fun i m e => by
  obtain ⟨m1, q1, q2, q3, q4⟩ := h.get i m e
  obtain ⟨m2, r1, r2, r3, r4⟩ := k.get i m1 q1
  exact ⟨m2, r1, r2.trans q2, r3.trans q3, fun ho => (r4 ho).trans (q4 (k.ok ho))⟩, fun i m h1 h2 => by
  by_cases hi : b.mods.length ≤ i
  · exact k.new i m hi h2
  · have hlt : i < b.mods.length := by omega
    have e := List.getElem?_eq_getElem hlt
    obtain ⟨m2, r1, _, r3, _⟩ := k.get i _ e
    rw [h2] at r1
    injection r1 with r1
    subst r1
    rw [r3]
    exact h.new i _ h1 e, Nat.le_trans h.log k.log, fun e => h.ok (k.ok e)⟩
theorem KeepR.runB {w w' : Wd} {n : Nat} (h : KeepR w w') (b : RunBR w n) (hn : n ≤ 20000) : RunBR w' n := fun m hm => by
  obtain ⟨i, hi⟩ := List.getElem?_of_mem hm
  by_cases hlt : w.mods.length ≤ i
  · rw [h.new i m hlt hi]; omega
  · have e := List.getElem?_eq_getElem (show i < w.mods.length by omega)
    obtain ⟨m2, r1, _, r3, _⟩ := h.get i _ e
    rw [hi] at r1
    injection r1 with r1
    subst r1
    rw [r3]
    exact b _ (List.mem_of_getElem? e)
theorem updR_len (ms : List Rm) (i : Nat) (f : Rm → Rm) : (updR ms i f).length = ms.length := by
  unfold updR; split <;> simp
theorem updR_get (ms : List Rm) (i : Nat) (f : Rm → Rm) (j : Nat) : (updR ms i f)[j]? = (ms[j]?).map fun m => if j = i then f m else m := by
  unfold updR
  cases hm : ms[i]? with
  | none =>
    simp only
    by_cases h : j = i
    · subst h; rw [hm]; rfl
    · simp [h]
  | some m =>
    simp only
    rw [List.getElem?_set]
    by_cases h : i = j
    · subst h; have e := (List.getElem?_eq_some_iff.1 hm).2; simp [lt_get hm, e]
    · rw [if_neg h]
      have : ¬ j = i := fun e => h e.symm
      simp [this]
theorem updR_mem {ms : List Rm} {i : Nat} {f : Rm → Rm} {m : Rm} (h : m ∈ updR ms i f) : ∃ m0 ∈ ms, m = f m0 ∨ m = m0 := by
  obtain ⟨j, hj⟩ := List.getElem?_of_mem h
  rw [updR_get] at hj
  cases hm : ms[j]? with
  | none => rw [hm] at hj; cases hj
  | some m0 =>
    rw [hm] at hj
    simp only [Option.map_some, Option.some.injEq] at hj
    refine ⟨m0, List.mem_of_getElem? hm, ?_⟩
    split at hj
    · exact .inl hj.symm
    · exact .inr hj.symm
theorem updR_at {ms : List Rm} {i : Nat} {m : Rm} {f : Rm → Rm} (h : ms[i]? = some m) : updR ms i f = ms.set i (f m) := by unfold updR; rw [h]
theorem KeepR.upd {w : Wd} {i : Nat} {f : Rm → Rm} (h1 : ∀ m, (f m).name = m.name) (h2 : ∀ m, (f m).act = m.act) (h3 : ∀ m, w.ok = true → (f m).gone = m.gone) : KeepR w (updW w i f) := ⟨by simp [updW, updR_len], fun j m e => by
  refine ⟨if j = i then f m else m, by simp only [updW, updR_get, e, Option.map_some], ?_, ?_, fun ho => ?_⟩
  · split
    · exact h1 m
    · rfl
  · split
    · exact h2 m
    · rfl
  · split
    · exact h3 m ho
    · rfl, fun j m q1 q2 => by have := lt_get q2; simp [updW, updR_len] at this; omega, Nat.le_refl _, id⟩
theorem setRm_nm (m : Rm) (n : ByteArray) (v : Int) : (setRm m n v).name = m.name := by unfold setRm; split <;> rfl
theorem setRm_act (m : Rm) (n : ByteArray) (v : Int) : (setRm m n v).act = m.act := by unfold setRm; split <;> rfl
theorem setRm_gone (m : Rm) (n : ByteArray) (v : Int) : (setRm m n v).gone = m.gone := by unfold setRm; split <;> rfl
theorem KeepR.set (w : Wd) (i : Nat) (n : ByteArray) (v : Int) : KeepR w (setW w i n v) := .upd (fun m => setRm_nm m n v) (fun m => setRm_act m n v) fun m _ => setRm_gone m n v
theorem KeepR.drop (w : Wd) (i k : Nat) : KeepR w (dropW w i k) := .upd (fun _ => rfl) (fun _ => rfl) fun _ _ => rfl
theorem KeepR.kill (w : Wd) (i : Nat) (h : w.ok = false) : KeepR w (killW w i) := .upd (fun _ => rfl) (fun _ => rfl) fun _ ho => by rw [h] at ho; cases ho
theorem KeepR.fail (w : Wd) : KeepR w (failW w) := ⟨Nat.le_refl _, fun _ m h => ⟨m, h, rfl, rfl, fun _ => rfl⟩, fun i m h1 h2 => by have := lt_get h2; simp only [failW] at this; omega, Nat.le_refl _, fun h => by cases h⟩
theorem KeepR.say (w : Wd) (k : Int) (n : ByteArray) : KeepR w (sayR w k n) := ⟨Nat.le_refl _, fun _ m h => ⟨m, h, rfl, rfl, fun _ => rfl⟩, fun i m h1 h2 => by have := lt_get h2; simp only [sayR] at this; omega, by simp [sayR], fun h => by simp only [sayR, Bool.and_eq_true] at h; exact h.1⟩
theorem InvR.upd {us : List Un} {w : Wd} (h : InvR us w) {i : Nat} {f : Rm → Rm} (h1 : ∀ m, (f m).name = m.name) (h2 : ∀ m ∈ w.mods, (f m).nms.Nodup) (h3 : ∀ m ∈ w.mods, ∀ x ∈ (f m).nms, x ∈ namesA us) (h4 : ∀ m ∈ w.mods, (f m).vals.length = (f m).nms.length) : InvR us (updW w i f) := by
  refine ⟨h.okl, fun m hm => ?_, fun m hm => ?_, fun m hm => ?_, fun m hm => ?_⟩ <;> obtain ⟨m0, q1, rfl | rfl⟩ := updR_mem hm
  · rw [h1]; exact h.nm m0 q1
  · exact h.nm _ q1
  · exact h2 m0 q1
  · exact h.nd _ q1
  · exact h3 m0 q1
  · exact h.sub _ q1
  · exact h4 m0 q1
  · exact h.len _ q1
theorem six_none {n : ByteArray} {l : List ByteArray} (h : ¬ 0 ≤ six n l 0) : n ∉ l := fun hm => by
  rcases six_cases n l 0 with ⟨_, h2⟩ | ⟨i, _, h2, _⟩
  · exact h2 n hm rfl
  · rw [h2] at h; omega
theorem InvR.set {us : List Un} {w : Wd} (h : InvR us w) (i : Nat) {n : ByteArray} (v : Int) (hn : n ∈ namesA us) : InvR us (setW w i n v) := by
  refine h.upd (fun m => setRm_nm m n v) (fun m hm => ?_) (fun m hm => ?_) fun m hm => ?_
  · unfold setRm; split
    · exact h.nd m hm
    · rename_i h0
      have := six_none h0
      refine List.nodup_append.2 ⟨h.nd m hm, by simp, fun a ha b hb he => ?_⟩
      simp at hb; subst hb; subst he; exact this ha
  · unfold setRm; split
    · exact h.sub m hm
    · intro x hx
      rcases List.mem_append.1 hx with hx | hx
      · exact h.sub m hm x hx
      · simp at hx; subst hx; exact hn
  · have := h.len m hm
    unfold setRm; split <;> simp [this]
theorem takeDrop_sub {α : Type} (l : List α) (k : Nat) : (l.take k ++ l.drop (k + 1)).Sublist l := by
  have h1 : (l.drop (k + 1)).Sublist (l.drop k) := by
    rw [← List.drop_drop]; exact List.drop_sublist _ _
  have := (List.Sublist.refl (l.take k)).append h1
  rwa [List.take_append_drop] at this
theorem InvR.drop {us : List Un} {w : Wd} (h : InvR us w) (i k : Nat) : InvR us (dropW w i k) :=
  h.upd (fun _ => rfl) (fun m hm => (takeDrop_sub _ _).nodup (h.nd m hm)) (fun m hm x hx => h.sub m hm x ((takeDrop_sub _ _).subset hx)) fun m hm => by
    have := h.len m hm
    simp [dropRm, this]
theorem InvR.kill {us : List Un} {w : Wd} (h : InvR us w) (i : Nat) : InvR us (killW w i) := h.upd (fun _ => rfl) (fun m hm => h.nd m hm) (fun m hm => h.sub m hm) fun m hm => h.len m hm
theorem InvR.act {us : List Un} {w : Wd} (h : InvR us w) (i : Nat) (d : Int) : InvR us (actW w i d) := h.upd (fun _ => rfl) (fun m hm => h.nd m hm) (fun m hm => h.sub m hm) fun m hm => h.len m hm
theorem InvR.fail {us : List Un} {w : Wd} (h : InvR us w) : InvR us (failW w) := ⟨fun e => (by cases e), h.nm, h.nd, h.sub, h.len⟩
theorem InvR.say {us : List Un} {w : Wd} (h : InvR us w) (k : Int) (n : ByteArray) : InvR us (sayR w k n) := ⟨fun e => by
  simp only [sayR, Bool.and_eq_true, Bool.not_eq_true', decide_eq_false_iff_not] at e
  simp only [sayR, List.length_append, List.length_cons, List.length_nil]; omega, h.nm, h.nd, h.sub, h.len⟩
/-- What a part of the loading leaves: it keeps what it must; the number of events stays small; modules are fewer than events. -/
structure GoodR (us : List Un) (w w' : Wd) : Prop where
  inv : InvR us w'
  keep : KeepR w w'
  lb : w.ok = true → w'.log.length + w.log.length ≤ 10002
  m1 : M1 w'
theorem GoodR.trans {us : List Un} {a b c : Wd} (h : GoodR us a b) (k : b.ok = true → GoodR us b c) (e : b.ok = false → c = b) : GoodR us a c := by
  cases hb : b.ok
  · rw [e hb]; exact h
  · have k := k hb
    exact ⟨k.inv, h.keep.trans k.keep, fun _ => by have := k.lb hb; have := h.keep.log; omega, k.m1⟩
theorem GoodR.refl {us : List Un} {w : Wd} (h : InvR us w) (h1 : M1 w) : GoodR us w w := ⟨h, .refl w, fun ho => by have := h.okl ho; omega, h1⟩
theorem GoodR.set {us : List Un} {w : Wd} (h : InvR us w) (h1 : M1 w) (i : Nat) {n : ByteArray} (v : Int) (hn : n ∈ namesA us) : GoodR us w (setW w i n v) := ⟨h.set i v hn, .set w i n v, fun ho => by have := h.okl ho; simp only [setW, updW]; omega, by simp only [M1, setW, updW, updR_len]; exact h1⟩
theorem GoodR.drop {us : List Un} {w : Wd} (h : InvR us w) (h1 : M1 w) (i k : Nat) : GoodR us w (dropW w i k) := ⟨h.drop i k, .drop w i k, fun ho => by have := h.okl ho; simp only [dropW, updW]; omega, by simp only [M1, dropW, updW, updR_len]; exact h1⟩
theorem GoodR.fail {us : List Un} {w : Wd} (h : InvR us w) (h1 : M1 w) : GoodR us w (failW w) := ⟨h.fail, .fail w, fun ho => by have := h.okl ho; simp only [failW]; omega, h1⟩
theorem GoodR.say {us : List Un} {w : Wd} (h : InvR us w) (h1 : M1 w) (k : Int) (n : ByteArray) : GoodR us w (sayR w k n) := ⟨h.say k n, .say w k n, fun ho => by have := h.okl ho; simp only [sayR, List.length_append, List.length_cons, List.length_nil]; omega, by simp only [M1, sayR, List.length_append] at h1 ⊢; omega⟩
def RPR (us : List Un) (R : Wd → Nat → Wd) : Prop := ∀ w i, InvR us w → w.ok = true → w.mods.length ≤ w.log.length + 2 → i < w.mods.length → GoodR us w (R w i)
def SPR (us : List Un) (St : Wd → Nat → Stp → Wd) : Prop := ∀ w i t, InvR us w → w.ok = true → M1 w → i < w.mods.length → (∃ u ∈ us, t ∈ u.steps) → GoodR us w (St w i t)
theorem stepsR_fail {St : Wd → Nat → Stp → Wd} {i : Nat} {w : Wd} (h : w.ok = false) : ∀ l, stepsR St i w l = w
  | [] => rfl
  | t :: r => by rw [stepsR, if_neg (by rw [h]; simp)]
theorem stepsR_P {us : List Un} {St : Wd → Nat → Stp → Wd} (hS : SPR us St) (i : Nat) : ∀ (l : List Stp) (w : Wd), InvR us w → M1 w → i < w.mods.length → (∀ t ∈ l, ∃ u ∈ us, t ∈ u.steps) → GoodR us w (stepsR St i w l)
  | [], w, h, h1, _, _ => .refl h h1
  | t :: r, w, h, h1, hi, hl => by
    cases ho : w.ok
    · rw [stepsR_fail ho]; exact .refl h h1
    · rw [stepsR, if_pos ho]
      have g := hS w i t h ho h1 hi (hl t (by simp))
      exact g.trans (fun _ => stepsR_P hS i r _ g.inv g.m1 (Nat.lt_of_lt_of_le hi g.keep.len) fun t ht => hl t (by simp [ht])) fun hf => stepsR_fail hf r
theorem KeepR.run {w w1 : Wd} {i : Nat} (hi : i < w.mods.length) (k : KeepR (actW w i 1) w1) : KeepR w (actW w1 i (-1)) := by
  have hl : (actW w i 1).mods.length = w.mods.length := by simp [actW, updW, updR_len]
  refine ⟨by simp only [actW, updW, updR_len]; rw [← hl]; exact k.len, fun j m e => ?_, fun j m q1 q2 => ?_, k.log, k.ok⟩
  · have e1 : (actW w i 1).mods[j]? = some (if j = i then ⟨m.name, m.act + 1, m.gone, m.nms, m.vals⟩ else m) := by simp only [actW, updW, updR_get, e, Option.map_some]
    obtain ⟨m', r1, r2, r3, r4⟩ := k.get j _ e1
    refine ⟨if j = i then ⟨m'.name, m'.act + -1, m'.gone, m'.nms, m'.vals⟩ else m', by simp only [actW, updW, updR_get, r1, Option.map_some], ?_, ?_, fun ho => ?_⟩
    · split
      · rename_i h; rw [if_pos h] at r2; exact r2
      · rename_i h; rw [if_neg h] at r2; exact r2
    · split
      · rename_i h; rw [if_pos h] at r3; simp only at r3 ⊢; omega
      · rename_i h; rw [if_neg h] at r3; exact r3
    · have r5 := r4 ho
      split
      · rename_i h; rw [if_pos h] at r5; exact r5
      · rename_i h; rw [if_neg h] at r5; exact r5
  · simp only [actW, updW, updR_get] at q2
    cases e : w1.mods[j]? with
    | none => rw [e] at q2; cases q2
    | some m1 =>
      rw [e] at q2
      simp only [Option.map_some, Option.some.injEq] at q2
      have h0 := k.new j m1 (by rw [hl]; exact q1) e
      split at q2
      · rename_i hji
        subst hji
        omega
      · subst q2; exact h0
theorem runR_P {us : List Un} {St : Wd → Nat → Stp → Wd} (hS : SPR us St) : RPR us (runR St us) := fun w i h ho h2 hi => by
  have h1 : InvR us (beginR w i) := (h.say 1 _).act i 1
  have hi1 : i < (beginR w i).mods.length := by simpa [beginR, actW, updW, updR_len, sayR] using hi
  have hm1 : M1 (beginR w i) := by simp only [M1, beginR, actW, updW, updR_len, sayR, List.length_append, List.length_cons, List.length_nil]; omega
  have g := stepsR_P hS i (unitS us (nmR w i)) (beginR w i) h1 hm1 hi1 fun t ht => unitS_mem ht
  have hbl : (beginR w i).log.length = w.log.length + 1 := by simp [beginR, actW, updW, sayR]
  have hfl := fun hf => stepsR_fail (St := St) (i := i) (w := beginR w i) hf (unitS us (nmR w i))
  unfold runR
  generalize stepsR St i (beginR w i) (unitS us (nmR w i)) = p at g hfl ⊢
  have kb : KeepR w (sayR w 1 (nmR w i)) := .say w _ _
  have k1 : KeepR w (actW p i (-1)) := kb.trans (KeepR.run (i := i) (w := sayR w 1 (nmR w i)) (by simpa [sayR] using hi) g.keep)
  refine ⟨(g.inv.act i (-1)).say _ _, k1.trans (.say _ _ _), fun _ => ?_, ?_⟩
  · have hL := h.okl ho
    simp only [endR, sayR, actW, updW, List.length_append, List.length_cons, List.length_nil]
    cases hb : (beginR w i).ok
    · rw [hfl hb, hbl]; omega
    · have := g.lb hb
      rw [hbl] at this
      omega
  · have := g.m1
    simp only [M1, endR, sayR, actW, updW, updR_len, List.length_append, List.length_cons, List.length_nil] at this ⊢
    omega
end Go.Proofs.YtgloielnnakknaaDoor
namespace Go.Proofs.YtgloielnnakknaaDoor
open Go.RowKit
theorem mix_cases (n : ByteArray) : ∀ (l : List Rm) (k : Nat), (mix n l k = -1 ∧ ∀ (j : Nat) a, l[j]? = some a → ¬ (a.name = n ∧ a.gone = false)) ∨ ∃ (i : Nat) (a : Rm), l[i]? = some a ∧ a.name = n ∧ a.gone = false ∧ mix n l k = ((k + i : Nat) : Int) ∧ ∀ (j : Nat) b, j < i → l[j]? = some b → ¬ (b.name = n ∧ b.gone = false)
  | [], k => .inl ⟨rfl, fun j a h => by simp at h⟩
  | a :: r, k => by
    by_cases h : a.name = n ∧ a.gone = false
    · exact .inr ⟨0, a, by simp, h.1, h.2, by simp [mix, h], fun j b hj => by omega⟩
    · rcases mix_cases n r (k + 1) with ⟨h1, h2⟩ | ⟨i, b, h1, h2, h3, h4, h5⟩
      · refine .inl ⟨by rw [mix, if_neg h, h1], fun j x hx => ?_⟩
        cases j with
        | zero => simp at hx; subst hx; exact h
        | succ j => exact h2 j x (by simpa using hx)
      · refine .inr ⟨i + 1, b, by simpa using h1, h2, h3, by rw [mix, if_neg h, h4]; congr 1; omega, fun j x hj hx => ?_⟩
        cases j with
        | zero => simp at hx; subst hx; exact h
        | succ j => exact h5 j x (by omega) (by simpa using hx)
theorem modR_pos {w : Wd} {n : ByteArray} {i : Nat} {m : Rm} (h : w.mods[i]? = some m) (h1 : m.name = n) (h2 : m.gone = false) : 0 ≤ modR w n := by
  rcases mix_cases n w.mods 0 with ⟨_, q⟩ | ⟨j, a, _, _, _, q, _⟩
  · exact absurd ⟨h1, h2⟩ (q i m h)
  · rw [modR, q]; omega
theorem modR_get {w : Wd} {n : ByteArray} (h : 0 ≤ modR w n) : ∃ m, w.mods[(modR w n).toNat]? = some m ∧ m.name = n ∧ m.gone = false ∧ modR w n = ((modR w n).toNat : Int) := by
  rcases mix_cases n w.mods 0 with ⟨q, _⟩ | ⟨j, a, q1, q2, q3, q4, _⟩
  · rw [modR, q] at h; omega
  · have e : modR w n = (j : Int) := by rw [modR, q4, Nat.zero_add]
    rw [e, Int.toNat_natCast]
    exact ⟨a, q1, q2, q3, rfl⟩
theorem KeepR.modR {w w' : Wd} (k : KeepR w w') {n : ByteArray} (h : 0 ≤ modR w n) (ho : w'.ok = true) : 0 ≤ modR w' n := by
  obtain ⟨m, h1, h2, h3, _⟩ := modR_get h
  obtain ⟨m', q1, q2, _, q4⟩ := k.get _ m h1
  exact modR_pos q1 (q2.trans h2) ((q4 ho).trans h3)
theorem InvR.push {us : List Un} {w : Wd} (h : InvR us w) {n : ByteArray} (hn : hasU us n = true) : InvR us (pushW w n) := by
  refine ⟨h.okl, fun m hm => ?_, fun m hm => ?_, fun m hm => ?_, fun m hm => ?_⟩ <;> rcases List.mem_append.1 hm with hm | hm <;> first | (simp only [List.mem_singleton] at hm; subst hm) | skip
  · exact h.nm m hm
  · exact hn
  · exact h.nd m hm
  · simp
  · exact h.sub m hm
  · simp
  · exact h.len m hm
  · rfl
theorem KeepR.push (w : Wd) (n : ByteArray) : KeepR w (pushW w n) := ⟨by simp [pushW], fun j m e => ⟨m, by simp only [pushW]; rw [List.getElem?_append_left (lt_get e)]; exact e, rfl, rfl, fun _ => rfl⟩, fun j m q1 q2 => by
  simp only [pushW] at q2
  rw [List.getElem?_append_right q1] at q2
  have := lt_get q2
  simp at this
  have : j - w.mods.length = 0 := by omega
  rw [this] at q2
  simp at q2
  subst q2; rfl, Nat.le_refl _, id⟩
structure Link (us : List Un) (w : Wd) (p : Option ByteArray) (n : ByteArray) : Prop where
  inv : InvR us (linkW w p n)
  keep : KeepR w (linkW w p n)
  ok : (linkW w p n).ok = w.ok
  len : (linkW w p n).mods.length = w.mods.length + 1
  log : (linkW w p n).log = w.log
  new : ∃ m, (linkW w p n).mods[w.mods.length]? = some m ∧ m.name = n ∧ m.gone = false ∧ m.act = 0
theorem push_new (w : Wd) (n : ByteArray) : (pushW w n).mods[w.mods.length]? = some ⟨n, 0, false, [], []⟩ := by
  simp only [pushW]; rw [List.getElem?_append_right (Nat.le_refl _)]; simp
theorem link_R {us : List Un} {w : Wd} (h : InvR us w) {n : ByteArray} (hn : hasU us n = true) (p : Option ByteArray) : Link us w p n := by
  cases p with
  | none => exact ⟨h.push hn, .push w n, rfl, by simp [linkW, pushW], rfl, _, push_new w n, rfl, rfl, rfl⟩
  | some q =>
    refine ⟨(h.push hn).set _ _ (namesA_last hn), (KeepR.push w n).trans (.set _ _ _ _), rfl, by simp [linkW, setW, updW, updR_len, pushW], rfl, ?_⟩
    simp only [linkW, setW, updW, updR_get, push_new, Option.map_some]
    refine ⟨_, rfl, ?_⟩
    split
    · exact ⟨setRm_nm _ _ _, setRm_gone _ _ _, setRm_act _ _ _⟩
    · exact ⟨rfl, rfl, rfl⟩
theorem goneW_P {us : List Un} {w : Wd} (h : InvR us w) (ho : w.ok = false) (i : Nat) (p : Int) (n : ByteArray) : InvR us (goneW w i p n) ∧ KeepR w (goneW w i p n) ∧ (goneW w i p n).log = w.log ∧ (goneW w i p n).mods.length = w.mods.length ∧ (goneW w i p n).ok = false := by
  unfold goneW
  split
  · exact ⟨(h.kill i).drop _ _, (KeepR.kill w i ho).trans (.drop _ _ _), rfl, by simp [dropW, killW, updW, updR_len], ho⟩
  · exact ⟨h.kill i, .kill w i ho, rfl, by simp [killW, updW, updR_len], ho⟩
theorem makeR_P {us : List Un} {R : Wd → Nat → Wd} (hR : RPR us R) {w : Wd} (h : InvR us w) (ho : w.ok = true) (h1 : M1 w) {n : ByteArray} (hn : hasU us n = true) (p : Option ByteArray) : GoodR us w (makeR R w p n) ∧ ((makeR R w p n).ok = true → 0 ≤ modR (makeR R w p n) n) := by
  have k := link_R h hn p
  have hm : (linkW w p n).mods.length ≤ (linkW w p n).log.length + 2 := by rw [k.len, k.log]; have := h1; simp only [M1] at this; omega
  have g := hR (linkW w p n) w.mods.length k.inv (k.ok.trans ho) hm (by rw [k.len]; omega)
  unfold makeR
  generalize R (linkW w p n) w.mods.length = x at g ⊢
  have hlb := g.lb (k.ok.trans ho)
  rw [k.log] at hlb
  split
  · rename_i hx
    refine ⟨⟨g.inv, k.keep.trans g.keep, fun _ => hlb, g.m1⟩, fun _ => ?_⟩
    obtain ⟨m, q1, q2, q3, _⟩ := k.new
    obtain ⟨m', r1, r2, _, r4⟩ := g.keep.get _ m q1
    exact modR_pos r1 (r2.trans q2) ((r4 hx).trans q3)
  · rename_i hx
    have hx : x.ok = false := by simpa using hx
    obtain ⟨a1, a2, a3, a4, a5⟩ := goneW_P g.inv hx w.mods.length (parW w p n) (lastP n)
    refine ⟨⟨a1, (k.keep.trans g.keep).trans a2, fun _ => by rw [a3]; exact hlb, by have := g.m1; simp only [M1, a3, a4] at this ⊢; exact this⟩, fun e => ?_⟩
    rw [a5] at e; cases e
/-- The last name. -/
def lastO : Option ByteArray → List ByteArray → Option ByteArray
  | p, [] => p
  | _, n :: r => lastO (some n) r
theorem lastO_app (p : Option ByteArray) (x : ByteArray) : ∀ l, lastO p (l ++ [x]) = some x
  | [] => rfl
  | y :: r => by rw [List.cons_append, lastO]; exact lastO_app _ x r
theorem lastO_chain (s : ByteArray) : lastO none (chainM s) = some s := lastO_app _ _ _
theorem loadR_fail {R : Wd → Nat → Wd} {us : List Un} {w : Wd} (h : w.ok = false) : ∀ p l, loadR R us w p l = w
  | p, [] => by rw [loadR]
  | p, n :: r => by rw [loadR, if_neg (by rw [h]; simp)]
theorem loadR_P {us : List Un} {R : Wd → Nat → Wd} (hR : RPR us R) : ∀ (l : List ByteArray) (w : Wd) (p : Option ByteArray), InvR us w → M1 w → (∀ q, p = some q → w.ok = true → 0 ≤ modR w q) → GoodR us w (loadR R us w p l) ∧ ((loadR R us w p l).ok = true → ∀ q, lastO p l = some q → 0 ≤ modR (loadR R us w p l) q)
  | [], w, p, h, h1, hp => ⟨by rw [loadR]; exact .refl h h1, fun e q hq => by rw [loadR] at e ⊢; exact hp q hq e⟩
  | n :: r, w, p, h, h1, hp => by
    cases ho : w.ok
    · rw [loadR_fail ho]; exact ⟨.refl h h1, fun e => by rw [ho] at e; cases e⟩
    · have step : ∀ x, GoodR us w x → (x.ok = true → 0 ≤ modR x n) → GoodR us w (loadR R us x (some n) r) ∧ ((loadR R us x (some n) r).ok = true → ∀ q, lastO p (n :: r) = some q → 0 ≤ modR (loadR R us x (some n) r) q) := fun x g e => by
        have ih := loadR_P hR r x (some n) g.inv g.m1 fun q hq hx => by injection hq with hq; subst hq; exact e hx
        exact ⟨g.trans (fun _ => ih.1) fun hx => loadR_fail hx _ _, ih.2⟩
      rw [loadR, if_pos ho]
      split
      · rename_i hm
        exact step _ (.say h h1 _ _) fun hx => (KeepR.say w _ _).modR hm hx
      · split
        · rename_i hu
          obtain ⟨g, e⟩ := makeR_P hR h ho h1 hu p
          exact step _ g e
        · have g := (GoodR.say h h1 6 n).trans (fun hb => GoodR.fail (GoodR.say h h1 6 n).inv (GoodR.say h h1 6 n).m1) fun hb => by
            simp only [failW]; rw [← hb]
          exact ⟨g, fun e => by cases e⟩
theorem loadR_C {us : List Un} {R : Wd → Nat → Wd} (hR : RPR us R) {w : Wd} (h : InvR us w) (h1 : M1 w) (s : ByteArray) : GoodR us w (loadR R us w none (chainM s)) ∧ ((loadR R us w none (chainM s)).ok = true → 0 ≤ modR (loadR R us w none (chainM s)) s) := by
  obtain ⟨a, b⟩ := loadR_P hR (chainM s) w none h h1 fun q e => by cases e
  exact ⟨a, fun e => b e s (lastO_chain s)⟩
theorem partR_P {us : List Un} {R : Wd → Nat → Wd} (hR : RPR us R) {w : Wd} (h : InvR us w) (h1 : M1 w) {i : Nat} {t : Stp} (n2 : t.part ∈ namesA us) : GoodR us w (partR R us w i t) := by
  unfold partR
  split
  · exact .set h h1 _ _ n2
  · split
    · obtain ⟨g, e⟩ := loadR_C hR h h1 (wholeB t)
      generalize loadR R us w none (chainM (wholeB t)) = x at g e
      split
      · exact g.trans (fun _ => .set g.inv g.m1 _ _ n2) fun hx => by rename_i h9; rw [hx] at h9; cases h9
      · exact g
    · exact .fail h h1
theorem stepR_P {us : List Un} {R : Wd → Nat → Wd} (hR : RPR us R) : SPR us (stepR R us) := fun w i t h ho h1 hi ⟨u, hu, htu⟩ => by
  obtain ⟨n1, n2, n3⟩ := namesA_step hu htu
  unfold stepR
  split
  · exact .set h h1 _ _ n1
  split
  · split
    · exact .drop h h1 _ _
    · exact .fail h h1
  split
  · split
    · rename_i hm
      obtain ⟨m, q, _⟩ := modR_get hm
      exact hR w _ h ho (by have := h1; simp only [M1] at this; omega) (lt_get q)
    · exact .fail h h1
  obtain ⟨g, e⟩ := loadR_C hR h h1 t.name
  generalize loadR R us w none (chainM t.name) = x at g e
  split
  · rename_i hx
    have nh : x.ok = false → ∀ y : Wd, y = x := fun h9 => by rw [hx] at h9; cases h9
    split
    · exact g.trans (fun _ => .set g.inv g.m1 _ _ n3) fun h9 => nh h9 _
    · exact g.trans (fun _ => partR_P hR g.inv g.m1 n2) fun h9 => nh h9 _
  · exact g
theorem runMR_P (us : List Un) : ∀ n, RPR us (runMR us n)
  | 0 => runR_P fun w i t h _ h1 _ _ => .fail h h1
  | n + 1 => runR_P (stepR_P (runMR_P us n))
end Go.Proofs.YtgloielnnakknaaDoor
namespace Go.Proofs.YtgloielnnakknaaDoor
open Go.RowKit
/-- Where a unit stands, or -1. -/
def uix (n : ByteArray) : List Un → Nat → Int
  | [], _ => -1
  | u :: r, k => if u.name = n then (k : Int) else uix n r (k + 1)
theorem uix_cases (n : ByteArray) : ∀ (us : List Un) (k : Nat), (uix n us k = -1 ∧ hasU us n = false) ∨ ∃ (i : Nat) (u : Un), us[i]? = some u ∧ uix n us k = ((k + i : Nat) : Int) ∧ hasU us n = true ∧ unitS us n = u.steps
  | [], k => .inl ⟨rfl, rfl⟩
  | u :: r, k => by
    by_cases h : u.name = n
    · exact .inr ⟨0, u, by simp, by simp [uix, h], by simp [hasU, h], by simp [unitS, h]⟩
    · have h' : ¬ n = u.name := fun e => h e.symm
      rcases uix_cases n r (k + 1) with ⟨h1, h2⟩ | ⟨i, v, h1, h2, h3, h4⟩
      · exact .inl ⟨by rw [uix, if_neg h, h1], by rw [hasU, if_neg h', h2]⟩
      · exact .inr ⟨i + 1, v, by simpa using h1, by rw [uix, if_neg h, h2]; congr 1; omega, by rw [hasU, if_neg h', h3], by rw [unitS, if_neg h', h4]⟩
theorem unitAt_V (us : List Un) (n : ByteArray) (hl : us.length ≤ 1000000) (r : List (List V)) (e : r = us.map Un.row) : CallsA Tryd.prog 28 [.d (.u (.sl 2 r)), dsr n] [] (Is (di (uix n us 0))) := by
  subst e
  refine callsA_of_vc (T := tt) Tryd.func28 rfl rfl rfl rfl rfl ?_
  repeat' ((conv => whnf); first | refine Gs.id ?_ | fail)
  all_goals (conv => whnf)
  refine ⟨⟨Nat, fun k => k ≤ us.length ∧ uix n (us.drop k) k = uix n us 0, fun k => us.length - k, fun k => ⟨[(0, .d (.u (uns us))), (1, dsr n), (5, di k)], []⟩, 0, ⟨by omega, rfl⟩, ⟨[], ⟨by (try dsimp only); (repeat (refine LeT.cons rfl (by first | exact LeS.d (by first | exact LeD.u rfl | fail) | fail) ?_)); exact LeT.nil, by (try dsimp only); repeat (first | exact LeO.nil | fail)⟩⟩, fun k hk => ?_⟩⟩
  obtain ⟨hk1, hk2⟩ := hk
  by_cases h9 : k < us.length
  · obtain ⟨⟨u1, u2⟩, ha⟩ : ∃ a, us[k]? = some a := ⟨_, List.getElem?_eq_getElem h9⟩
    rw [drop_get ha, uix] at hk2
    dsimp only at hk2
    by_cases hb : u1 = n
    · have he : (u1.toList == n.toList) = true := by rw [toList_beq]; simp [hb]
      rw [if_pos hb] at hk2
      rw [← hk2]
      repeat' ((conv => whnf); first | refine Ix_get ha ?_ | refine Gs.id ?_ | refine Brn.T (by (try simp only [smT]); first | rfl | assumption | omega | fail) ?_ | (refine Bnd.mk (fun hm => ?_); (try simp only [smT] at hm)) | fail)
      all_goals (conv => whnf)
      all_goals exact Ret.is rfl
    · have he : (u1.toList == n.toList) = false := by rw [toList_beq]; simp [hb]
      rw [if_neg hb] at hk2
      repeat' ((conv => whnf); first | refine Ix_get ha ?_ | refine Gs.id ?_ | refine Brn.T (by (try simp only [smT]); first | rfl | omega | fail) ?_ | refine Brn.F (by (try simp only [smT]); first | rfl | assumption | fail) ?_ | (refine Bnd.mk (fun hm => ?_); (try simp only [smT] at hm)) | refine Rng.mk (by (try simp only [smT]); omega) ?_ | fail)
      all_goals (conv => whnf)
      all_goals exact ⟨k + 1, ⟨by omega, hk2⟩, (by dsimp only; omega), [], ⟨by (try dsimp only); (repeat (refine LeT.cons rfl (by first | exact LeS.d (by first | exact LeD.u rfl | fail) | fail) ?_)); exact LeT.nil, by (try dsimp only); repeat (first | exact LeO.nil | fail)⟩⟩
  · obtain rfl : k = us.length := by omega
    rw [List.drop_length] at hk2
    rw [← hk2]
    repeat' ((conv => whnf); first | refine Gs.id ?_ | refine Brn.F (by (try simp only [smT]); first | rfl | omega | fail) ?_ | (refine Bnd.mk (fun hm => ?_); (try simp only [smT] at hm)) | fail)
    all_goals (conv => whnf)
    all_goals exact Ret.is rfl
theorem say_R' (us : List Un) (ms : List Rm) (log : List Ev) (ok ok' : Bool) (k : Int) (n : ByteArray) (hl : log.length ≤ 1000000) (nn : Nat) (e0 : nn = ms.length) (r1 : List (List E)) (e1 : r1 = ms.map Rm.row) (ho : (ok && !decide (5000 < log.length + 1)) = ok') : CallsA Tryd.prog 42 [.a [.u (uns us), .ow 900 nn, .ow 901 log.length, .u (.bool ok)], di k, dsr n] [(900, .fa 69 5 r1), (901, .ar 43 2 (log.map Ev.v))] (Iso (wdA us ⟨ms, log ++ [⟨k, n⟩], ok'⟩) (wdO ⟨ms, log ++ [⟨k, n⟩], ok'⟩)) := by
  subst e0 e1 ho
  exact say_R us ⟨ms, log, ok⟩ k n hl
def SteCR (us : List Un) (St : Wd → Nat → Stp → Wd) (n : Nat) : Prop := ∀ (ms : List Rm) (log : List Ev) (i : Nat) (t : Stp) (zm : List Rm) (zl : List Ev) (zk : Bool), InvR us ⟨ms, log, true⟩ → M1 ⟨ms, log, true⟩ → RunBR ⟨ms, log, true⟩ n → i < ms.length → (∃ u ∈ us, t ∈ u.steps) → 5001 - log.length ≤ n → St ⟨ms, log, true⟩ i t = ⟨zm, zl, zk⟩ → CallsA Tryd.prog 43 [wdA us ⟨ms, log, true⟩, di i, .a [.u (.int .i64 t.kind), .u (.str t.name), .u (.str t.part)]] (wdO ⟨ms, log, true⟩) (Iso (wdA us ⟨zm, zl, zk⟩) (wdO ⟨zm, zl, zk⟩))
def RunCR (us : List Un) (R : Wd → Nat → Wd) (n : Nat) : Prop := ∀ (ms : List Rm) (log : List Ev) (i : Nat) (zm : List Rm) (zl : List Ev) (zk : Bool), InvR us ⟨ms, log, true⟩ → ms.length ≤ log.length + 2 → RunBR ⟨ms, log, true⟩ n → i < ms.length → 5001 - log.length ≤ n → R ⟨ms, log, true⟩ i = ⟨zm, zl, zk⟩ → CallsA Tryd.prog 31 [wdA us ⟨ms, log, true⟩, di i] (wdO ⟨ms, log, true⟩) (Iso (wdA us ⟨zm, zl, zk⟩) (wdO ⟨zm, zl, zk⟩))
theorem stepsR_next {St : Wd → Nat → Stp → Wd} {i : Nat} {w : Wd} {l : List Stp} {q : Nat} (h : q < l.length) : stepsR St i w (l.drop q) = if w.ok = true then stepsR St i (St w i l[q]) (l.drop (q + 1)) else w := by
  rw [List.drop_eq_getElem_cons h, stepsR]
theorem endR_eq {m3 : List Rm} {l3 : List Ev} {ok : Bool} {i : Nat} {m : Rm} (h : m3[i]? = some m) : endR ⟨m3, l3, ok⟩ i = ⟨m3.set i ⟨m.name, m.act - 1, m.gone, m.nms, m.vals⟩, l3 ++ [⟨if ok = true then 2 else 3, m.name⟩], ok && !decide (5000 < l3.length + 1)⟩ := by
  simp only [endR, nmR, h, actW, updW, updR_at h, sayR]
  rfl
end Go.Proofs.YtgloielnnakknaaDoor
namespace Go.Proofs.YtgloielnnakknaaDoor
open Go.RowKit
set_option maxHeartbeats 4000000 in
theorem run_R {us : List Un} (hU : Uok us) {St : Wd → Nat → Stp → Wd} (hP : SPR us St) (n : Nat) (hn : n ≤ 6000) (hC : SteCR us St n) : RunCR us (runR St us) (n + 1) := by
  intro ms log i zm zl zk hI h2 hB hi hL hr
  obtain ⟨⟨a1, a2, a3, a4, a5⟩, hmd⟩ : ∃ m, ms[i]? = some m := ⟨_, List.getElem?_eq_getElem hi⟩
  have hmem := List.mem_of_getElem? hmd
  have hlog := hI.okl rfl
  have hact := hB _ hmem
  have hhas := hI.nm _ hmem
  dsimp only at hlog hact hhas
  have hul : us.length ≤ 1000000 := by have := hU.len; omega
  have hnm : nmR ⟨ms, log, true⟩ i = a1 := by simp [nmR, hmd]
  have hbeg : beginR ⟨ms, log, true⟩ i = ⟨ms.set i ⟨a1, a2 + 1, a3, a4, a5⟩, log ++ [⟨1, a1⟩], true && !decide (5000 < log.length + 1)⟩ := by
    simp only [beginR, hnm, sayR, actW, updW, updR_at hmd]
  rw [runR, hnm, hbeg] at hr
  have hI1 : InvR us ⟨ms.set i ⟨a1, a2 + 1, a3, a4, a5⟩, log ++ [⟨1, a1⟩], true && !decide (5000 < log.length + 1)⟩ := by rw [← hbeg]; exact (hI.say 1 _).act i 1
  have hll : (log ++ [⟨1, a1⟩] : List Ev).length = log.length + 1 := by simp
  have hM1 : M1 ⟨ms.set i ⟨a1, a2 + 1, a3, a4, a5⟩, log ++ [⟨1, a1⟩], true && !decide (5000 < log.length + 1)⟩ := by
    simp only [M1, List.length_set, hll]; omega
  have hB1 : RunBR ⟨ms.set i ⟨a1, a2 + 1, a3, a4, a5⟩, log ++ [⟨1, a1⟩], true && !decide (5000 < log.length + 1)⟩ n := by
    intro m hm'
    rcases List.mem_or_eq_of_mem_set hm' with h | rfl
    · have := hB m h; omega
    · dsimp only; omega
  have hi1 : i < (ms.set i ⟨a1, a2 + 1, a3, a4, a5⟩).length := by simpa using hi
  have hk1 : (ms.set i ⟨a1, a2 + 1, a3, a4, a5⟩)[i]? = some ⟨a1, a2 + 1, a3, a4, a5⟩ := set_gt hmd
  have hmr : (ms.map Rm.row)[i]? = some (Rm.row ⟨a1, a2, a3, a4, a5⟩) := by simp [hmd]
  have hsay := say_R us ⟨ms, log, true⟩ 1 a1 (by dsimp only; omega)
  simp only [sayR] at hsay
  have hls : ∀ t ∈ unitS us a1, ∃ u ∈ us, t ∈ u.steps := fun t ht => unitS_mem ht
  have hlen : (unitS us a1).length ≤ 30 := by
    obtain ⟨k, u, q1, _, _, q4⟩ := (uix_cases a1 us 0).resolve_left fun h => by rw [hhas] at h; exact absurd h.2 (by simp)
    rw [q4]; exact hU.steps u (List.mem_of_getElem? q1)
  have hua := unitAt_V us a1 hul
  obtain ⟨ku, ⟨un, ust⟩, hu1, hu2, _, hu4⟩ := (uix_cases a1 us 0).resolve_left fun h => by rw [hhas] at h; exact absurd h.2 (by simp)
  rw [hu2, Nat.zero_add] at hua
  dsimp only at hu4
  rw [hu4] at hr hls hlen
  generalize hok1 : (true && !decide (5000 < log.length + 1)) = ok1 at *
  generalize hlg : (log ++ [⟨1, a1⟩] : List Ev) = log1 at *
  have hsv : (ms.set i ⟨a1, a2 + 1, a3, a4, a5⟩).map Rm.row = (ms.map Rm.row).set i [.v (.str a1), .v (.int .i64 (a2 + 1)), .v (.bool a3), .os 9 1 (a4.map sv1), .os 3 1 (a5.map iv1)] := by simp [List.map_set, Rm.row]
  have hml : (ms.set i ⟨a1, a2 + 1, a3, a4, a5⟩).length = ms.length := by simp
  refine callsA_of_vcO (T := tt) Tryd.func31 rfl rfl rfl rfl rfl ?_
  repeat' ((conv => whnf); first | refine Rw_rm hmd ?_ | refine Ix_get hu1 ?_ | refine Gs.id ?_ | refine Rng.mk (by (try simp only [smT]); omega) ?_ | refine Ixo.mk ⟨_, rfl, (by (try simp only [smT]); omega), ?_⟩ | refine Rw.self (by (try simp only [smT]); omega) ?_ | refine Raw.faStoreV (T := tt) rfl rfl rfl rfl rfl rfl (by first | assumption | fail) rfl (by first | exact .inl ⟨_, rfl⟩ | exact .inr rfl) ?_ | refine Drw.of (T := tt) (i := 1) [7, 8] [] [(0, true), (1, true), (2, true), (3, true), (4, true), (5, true), (6, true), (7, false), (8, false)] (by kernel_rfl) ?_ | refine Drw.of (T := tt) (i := 2) [12] [] [(0, true), (1, true), (2, true), (3, true), (4, true), (5, true), (6, true), (7, true), (8, true), (9, true), (10, true), (11, true), (12, false)] (by kernel_rfl) ?_ | refine Drw.of (T := tt) (i := 3) [] [] [(0, true), (1, true), (2, true), (3, true), (4, true), (5, true), (6, true), (7, true), (8, true), (9, true), (10, false), (11, true), (12, true), (13, true), (14, true)] (by kernel_rfl) ?_ | (refine CL.mk (Or.inl ?_); (conv => whnf); refine Cl.is (hua _ rfl) rfl (by first | exact fun _ => rfl | fail) ?_) | (refine CL.mk (Or.inr (Raw.callI [900,901] [900,901] rfl rfl rfl rfl rfl rfl rfl (hsay) ?_)); rintro _ _ ⟨rfl, rfl⟩; refine Bk.mk rfl rfl ?_))
  all_goals (conv => whnf)
  refine ⟨⟨Wd × Nat, fun x => x.2 ≤ ust.length ∧ stepsR St i ⟨ms.set i ⟨a1, a2 + 1, a3, a4, a5⟩, log1, ok1⟩ ust = stepsR St i x.1 (ust.drop x.2) ∧ x.1.log.length ≤ 20000 ∧ GoodR us ⟨ms.set i ⟨a1, a2 + 1, a3, a4, a5⟩, log1, ok1⟩ x.1, fun x => ust.length - x.2, fun x => ⟨[(1, di i), (2, .d (.p 2 0)), (4, .d (.p 4 0)), (5, .d (.u (.sl 3 (ust.map Stp.row)))), (6, di x.2)], [(4, wdNl), (2, .bx 39 [.u (uns us), .ow 900 x.1.mods.length, .ow 901 x.1.log.length, .u (.bool x.1.ok)]), (900, .fa 69 5 (x.1.mods.map Rm.row)), (901, .ar 43 2 (x.1.log.map Ev.v))]⟩, (⟨ms.set i ⟨a1, a2 + 1, a3, a4, a5⟩, log1, ok1⟩, 0), ⟨Nat.zero_le _, rfl, by dsimp only; omega, .refl hI1 hM1⟩, ⟨[(2, .k 2), (4, .k 4), (900, .k 900), (901, .k 901)], ⟨by (try dsimp only); (repeat (refine LeT.cons rfl (by first | exact LeS.d (by first | exact LeD.u rfl | exact LeD.p rfl | fail) | fail) ?_)); exact LeT.nil, by (try dsimp only); repeat (first | exact LeO.nil | refine LeO.bx rfl rfl (by repeat (first | exact LeL.nil | refine LeL.cons (by first | exact LeD.u rfl | exact LeD.ow rfl rfl | exact LeD.ow rfl (by simp [hsv, hml, Rm.row]) | fail) ?_)) ?_ | refine LeO.ar rfl rfl (by first | rfl | fail) ?_ | refine LeO.fa rfl rfl (by first | simp [hsv, hml, Rm.row]) ?_ | fail)⟩⟩, fun x hx => ?_⟩⟩
  obtain ⟨⟨m3, l3, o3⟩, q⟩ := x
  obtain ⟨hq, he, hl3, hG⟩ := hx
  dsimp only at hq he hl3 hG ⊢
  have hget : ∀ w, KeepR ⟨ms.set i ⟨a1, a2 + 1, a3, a4, a5⟩, log1, ok1⟩ w → ∃ b3 b4 b5, w.mods[i]? = some ⟨a1, a2 + 1, b3, b4, b5⟩ := fun w k => by
    obtain ⟨⟨c1, c2, c3, c4, c5⟩, q1, q2, q3, _⟩ := k.get i _ hk1
    dsimp only at q2 q3
    subst q2 q3
    exact ⟨c3, c4, c5, q1⟩
  have hB3 : RunBR ⟨m3, l3, o3⟩ n := hG.keep.runB hB1 (by omega)
  have hL3 : log1.length ≤ l3.length := hG.keep.log
  have hi3 : i < m3.length := Nat.lt_of_lt_of_le hi1 hG.keep.len
  obtain ⟨b3, b4, b5, hm3⟩ := hget _ hG.keep
  dsimp only at hm3
  clear hsay hsv hua hmr
  by_cases h9 : q < ust.length ∧ o3 = true
  · obtain ⟨h9, rfl⟩ := h9
    rw [stepsR_next h9, if_pos rfl] at he
    obtain ⟨⟨tk, tn, tp⟩, htq⟩ : ∃ t, ust[q] = t := ⟨_, rfl⟩
    have hget? : ust[q]? = some ⟨tk, tn, tp⟩ := by rw [List.getElem?_eq_getElem h9, htq]
    have htm := hls _ (List.getElem_mem h9)
    rw [htq] at he htm
    have hgo := hP ⟨m3, l3, true⟩ i ⟨tk, tn, tp⟩ hG.inv rfl hG.m1 hi3 htm
    generalize hz : St ⟨m3, l3, true⟩ i ⟨tk, tn, tp⟩ = z at he hgo
    obtain ⟨ym, yl, yk⟩ := z
    have hcon := hC m3 l3 i ⟨tk, tn, tp⟩ ym yl yk hG.inv hG.m1 hB3 hi3 htm (by omega) hz
    dsimp only at hcon
    repeat' ((conv => whnf); first | refine Ix_get hget? ?_ | refine Gs.id ?_ | with_reducible refine Brn.T rfl ?_ | refine Brn.T (by (try simp only [smT]); first | rfl | omega | fail) ?_ | (refine Bnd.mk (fun hm => ?_); (try simp only [smT] at hm)) | refine Rng.mk (by (try simp only [smT]); omega) ?_ | refine Drw.of (T := tt) (i := 7) [6, 7] [] [(0, true), (1, true), (2, true), (3, true), (4, true), (5, true), (6, false), (7, false)] (by kernel_rfl) ?_ | (refine CL.mk (Or.inr (Raw.callI [900,901] [900,901] rfl rfl rfl rfl rfl rfl rfl (hcon) ?_)); rintro _ _ ⟨rfl, rfl⟩; refine Bk.mk rfl rfl ?_))
    all_goals (conv => whnf)
    all_goals exact ⟨(⟨ym, yl, yk⟩, q + 1), ⟨by dsimp only; omega, he, by have := hgo.lb rfl; dsimp only at this ⊢; omega, hG.trans (fun _ => hgo) fun h => by cases h⟩, by dsimp only; omega, [(2, .k 2), (4, .k 4), (900, .k 900), (901, .k 901)], ⟨by (try dsimp only); (repeat (refine LeT.cons rfl (by first | exact LeS.d (by first | exact LeD.u rfl | exact LeD.p rfl | fail) | fail) ?_)); exact LeT.nil, by (try dsimp only); repeat (first | exact LeO.nil | refine LeO.bx rfl rfl (by repeat (first | exact LeL.nil | refine LeL.cons (by first | exact LeD.u rfl | exact LeD.ow rfl rfl | fail) ?_)) ?_ | refine LeO.ar rfl rfl (by first | rfl | fail) ?_ | refine LeO.fa rfl rfl (by first | rfl | fail) ?_ | fail)⟩⟩
  · have hst : stepsR St i ⟨m3, l3, o3⟩ (ust.drop q) = ⟨m3, l3, o3⟩ := by
      cases o3
      · exact stepsR_fail rfl _
      · have : q = ust.length := by have : ¬ q < ust.length := fun h => h9 ⟨h, rfl⟩; omega
        subst this
        rw [List.drop_length, stepsR]
    rw [he, hst, endR_eq hm3] at hr
    injection hr with r1 r2 r3
    subst r1 r2 r3
    dsimp only
    have hmr3 : (m3.map Rm.row)[i]? = some (Rm.row ⟨a1, a2 + 1, b3, b4, b5⟩) := by simp [hm3]
    have hr1 : (m3.set i ⟨a1, a2 + 1 - 1, b3, b4, b5⟩).map Rm.row = (m3.map Rm.row).set i [.v (.str a1), .v (.int .i64 (a2 + 1 - 1)), .v (.bool b3), .os 9 1 (b4.map sv1), .os 3 1 (b5.map iv1)] := by simp [List.map_set, Rm.row]
    have hsay := fun k => say_R' us (m3.set i ⟨a1, a2 + 1 - 1, b3, b4, b5⟩) l3 o3 _ k a1 (by omega) m3.length (by simp) ((m3.map Rm.row).set i [.v (.str a1), .v (.int .i64 (a2 + 1 - 1)), .v (.bool b3), .os 9 1 (b4.map sv1), .os 3 1 (b5.map iv1)]) hr1.symm rfl
    cases o3
    · repeat' ((conv => whnf); first | refine Rw_rm hm3 ?_ | refine Gs.id ?_ | with_reducible refine Brn.F rfl ?_ | refine Brn.T (by (try simp only [smT]); first | rfl | assumption | fail) ?_ | refine Brn.F (by (try simp only [smT]); first | rfl | assumption | fail) ?_ | (refine Brn.mk (fun hb => ?_) (fun hb => ?_) <;> (try simp only [smT] at hb) <;> (try (exact absurd trivial hb)) <;> (try (exfalso; omega))) | (refine Bnd.mk (fun hm => ?_); (try simp only [smT] at hm)) | refine Rng.mk (by (try simp only [smT]); omega) ?_ | refine Ixo.mk ⟨_, rfl, (by (try simp only [smT]); omega), ?_⟩ | refine Rw.self (by (try simp only [smT]); omega) ?_ | refine Raw.faStoreV (T := tt) rfl rfl rfl rfl rfl rfl (by first | assumption | fail) rfl (by first | exact .inl ⟨_, rfl⟩ | exact .inr rfl) ?_ | refine Drw.of (T := tt) (i := 8) [12] [] [(0, true), (1, true), (2, true), (3, true), (4, true), (5, true), (6, true), (7, true), (8, true), (9, true), (10, true), (11, true), (12, false)] (by kernel_rfl) ?_ | refine Drw.of (T := tt) (i := 11) [7, 8] [] [(0, true), (1, true), (2, true), (3, true), (4, true), (5, true), (6, true), (7, false), (8, false)] (by kernel_rfl) ?_ | (refine CL.mk (Or.inr (Raw.callI [900,901] [900,901] rfl rfl rfl rfl rfl rfl rfl (hsay 3) ?_)); rintro _ _ ⟨rfl, rfl⟩; refine Bk.mk rfl rfl ?_))
      all_goals (conv => whnf)
      all_goals refine RetO.mk ⟨[(900, .k 900), (901, .k 901)], _, _, (by first | exact LeS.a (by repeat (first | exact LeL.nil | refine LeL.cons (by first | exact LeD.u rfl | exact LeD.ow rfl rfl | fail) ?_)) | fail), (by repeat (first | exact LeO.nil | refine LeO.ar rfl rfl (by first | rfl | fail) ?_ | refine LeO.fa rfl rfl (by first | rfl | fail) ?_ | fail)), rfl, rfl⟩
    · obtain rfl : q = ust.length := by have : ¬ q < ust.length := fun h => h9 ⟨h, rfl⟩; omega
      repeat' ((conv => whnf); first | refine Rw_rm hm3 ?_ | refine Gs.id ?_ | with_reducible refine Brn.T rfl ?_ | with_reducible refine Brn.F rfl ?_ | refine Brn.F (by (try simp only [smT]); first | rfl | omega | fail) ?_ | (refine Bnd.mk (fun hm => ?_); (try simp only [smT] at hm)) | refine Rng.mk (by (try simp only [smT]); omega) ?_ | refine Ixo.mk ⟨_, rfl, (by (try simp only [smT]); omega), ?_⟩ | refine Rw.self (by (try simp only [smT]); omega) ?_ | refine Raw.faStoreV (T := tt) rfl rfl rfl rfl rfl rfl (by first | assumption | fail) rfl (by first | exact .inl ⟨_, rfl⟩ | exact .inr rfl) ?_ | refine Drw.of (T := tt) (i := 8) [12] [] [(0, true), (1, true), (2, true), (3, true), (4, true), (5, true), (6, true), (7, true), (8, true), (9, true), (10, true), (11, true), (12, false)] (by kernel_rfl) ?_ | refine Drw.of (T := tt) (i := 10) [7, 8] [] [(0, true), (1, true), (2, true), (3, true), (4, true), (5, true), (6, true), (7, false), (8, false)] (by kernel_rfl) ?_ | (refine CL.mk (Or.inr (Raw.callI [900,901] [900,901] rfl rfl rfl rfl rfl rfl rfl (hsay 2) ?_)); rintro _ _ ⟨rfl, rfl⟩; refine Bk.mk rfl rfl ?_) | fail)
      all_goals (conv => whnf)
      all_goals refine RetO.mk ⟨[(900, .k 900), (901, .k 901)], _, _, (by first | exact LeS.a (by repeat (first | exact LeL.nil | refine LeL.cons (by first | exact LeD.u rfl | exact LeD.ow rfl rfl | fail) ?_)) | fail), (by repeat (first | exact LeO.nil | refine LeO.ar rfl rfl (by first | rfl | fail) ?_ | refine LeO.fa rfl rfl (by first | rfl | fail) ?_ | fail)), rfl, rfl⟩
end Go.Proofs.YtgloielnnakknaaDoor
namespace Go.Proofs.YtgloielnnakknaaDoor
open Go.RowKit
theorem uents_no (n : ByteArray) (z : List V) : ∀ us : List Un, hasU us n = false → mgetT (uents us) [.str n] z = z
  | [], _ => rfl
  | u :: r, h => by
    simp only [uents, List.map_cons, mgetT, eqC_sd, hasU] at *
    by_cases h' : n = u.name
    · rw [if_pos h'] at h; cases h
    · rw [if_neg h'] at h
      simp only [h', decide_false, cond_false]
      exact uents_no n z r h
def LoaC (us : List Un) (R : Ld → Nat → Ld × Bool) (n : Nat) : Prop := ∀ (mods : List Md) (table : List Nat) (log : List Ev) (full : Bool) (name : ByteArray) (zm : List Md) (zt : List Nat) (zl : List Ev) (zf zk : Bool), Inv us ⟨mods, table, log, full⟩ → RunB ⟨mods, table, log, full⟩ n → left ⟨mods, table, log, full⟩ ≤ n → name.size ≤ 1000 → loadW R us ⟨mods, table, log, full⟩ (chainM name) = (⟨zm, zt, zl, zf⟩, zk) → CallsA Tryd.prog 63 [ldP, dsr name] (ldOb us mods table log full) (Iso (db zk) (ldOb us zm zt zl zf))
theorem loadW_next {R : Ld → Nat → Ld × Bool} {us : List Un} {s : Ld} {l : List ByteArray} {q : Nat} {x : ByteArray} (h : l[q]? = some x) : loadW R us s (l.drop q) = match findS s x with
    | some j => loadW R us (noteS s (if 0 < runOf s j then 5 else 4) x) (l.drop (q + 1))
    | none => if hasU us x = true then (if (makeW R s x).2 = true then loadW R us (makeW R s x).1 (l.drop (q + 1)) else ((makeW R s x).1, false)) else (noteS s 6 x, false) := by
  have hq := lt_get h
  have e : l[q] = x := (List.getElem?_eq_some_iff.1 h).2
  rw [List.drop_eq_getElem_cons hq, loadW, e]
  try (cases findS s x <;> rfl)
set_option maxHeartbeats 4000000 in
theorem load_C {us : List Un} (hU : Uok us) {R : Ld → Nat → Ld × Bool} (hP : RP us R) (n : Nat) (hn : n ≤ 6000) (hM : MakC us R n) : LoaC us R n := by
  intro mods table log full name rm rt rl rf rk hI hB hL hsz hr
  have hch := chain_T name (by omega)
  have hchn := chn_chain name
  have hxs := chain_size name
  have hcl := chain_len name
  generalize hl : chainM name = l at *
  refine callsA_of_vcO (T := tt) Tryd.func63 rfl rfl rfl rfl rfl ?_
  repeat' ((conv => whnf); first | refine Gs.id ?_ | (refine Bnd.mk (fun hm => ?_); (try simp only [smT] at hm)) | (refine CL.mk (Or.inl ?_); (conv => whnf); refine Cl.is (hch) rfl (by first | (intro e; cases e; done) | fail) ?_) | fail)
  all_goals (conv => whnf)
  refine ⟨⟨Ld × Nat, fun x => x.2 ≤ l.length ∧ loadW R us ⟨mods, table, log, full⟩ l = loadW R us x.1 (l.drop x.2) ∧ Inv us x.1 ∧ Keep ⟨mods, table, log, full⟩ x.1 ∧ (∀ p, x.2 = p + 1 → ∀ y, l[p]? = some y → ∃ j, findS x.1 y = some j), fun x => l.length - x.2, fun x => ⟨[(0, ldP), (4, db false), (12, .d (.u (strs' l))), (13, di l.length), (14, di x.2)], ldOb us x.1.mods x.1.table x.1.log x.1.full⟩, (⟨mods, table, log, full⟩, 0), ⟨Nat.zero_le _, rfl, hI, .refl _, fun p e => by cases e⟩, ⟨[(1, .k 1), (2, .k 2)], ⟨by (try dsimp only); (repeat (refine LeT.cons rfl (by first | exact LeS.d (by first | exact LeD.u rfl | exact LeD.u (by simp; done) | fail) | fail) ?_)); exact LeT.nil, by (try dsimp only); repeat (first | exact LeO.nil | refine LeO.fm rfl (by first | rfl | fail) ?_ | fail)⟩⟩, fun x hx => ?_⟩⟩
  obtain ⟨⟨m3, t3, l3, f3⟩, q⟩ := x
  obtain ⟨hq, he, hI3, hK3, hpv⟩ := hx
  dsimp only at hq he hI3 hK3 hpv ⊢
  rw [hr] at he
  have htl := hI3.tlen hU
  have hl5 := hI3.log
  have hB3 := hK3.runB hB (by omega)
  have hL3 := Nat.le_trans hK3.lf hL
  dsimp only at htl hl5
  by_cases h9 : q < l.length
  · obtain ⟨x, hx⟩ : ∃ x, l[q]? = some x := ⟨_, List.getElem?_eq_getElem h9⟩
    rw [loadW_next hx] at he
    have hrow : ∀ {K : List V → Prop}, K [V.str x] → Ix (strs l) (q : Int) K := fun k => Ix.map rfl h9 (by rw [(List.getElem?_eq_some_iff.1 hx).2]; exact k)
    have hxz := hxs x (List.mem_of_getElem? hx)
    have hfind := lfind_T us m3 t3 l3 f3 x (by omega) hI3.tab
    have hdot := hchn q x hx
    have hff : findS ⟨m3, t3, l3, f3⟩ x = tfind m3 x t3 := rfl
    have hget := (uents_get x [.str ⟨#[]⟩, .nl] us).1
    have hno := uents_no x [.str ⟨#[]⟩, .nl] us
    have hhs := (uents_get x [.str ⟨#[]⟩, .nl] us).2
    have huok := uents_ok us
    rcases hf : tfind m3 x t3 with _ | j
    · rw [hf] at hfind hff
      rw [hff] at he
      simp only at he
      cases hh : hasU us x
      · rw [hh] at he hhs
        rw [if_neg (by simp)] at he
        have hno := hno hh
        have hnz := note_T us m3 t3 l3 f3 6 x hl5
        injection he with p1 p2
        injection p1 with p3 p4 p5 p6
        subst p2 p3 p4 p5 p6
        repeat' ((conv => whnf); first | refine hrow ?_ | refine Mlk.of _ _ (by kernel_rfl) huok hno hhs ?_ | refine Gs.id ?_ | with_reducible refine Brn.T rfl ?_ | with_reducible refine Brn.F rfl ?_ | refine Brn.T (by (try simp only [smT]); first | rfl | omega | fail) ?_ | refine Rw.lit rfl ?_ | (refine CL.mk (Or.inr (Raw.callI [1,2] [1,2] rfl rfl rfl rfl rfl rfl rfl (hfind) ?_)); rintro _ _ ⟨rfl, rfl⟩; refine Bk.mk rfl rfl ?_) | (refine CL.mk (Or.inr (Raw.callI [1,2] [1,2] rfl rfl rfl rfl rfl rfl rfl (hnz) ?_)); rintro _ _ ⟨rfl, rfl⟩; refine Bk.mk rfl rfl ?_))
        all_goals (conv => whnf)
        all_goals exact RetO.mk ⟨[], _, _, (by first | exact LeS.d (by first | exact LeD.u rfl | fail) | fail), LeO.fm rfl rfl (LeO.fm rfl rfl .nil), rfl, rfl⟩
      · rw [hh] at hhs
        rw [hh, if_pos rfl] at he
        have hget := hget hh
        have hgo := makeW_P hP hI3 hh hff
        have hpar : 0 ≤ dotAt x → ∃ p, parS ⟨m3, t3, l3, f3⟩ x = some p := fun hd => by
          rcases hdot with ⟨h1, _⟩ | ⟨_, p, h2, h3⟩
          · omega
          · obtain ⟨j, hj⟩ := hpv p h2 _ h3
            exact ⟨j, par_push hI3 hd hj⟩
        generalize hz : makeW R ⟨m3, t3, l3, f3⟩ x = z at he hgo
        obtain ⟨⟨zm, zt, zl, zf⟩, zk⟩ := z
        have hmk := hM _ _ _ _ _ zm zt zl zf zk hI3 hB3 hL3 hh hff hpar hz
        obtain ⟨hg3, hfz⟩ := hgo
        dsimp only at hfz he
        cases zk
        · rw [if_neg (by simp)] at he
          injection he with p1 p2
          injection p1 with p3 p4 p5 p6
          subst p2 p3 p4 p5 p6
          repeat' ((conv => whnf); first | refine hrow ?_ | refine Mlk.of _ _ (by kernel_rfl) huok hget hhs ?_ | refine Gs.id ?_ | with_reducible refine Brn.T rfl ?_ | with_reducible refine Brn.F rfl ?_ | refine Brn.T (by (try simp only [smT]); first | rfl | omega | fail) ?_ | refine Rw.lit rfl ?_ | (refine CL.mk (Or.inr (Raw.callI [1,2] [1,2] rfl rfl rfl rfl rfl rfl rfl (hfind) ?_)); rintro _ _ ⟨rfl, rfl⟩; refine Bk.mk rfl rfl ?_) | (refine CL.mk (Or.inr (Raw.callI [1,2] [1,2] rfl rfl rfl rfl rfl rfl rfl (hmk) ?_)); rintro _ _ ⟨rfl, rfl⟩; refine Bk.mk rfl rfl ?_))
          all_goals (conv => whnf)
          all_goals exact RetO.mk ⟨[], _, _, (by first | exact LeS.d (by first | exact LeD.u rfl | fail) | fail), LeO.fm rfl rfl (LeO.fm rfl rfl .nil), rfl, rfl⟩
        · rw [if_pos rfl] at he
          repeat' ((conv => whnf); first | refine hrow ?_ | refine Mlk.of _ _ (by kernel_rfl) huok hget hhs ?_ | refine Gs.id ?_ | with_reducible refine Brn.F rfl ?_ | refine Brn.T (by (try simp only [smT]); first | rfl | omega | fail) ?_ | refine Rng.mk (by (try simp only [smT]); omega) ?_ | refine Rw.lit rfl ?_ | (refine CL.mk (Or.inr (Raw.callI [1,2] [1,2] rfl rfl rfl rfl rfl rfl rfl (hfind) ?_)); rintro _ _ ⟨rfl, rfl⟩; refine Bk.mk rfl rfl ?_) | (refine CL.mk (Or.inr (Raw.callI [1,2] [1,2] rfl rfl rfl rfl rfl rfl rfl (hmk) ?_)); rintro _ _ ⟨rfl, rfl⟩; refine Bk.mk rfl rfl ?_))
          all_goals (conv => whnf)
          all_goals exact ⟨(⟨zm, zt, zl, zf⟩, q + 1), ⟨by dsimp only; omega, by rw [hr]; exact he, hg3.inv, hK3.trans hg3.keep, fun p e y hy => by
            obtain rfl : q = p := by dsimp only at e; omega
            rw [hx] at hy; injection hy with hy; subst hy; exact hfz rfl⟩, by dsimp only; omega, [(1, .k 1), (2, .k 2)], ⟨by (try dsimp only); (repeat (refine LeT.cons rfl (by first | exact LeS.d (by first | exact LeD.u rfl | fail) | fail) ?_)); exact LeT.nil, by (try dsimp only); repeat (first | exact LeO.nil | refine LeO.fm rfl (by first | rfl | fail) ?_ | fail)⟩⟩
    · rw [hf] at hfind hff
      rw [hff] at he
      simp only at he
      have hjl := hI3.find j hff
      dsimp only at hjl
      obtain ⟨⟨jn, jr, ja⟩, hjm⟩ : ∃ m, m3[j]? = some m := ⟨_, List.getElem?_eq_getElem hjl⟩
      have hro : runOf ⟨m3, t3, l3, f3⟩ j = jr := by simp [runOf, hjm]
      rw [hro] at he
      have hfz : ∀ k : Int, ∃ j, findS (noteS ⟨m3, t3, l3, f3⟩ k x) x = some j := fun k => ⟨j, hff⟩
      by_cases hrun : 0 < jr
      · rw [if_pos hrun] at he
        have hnz := note_T us m3 t3 l3 f3 5 x hl5
        repeat' ((conv => whnf); first | refine hrow ?_ | refine Rw_md hjm ?_ | refine Gs.id ?_ | with_reducible refine Brn.T rfl ?_ | refine Brn.T (by (try simp only [smT]); first | rfl | assumption | omega | fail) ?_ | refine Rng.mk (by (try simp only [smT]); omega) ?_ | (refine CL.mk (Or.inr (Raw.callI [1,2] [1,2] rfl rfl rfl rfl rfl rfl rfl (hfind) ?_)); rintro _ _ ⟨rfl, rfl⟩; refine Bk.mk rfl rfl ?_) | (refine CL.mk (Or.inr (Raw.callI [1,2] [1,2] rfl rfl rfl rfl rfl rfl rfl (hnz) ?_)); rintro _ _ ⟨rfl, rfl⟩; refine Bk.mk rfl rfl ?_))
        all_goals (conv => whnf)
        all_goals exact ⟨(noteS ⟨m3, t3, l3, f3⟩ 5 x, q + 1), ⟨by dsimp only; omega, by rw [hr]; exact he, hI3.note _ _, hK3.trans (.note _ _ _ hl5), fun p e y hy => by
          obtain rfl : q = p := by dsimp only at e; omega
          rw [hx] at hy; injection hy with hy; subst hy; exact hfz _⟩, by dsimp only; omega, [(1, .k 1), (2, .k 2)], ⟨by (try dsimp only); (repeat (refine LeT.cons rfl (by first | exact LeS.d (by first | exact LeD.u rfl | fail) | fail) ?_)); exact LeT.nil, by (try dsimp only); repeat (first | exact LeO.nil | refine LeO.fm rfl (by first | rfl | fail) ?_ | fail)⟩⟩
      · rw [if_neg hrun] at he
        have hnz := note_T us m3 t3 l3 f3 4 x hl5
        repeat' ((conv => whnf); first | refine hrow ?_ | refine Rw_md hjm ?_ | refine Gs.id ?_ | with_reducible refine Brn.T rfl ?_ | refine Brn.T (by (try simp only [smT]); first | rfl | omega | fail) ?_ | refine Brn.F (by (try simp only [smT]); first | rfl | omega | fail) ?_ | refine Rng.mk (by (try simp only [smT]); omega) ?_ | (refine CL.mk (Or.inr (Raw.callI [1,2] [1,2] rfl rfl rfl rfl rfl rfl rfl (hfind) ?_)); rintro _ _ ⟨rfl, rfl⟩; refine Bk.mk rfl rfl ?_) | (refine CL.mk (Or.inr (Raw.callI [1,2] [1,2] rfl rfl rfl rfl rfl rfl rfl (hnz) ?_)); rintro _ _ ⟨rfl, rfl⟩; refine Bk.mk rfl rfl ?_))
        all_goals (conv => whnf)
        all_goals exact ⟨(noteS ⟨m3, t3, l3, f3⟩ 4 x, q + 1), ⟨by dsimp only; omega, by rw [hr]; exact he, hI3.note _ _, hK3.trans (.note _ _ _ hl5), fun p e y hy => by
          obtain rfl : q = p := by dsimp only at e; omega
          rw [hx] at hy; injection hy with hy; subst hy; exact hfz _⟩, by dsimp only; omega, [(1, .k 1), (2, .k 2)], ⟨by (try dsimp only); (repeat (refine LeT.cons rfl (by first | exact LeS.d (by first | exact LeD.u rfl | fail) | fail) ?_)); exact LeT.nil, by (try dsimp only); repeat (first | exact LeO.nil | refine LeO.fm rfl (by first | rfl | fail) ?_ | fail)⟩⟩
  · obtain rfl : q = l.length := by omega
    rw [List.drop_length, loadW] at he
    injection he with p1 p2
    injection p1 with p3 p4 p5 p6
    subst p2 p3 p4 p5 p6
    repeat' ((conv => whnf); first | refine Gs.id ?_ | refine Brn.F (by (try simp only [smT]); first | rfl | omega | fail) ?_ | fail)
    all_goals (conv => whnf)
    all_goals exact RetO.mk ⟨[], _, _, (by first | exact LeS.d (by first | exact LeD.u rfl | fail) | fail), LeO.fm rfl rfl (LeO.fm rfl rfl .nil), rfl, rfl⟩
end Go.Proofs.YtgloielnnakknaaDoor
namespace Go.Proofs.YtgloielnnakknaaDoor
open Go.RowKit
set_option maxHeartbeats 4000000 in
theorem stepA_C {us : List Un} (hU : Uok us) {R : Ld → Nat → Ld × Bool} (n : Nat) (hC : RunC us R n) (mods : List Md) (table : List Nat) (log : List Ev) (full : Bool) (i : Nat) (tk : Int) (tn tp : ByteArray) (rm : List Md) (rt : List Nat) (rl : List Ev) (rf rk : Bool) (hI : Inv us ⟨mods, table, log, full⟩) (hB : RunB ⟨mods, table, log, full⟩ n) (hi : i < mods.length) (hL : left ⟨mods, table, log, full⟩ ≤ n) (hk : tk = 1 ∨ tk = 2 ∨ tk = 5)
    (hr : stepW R us ⟨mods, table, log, full⟩ i ⟨tk, tn, tp⟩ = (⟨rm, rt, rl, rf⟩, rk)) : CallsA Tryd.prog 49 [ldP, mdP i, .a [.u (.int .i64 tk), .u (.str tn), .u (.str tp)]] (ldOb us mods table log full) (Iso (db rk) (ldOb us rm rt rl rf)) := by
  obtain ⟨⟨mn, mr, ma⟩, hmd⟩ : ∃ m, mods[i]? = some m := ⟨_, List.getElem?_eq_getElem hi⟩
  have hal := hI.alen hU (List.mem_of_getElem? hmd)
  have htl := hI.tlen hU
  dsimp only at hal htl
  have hats : atsS ⟨mods, table, log, full⟩ i = ma := by simp [atsS, hmd]
  unfold stepW at hr
  dsimp only at hr
  rcases hk with rfl | rfl | rfl
  · rw [if_pos rfl] at hr
    simp only [setS, updS, upd_at hmd] at hr
    injection hr with p1 p2
    injection p1 with p3 p4 p5 p6
    subst p2 p3 p4 p5 p6
    have hset := mset_T us mods table log full i mn mr ma hmd (by omega) tn none
    refine callsA_of_vcO (T := tt) Tryd.func49 rfl rfl rfl rfl rfl ?_
    repeat' ((conv => whnf); first | refine Gs.id ?_ | with_reducible refine Brn.T rfl ?_ | (refine CL.mk (Or.inr (Raw.callI [1,2] [1,2] rfl rfl rfl rfl rfl rfl rfl (hset) ?_)); rintro _ _ ⟨rfl, rfl⟩; refine Bk.mk rfl rfl ?_))
    all_goals (conv => whnf)
    all_goals exact RetO.mk ⟨[], _, _, (by first | exact LeS.d (by first | exact LeD.u rfl | fail) | fail), LeO.fm rfl rfl (LeO.fm rfl rfl .nil), rfl, rfl⟩
  · rw [if_neg (by decide), if_pos rfl, hats] at hr
    have hf := mfind_T us mods table log full i mn mr ma hmd (by omega) tn
    rcases aix_cases tn ma 0 with ⟨h1, h2, _, _, _⟩ | ⟨kk, a, h1, h2, _, h4, h5, _⟩
    · rw [h2, if_neg (by simp)] at hr
      rw [h1] at hf
      injection hr with p1 p2
      injection p1 with p3 p4 p5 p6
      subst p2 p3 p4 p5 p6
      refine callsA_of_vcO (T := tt) Tryd.func49 rfl rfl rfl rfl rfl ?_
      repeat' ((conv => whnf); first | refine Gs.id ?_ | with_reducible refine Brn.T rfl ?_ | with_reducible refine Brn.F rfl ?_ | (refine CL.mk (Or.inr (Raw.callI [1,2] [1,2] rfl rfl rfl rfl rfl rfl rfl (hf) ?_)); rintro _ _ ⟨rfl, rfl⟩; refine Bk.mk rfl rfl ?_))
      all_goals (conv => whnf)
      all_goals exact RetO.mk ⟨[], _, _, (by first | exact LeS.d (by first | exact LeD.u rfl | fail) | fail), LeO.fm rfl rfl (LeO.fm rfl rfl .nil), rfl, rfl⟩
    · rw [h4] at hr
      simp only [Option.isSome_some, if_true, dropS, updS, upd_at hmd, h5] at hr
      rw [h2, Nat.zero_add] at hf
      have hdrop := mdrop_T us mods table log full i mn mr ma hmd (by omega) kk (lt_get h1)
      injection hr with p1 p2
      injection p1 with p3 p4 p5 p6
      subst p2 p3 p4 p5 p6
      refine callsA_of_vcO (T := tt) Tryd.func49 rfl rfl rfl rfl rfl ?_
      repeat' ((conv => whnf); first | refine Gs.id ?_ | with_reducible refine Brn.T rfl ?_ | with_reducible refine Brn.F rfl ?_ | (refine CL.mk (Or.inr (Raw.callI [1,2] [1,2] rfl rfl rfl rfl rfl rfl rfl (hf) ?_)); rintro _ _ ⟨rfl, rfl⟩; refine Bk.mk rfl rfl ?_) | (refine CL.mk (Or.inr (Raw.callI [1,2] [1,2] rfl rfl rfl rfl rfl rfl rfl (hdrop) ?_)); rintro _ _ ⟨rfl, rfl⟩; refine Bk.mk rfl rfl ?_))
      all_goals (conv => whnf)
      all_goals exact RetO.mk ⟨[], _, _, .d (LeD.u (by simp)), LeO.fm rfl rfl (LeO.fm rfl rfl .nil), rfl, rfl⟩
  · rw [if_neg (by decide), if_neg (by decide), if_pos rfl] at hr
    have hfind := lfind_T us mods table log full tn (by omega) hI.tab
    have hff : findS ⟨mods, table, log, full⟩ tn = tfind mods tn table := rfl
    rcases hf : tfind mods tn table with _ | j
    · rw [hf] at hfind hff
      rw [hff] at hr
      simp only at hr
      injection hr with p1 p2
      injection p1 with p3 p4 p5 p6
      subst p2 p3 p4 p5 p6
      refine callsA_of_vcO (T := tt) Tryd.func49 rfl rfl rfl rfl rfl ?_
      repeat' ((conv => whnf); first | refine Gs.id ?_ | with_reducible refine Brn.T rfl ?_ | with_reducible refine Brn.F rfl ?_ | (refine CL.mk (Or.inr (Raw.callI [1,2] [1,2] rfl rfl rfl rfl rfl rfl rfl (hfind) ?_)); rintro _ _ ⟨rfl, rfl⟩; refine Bk.mk rfl rfl ?_))
      all_goals (conv => whnf)
      all_goals exact RetO.mk ⟨[], _, _, (by first | exact LeS.d (by first | exact LeD.u rfl | fail) | fail), LeO.fm rfl rfl (LeO.fm rfl rfl .nil), rfl, rfl⟩
    · rw [hf] at hfind hff
      rw [hff] at hr
      simp only at hr
      have hrun := hC _ _ _ _ j rm rt rl rf rk _ _ hI hB (hI.find j hff) hL hr rfl rfl
      refine callsA_of_vcO (T := tt) Tryd.func49 rfl rfl rfl rfl rfl ?_
      repeat' ((conv => whnf); first | refine Gs.id ?_ | with_reducible refine Brn.T rfl ?_ | with_reducible refine Brn.F rfl ?_ | (refine CL.mk (Or.inr (Raw.callI [1,2] [1,2] rfl rfl rfl rfl rfl rfl rfl (hfind) ?_)); rintro _ _ ⟨rfl, rfl⟩; refine Bk.mk rfl rfl ?_) | (refine CL.mk (Or.inr (Raw.callI [1,2] [1,2] rfl rfl rfl rfl rfl rfl rfl (hrun) ?_)); rintro _ _ ⟨rfl, rfl⟩; refine Bk.mk rfl rfl ?_))
      all_goals (conv => whnf)
      all_goals exact RetO.mk ⟨[], _, _, (by first | exact LeS.d (by first | exact LeD.u rfl | fail) | fail), LeO.fm rfl rfl (LeO.fm rfl rfl .nil), rfl, rfl⟩
set_option maxHeartbeats 4000000 in
theorem stepB_C {us : List Un} (hU : Uok us) {R : Ld → Nat → Ld × Bool} (hP : RP us R) (n : Nat) (hn : n ≤ 6000) (hC : LoaC us R n) (mods : List Md) (table : List Nat) (log : List Ev) (full : Bool) (i : Nat) (tk : Int) (tn tp : ByteArray) (rm : List Md) (rt : List Nat) (rl : List Ev) (rf rk : Bool) (hI : Inv us ⟨mods, table, log, full⟩) (hB : RunB ⟨mods, table, log, full⟩ n) (hi : i < mods.length) (hL : left ⟨mods, table, log, full⟩ ≤ n) (hk1 : ¬ tk = 1) (hk2 : ¬ tk = 2) (hk5 : ¬ tk = 5) (ht : tn.size ≤ 60 ∧ tp.size ≤ 60)
    (hr : stepW R us ⟨mods, table, log, full⟩ i ⟨tk, tn, tp⟩ = (⟨rm, rt, rl, rf⟩, rk)) : CallsA Tryd.prog 49 [ldP, mdP i, .a [.u (.int .i64 tk), .u (.str tn), .u (.str tp)]] (ldOb us mods table log full) (Iso (db rk) (ldOb us rm rt rl rf)) := by
  obtain ⟨ht1, ht2⟩ := ht
  unfold stepW at hr
  dsimp only at hr
  rw [if_neg hk1, if_neg hk2, if_neg hk5] at hr
  have hgo := loadW_P hP (chainM tn) _ hI
  have hcut := cut_T tn (by omega)
  generalize hz : loadW R us ⟨mods, table, log, full⟩ (chainM tn) = z at hr hgo
  obtain ⟨⟨zm, zt, zl, zf⟩, zk⟩ := z
  have hload := hC _ _ _ _ _ zm zt zl zf zk hI hB hL (by omega) hz
  dsimp only at hr
  cases zk
  · rw [if_neg (by simp)] at hr
    injection hr with p1 p2
    injection p1 with p3 p4 p5 p6
    subst p2 p3 p4 p5 p6
    refine callsA_of_vcO (T := tt) Tryd.func49 rfl rfl rfl rfl rfl ?_
    repeat' ((conv => whnf); first | refine Gs.id ?_ | with_reducible refine Brn.T rfl ?_ | refine Brn.F (by (try simp only [smT]); first | rfl | assumption | fail) ?_ | (refine CL.mk (Or.inr (Raw.callI [1,2] [1,2] rfl rfl rfl rfl rfl rfl rfl (hload) ?_)); rintro _ _ ⟨rfl, rfl⟩; refine Bk.mk rfl rfl ?_))
    all_goals (conv => whnf)
    all_goals exact RetO.mk ⟨[], _, _, (by first | exact LeS.d (by first | exact LeD.u rfl | fail) | fail), LeO.fm rfl rfl (LeO.fm rfl rfl .nil), rfl, rfl⟩
  · rw [if_pos rfl] at hr
    have hI1 := hgo.inv
    have hiz : i < zm.length := Nat.lt_of_lt_of_le hi hgo.keep.len
    obtain ⟨⟨mn, mr, ma⟩, hmd⟩ : ∃ m, zm[i]? = some m := ⟨_, List.getElem?_eq_getElem hiz⟩
    have hal := hI1.alen hU (List.mem_of_getElem? hmd)
    have htl := hI1.tlen hU
    dsimp only at hal htl
    by_cases hk3 : tk = 3
    · subst hk3
      rw [if_pos rfl] at hr
      simp only [setS, updS, upd_at hmd, findS] at hr
      injection hr with p1 p2
      injection p1 with p3 p4 p5 p6
      have hfind := lfind_T us zm zt zl zf (cutM tn) (by omega) hI1.tab
      have hset := mset_T us zm zt zl zf i mn mr ma hmd (by omega) (cutM tn) (tfind zm (cutM tn) zt)
      subst p2 p3 p4 p5 p6
      refine callsA_of_vcO (T := tt) Tryd.func49 rfl rfl rfl rfl rfl ?_
      repeat' ((conv => whnf); first | refine Gs.id ?_ | with_reducible refine Brn.T rfl ?_ | with_reducible refine Brn.F rfl ?_ | (refine CL.mk (Or.inl ?_); (conv => whnf); refine Cl.is (hcut) rfl (by first | exact fun _ => rfl | fail) ?_) | (refine CL.mk (Or.inr (Raw.callI [1,2] [1,2] rfl rfl rfl rfl rfl rfl rfl (hload) ?_)); rintro _ _ ⟨rfl, rfl⟩; refine Bk.mk rfl rfl ?_) | (refine CL.mk (Or.inr (Raw.callI [1,2] [1,2] rfl rfl rfl rfl rfl rfl rfl (hfind) ?_)); rintro _ _ ⟨rfl, rfl⟩; refine Bk.mk rfl rfl ?_) | (refine CL.mk (Or.inr (Raw.callI [1,2] [1,2] rfl rfl rfl rfl rfl rfl rfl (hset) ?_)); rintro _ _ ⟨rfl, rfl⟩; refine Bk.mk rfl rfl ?_))
      all_goals (conv => whnf)
      all_goals exact RetO.mk ⟨[], _, _, (by first | exact LeS.d (by first | exact LeD.u rfl | fail) | fail), LeO.fm rfl rfl (LeO.fm rfl rfl .nil), rfl, rfl⟩
    · rw [if_neg hk3] at hr
      have hfrom := lfind_T us zm zt zl zf tn (by omega) hI1.tab
      have hff : findS ⟨zm, zt, zl, zf⟩ tn = tfind zm tn zt := rfl
      unfold partW at hr
      dsimp only at hr
      rcases hf : tfind zm tn zt with _ | j
      · rw [hf] at hfrom hff
        rw [hff] at hr
        simp only at hr
        injection hr with p1 p2
        injection p1 with p3 p4 p5 p6
        subst p2 p3 p4 p5 p6
        refine callsA_of_vcO (T := tt) Tryd.func49 rfl rfl rfl rfl rfl ?_
        repeat' ((conv => whnf); first | refine Gs.id ?_ | with_reducible refine Brn.T rfl ?_ | with_reducible refine Brn.F rfl ?_ | refine Brn.F (by (try simp only [smT]); first | rfl | assumption | fail) ?_ | (refine CL.mk (Or.inr (Raw.callI [1,2] [1,2] rfl rfl rfl rfl rfl rfl rfl (hload) ?_)); rintro _ _ ⟨rfl, rfl⟩; refine Bk.mk rfl rfl ?_) | (refine CL.mk (Or.inr (Raw.callI [1,2] [1,2] rfl rfl rfl rfl rfl rfl rfl (hfrom) ?_)); rintro _ _ ⟨rfl, rfl⟩; refine Bk.mk rfl rfl ?_))
        all_goals (conv => whnf)
        all_goals exact RetO.mk ⟨[], _, _, (by first | exact LeS.d (by first | exact LeD.u rfl | fail) | fail), LeO.fm rfl rfl (LeO.fm rfl rfl .nil), rfl, rfl⟩
      · rw [hf] at hfrom hff
        rw [hff] at hr
        simp only at hr
        have hjz := hI1.find j hff
        dsimp only at hjz
        obtain ⟨⟨jn, jr, ja⟩, hjm⟩ : ∃ m, zm[j]? = some m := ⟨_, List.getElem?_eq_getElem hjz⟩
        have hjl := hI1.alen hU (List.mem_of_getElem? hjm)
        dsimp only at hjl
        have hats : atsS ⟨zm, zt, zl, zf⟩ j = ja := by simp [atsS, hjm]
        rw [hats] at hr
        have hpf := mfind_T us zm zt zl zf j jn jr ja hjm (by omega) tp
        rcases aix_cases tp ja 0 with ⟨h1, h2, _, _, _⟩ | ⟨kk, a, h1, h2, _, h4, _, _⟩
        · rw [h2] at hr
          rw [h1] at hpf
          simp only at hr
          have hd1 : dot.size = 1 := rfl
          have hws : (wholeB ⟨tk, tn, tp⟩).size ≤ 121 := by simp only [wholeB, ByteArray.size_append, hd1]; omega
          have hwe : wholeB ⟨tk, tn, tp⟩ = tn ++ dot ++ tp := rfl
          have hget := (uents_get (tn ++ dot ++ tp) [.str ⟨#[]⟩, .nl] us).1
          have hno := uents_no (tn ++ dot ++ tp) [.str ⟨#[]⟩, .nl] us
          have hhs := (uents_get (tn ++ dot ++ tp) [.str ⟨#[]⟩, .nl] us).2
          have huok := uents_ok us
          rw [hwe] at hr hws
          have hcat : (tn ++ dot).size ≤ 61 := by simp only [ByteArray.size_append, hd1]; omega
          cases hh : hasU us (tn ++ dot ++ tp)
          · rw [hh] at hr hhs
            have hno := hno hh
            rw [if_neg (by simp)] at hr
            injection hr with p1 p2
            injection p1 with p3 p4 p5 p6
            subst p2 p3 p4 p5 p6
            refine callsA_of_vcO (T := tt) Tryd.func49 rfl rfl rfl rfl rfl ?_
            repeat' ((conv => whnf); first | refine Cat.mk (by have hd2 : (⟨#[46]⟩ : ByteArray).size = 1 := rfl; unfold maxLen; simp only [ByteArray.size_append, hd2]; omega) ?_ | refine Mlk.of _ _ (by kernel_rfl) huok hno hhs ?_ | refine Gs.id ?_ | with_reducible refine Brn.T rfl ?_ | with_reducible refine Brn.F rfl ?_ | refine Brn.F (by (try simp only [smT]); first | rfl | assumption | fail) ?_ | refine Rw.lit rfl ?_ | (refine CL.mk (Or.inr (Raw.callI [1,2] [1,2] rfl rfl rfl rfl rfl rfl rfl (hload) ?_)); rintro _ _ ⟨rfl, rfl⟩; refine Bk.mk rfl rfl ?_) | (refine CL.mk (Or.inr (Raw.callI [1,2] [1,2] rfl rfl rfl rfl rfl rfl rfl (hfrom) ?_)); rintro _ _ ⟨rfl, rfl⟩; refine Bk.mk rfl rfl ?_) | (refine CL.mk (Or.inr (Raw.callI [1,2] [1,2] rfl rfl rfl rfl rfl rfl rfl (hpf) ?_)); rintro _ _ ⟨rfl, rfl⟩; refine Bk.mk rfl rfl ?_))
            all_goals (conv => whnf)
            all_goals exact RetO.mk ⟨[], _, _, (by first | exact LeS.d (by first | exact LeD.u rfl | fail) | fail), LeO.fm rfl rfl (LeO.fm rfl rfl .nil), rfl, rfl⟩
          · rw [hh] at hhs
            have hget := hget hh
            rw [hh, if_pos rfl] at hr
            have hB1 := hgo.keep.runB hB (by omega)
            have hL1 := Nat.le_trans hgo.keep.lf hL
            have hg2 := loadW_P hP (chainM (tn ++ dot ++ tp)) _ hI1
            generalize hz2 : loadW R us ⟨zm, zt, zl, zf⟩ (chainM (tn ++ dot ++ tp)) = z2 at hr hg2
            obtain ⟨⟨ym, yt, yl, yf⟩, yk⟩ := z2
            have hload2 := hC _ _ _ _ _ ym yt yl yf yk hI1 hB1 hL1 (by omega) hz2
            dsimp only at hr
            cases yk
            · rw [if_neg (by simp)] at hr
              injection hr with p1 p2
              injection p1 with p3 p4 p5 p6
              subst p2 p3 p4 p5 p6
              refine callsA_of_vcO (T := tt) Tryd.func49 rfl rfl rfl rfl rfl ?_
              repeat' ((conv => whnf); first | refine Cat.mk (by have hd2 : (⟨#[46]⟩ : ByteArray).size = 1 := rfl; unfold maxLen; simp only [ByteArray.size_append, hd2]; omega) ?_ | refine Mlk.of _ _ (by kernel_rfl) huok hget hhs ?_ | refine Gs.id ?_ | with_reducible refine Brn.T rfl ?_ | with_reducible refine Brn.F rfl ?_ | refine Brn.F (by (try simp only [smT]); first | rfl | assumption | fail) ?_ | refine Rw.lit rfl ?_ | (refine CL.mk (Or.inr (Raw.callI [1,2] [1,2] rfl rfl rfl rfl rfl rfl rfl (hload) ?_)); rintro _ _ ⟨rfl, rfl⟩; refine Bk.mk rfl rfl ?_) | (refine CL.mk (Or.inr (Raw.callI [1,2] [1,2] rfl rfl rfl rfl rfl rfl rfl (hfrom) ?_)); rintro _ _ ⟨rfl, rfl⟩; refine Bk.mk rfl rfl ?_) | (refine CL.mk (Or.inr (Raw.callI [1,2] [1,2] rfl rfl rfl rfl rfl rfl rfl (hpf) ?_)); rintro _ _ ⟨rfl, rfl⟩; refine Bk.mk rfl rfl ?_) | (refine CL.mk (Or.inr (Raw.callI [1,2] [1,2] rfl rfl rfl rfl rfl rfl rfl (hload2) ?_)); rintro _ _ ⟨rfl, rfl⟩; refine Bk.mk rfl rfl ?_))
              all_goals (conv => whnf)
              all_goals exact RetO.mk ⟨[], _, _, (by first | exact LeS.d (by first | exact LeD.u rfl | fail) | fail), LeO.fm rfl rfl (LeO.fm rfl rfl .nil), rfl, rfl⟩
            · rw [if_pos rfl] at hr
              have hiy : i < ym.length := Nat.lt_of_lt_of_le hiz hg2.keep.len
              obtain ⟨⟨mn2, mr2, ma2⟩, hmd2⟩ : ∃ m, ym[i]? = some m := ⟨_, List.getElem?_eq_getElem hiy⟩
              have hal2 := hg2.inv.alen hU (List.mem_of_getElem? hmd2)
              have htl2 := hg2.inv.tlen hU
              dsimp only at hal2 htl2
              simp only [setS, updS, upd_at hmd2, findS] at hr
              injection hr with p1 p2
              injection p1 with p3 p4 p5 p6
              have hfind2 := lfind_T us ym yt yl yf (tn ++ dot ++ tp) (by omega) hg2.inv.tab
              have hset2 := mset_T us ym yt yl yf i mn2 mr2 ma2 hmd2 (by omega) tp (tfind ym (tn ++ dot ++ tp) yt)
              subst p2 p3 p4 p5 p6
              refine callsA_of_vcO (T := tt) Tryd.func49 rfl rfl rfl rfl rfl ?_
              repeat' ((conv => whnf); first | refine Cat.mk (by have hd2 : (⟨#[46]⟩ : ByteArray).size = 1 := rfl; unfold maxLen; simp only [ByteArray.size_append, hd2]; omega) ?_ | refine Mlk.of _ _ (by kernel_rfl) huok hget hhs ?_ | refine Drw.ghost (i := 30) (Ghost.frzB 5 rfl rfl) ?_ | refine Gs.id ?_ | with_reducible refine Brn.F rfl ?_ | refine Brn.F (by (try simp only [smT]); first | rfl | assumption | fail) ?_ | refine Rw.lit rfl ?_ | refine Drw.ofP (T := tt) (i := 30) [5, 6] [0, 1, 2, 3, 4] [0, 1, 2, 3, 4] (OT.alt 5 (OT.alt 6 OT.nil OT.nil) OT.nil) (by kernel_rfl) ?_ | (refine CL.mk (Or.inr (Raw.callI [1,2] [1,2] rfl rfl rfl rfl rfl rfl rfl (hload) ?_)); rintro _ _ ⟨rfl, rfl⟩; refine Bk.mk rfl rfl ?_) | (refine CL.mk (Or.inr (Raw.callI [1,2] [1,2] rfl rfl rfl rfl rfl rfl rfl (hfrom) ?_)); rintro _ _ ⟨rfl, rfl⟩; refine Bk.mk rfl rfl ?_) | (refine CL.mk (Or.inr (Raw.callI [1,2] [1,2] rfl rfl rfl rfl rfl rfl rfl (hpf) ?_)); rintro _ _ ⟨rfl, rfl⟩; refine Bk.mk rfl rfl ?_) | (refine CL.mk (Or.inr (Raw.callI [1,2] [1,2] rfl rfl rfl rfl rfl rfl rfl (hload2) ?_)); rintro _ _ ⟨rfl, rfl⟩; refine Bk.mk rfl rfl ?_) | (refine CL.mk (Or.inr (Raw.callI [1,2] [1,2] rfl rfl rfl rfl rfl rfl rfl (hfind2) ?_)); rintro _ _ ⟨rfl, rfl⟩; refine Bk.mk rfl rfl ?_) | (refine CL.mk (Or.inr (Raw.callI [1,2] [1,2] rfl rfl rfl rfl rfl rfl rfl (hset2) ?_)); rintro _ _ ⟨rfl, rfl⟩; refine Bk.mk rfl rfl ?_))
              all_goals (conv => whnf)
              all_goals exact RetO.mk ⟨[], _, _, (by first | exact LeS.d (by first | exact LeD.u rfl | fail) | fail), LeO.fm rfl rfl (LeO.fm rfl rfl .nil), rfl, rfl⟩
        · obtain ⟨an, am⟩ := a
          dsimp only at h4
          rw [h4] at hr
          rw [h2, Nat.zero_add] at hpf
          have hkl := lt_get h1
          simp only [setS, updS, upd_at hmd] at hr
          injection hr with p1 p2
          injection p1 with p3 p4 p5 p6
          have hset := mset_T us zm zt zl zf i mn mr ma hmd (by omega) tp am
          subst p2 p3 p4 p5 p6
          refine callsA_of_vcO (T := tt) Tryd.func49 rfl rfl rfl rfl rfl ?_
          repeat' ((conv => whnf); first | refine Rw_md hjm ?_ | refine Rw_at h1 ?_ | refine Drw.ghost (i := 24) (Ghost.frzB 5 rfl rfl) ?_ | refine Gs.id ?_ | with_reducible refine Brn.T rfl ?_ | with_reducible refine Brn.F rfl ?_ | refine Brn.F (by (try simp only [smT]); first | rfl | assumption | fail) ?_ | refine Ixo.mk ⟨_, rfl, (by (try simp only [smT]); omega), ?_⟩ | refine Drw.ofP (T := tt) (i := 24) [6, 8, 9, 10, 11] [0, 1, 2, 3, 4, 5, 7] [0, 1, 2, 3, 4, 5, 7] (OT.alt 6 (OT.alt 8 (OT.alt 9 (OT.alt 10 (OT.alt 11 OT.nil OT.nil) OT.nil) OT.nil) OT.nil) OT.nil) (by kernel_rfl) ?_ | (refine CL.mk (Or.inr (Raw.callI [1,2] [1,2] rfl rfl rfl rfl rfl rfl rfl (hload) ?_)); rintro _ _ ⟨rfl, rfl⟩; refine Bk.mk rfl rfl ?_) | (refine CL.mk (Or.inr (Raw.callI [1,2] [1,2] rfl rfl rfl rfl rfl rfl rfl (hfrom) ?_)); rintro _ _ ⟨rfl, rfl⟩; refine Bk.mk rfl rfl ?_) | (refine CL.mk (Or.inr (Raw.callI [1,2] [1,2] rfl rfl rfl rfl rfl rfl rfl (hpf) ?_)); rintro _ _ ⟨rfl, rfl⟩; refine Bk.mk rfl rfl ?_) | (refine CL.mk (Or.inr (Raw.callI [1,2] [1,2] rfl rfl rfl rfl rfl rfl rfl (hset) ?_)); rintro _ _ ⟨rfl, rfl⟩; refine Bk.mk rfl rfl ?_))
          all_goals (conv => whnf)
          all_goals exact RetO.mk ⟨[], _, _, (by first | exact LeS.d (by first | exact LeD.u rfl | fail) | fail), LeO.fm rfl rfl (LeO.fm rfl rfl .nil), rfl, rfl⟩
end Go.Proofs.YtgloielnnakknaaDoor
namespace Go.Proofs.YtgloielnnakknaaDoor
open Go.RowKit
theorem step_C {us : List Un} (hU : Uok us) {R : Ld → Nat → Ld × Bool} (hP : RP us R) (n : Nat) (hn : n ≤ 6000) (hC : RunC us R n) : SteC us (stepW R us) n := by
  intro mods table log full i t zm zt zl zf zk hI hB hi ht hL hz
  obtain ⟨u, hu, htu⟩ := ht
  have hs := hU.step u hu t htu
  obtain ⟨tk, tn, tp⟩ := t
  by_cases hk : tk = 1 ∨ tk = 2 ∨ tk = 5
  · exact stepA_C hU n hC mods table log full i tk tn tp zm zt zl zf zk hI hB hi hL hk hz
  · exact stepB_C hU hP n hn (load_C hU hP n hn (make_C hU hP n hn hC)) mods table log full i tk tn tp zm zt zl zf zk hI hB hi hL (fun e => hk (.inl e)) (fun e => hk (.inr (.inl e))) (fun e => hk (.inr (.inr e))) hs hz
theorem runM_C {us : List Un} (hU : Uok us) : ∀ n, n ≤ 6000 → RunC us (runM us n) n
  | 0, hn => run_C hU (fun s i t h _ _ => ⟨h, .refl s, fun e => by cases e⟩) 0 0 hn hn (fun s h => by omega) (.inr rfl)
  | n + 1, hn => run_C hU (stepW_P (runM_P us n)) (n + 1) n hn (by omega) (fun _ _ => step_C hU (runM_P us n) n (by omega) (runM_C hU n (by omega))) (.inl rfl)
end Go.Proofs.YtgloielnnakknaaDoor
namespace Go.Proofs.YtgloielnnakknaaDoor
open Go.RowKit
theorem stepsM_zero : ∀ {l : List Stp} {c : Int}, stepsM c l = 0 → c = 0 ∧ ∀ s ∈ l, stepM s = 0
  | [], c, h => ⟨h, fun _ h => by cases h⟩
  | s :: r, c, h => by
    rw [stepsM] at h
    obtain ⟨h1, h2⟩ := stepsM_zero h
    by_cases hc : c = 0
    · rw [if_pos hc] at h1
      refine ⟨hc, fun x hx => ?_⟩
      rcases List.mem_cons.1 hx with rfl | hx
      · exact h1
      · exact h2 x hx
    · rw [if_neg hc] at h1; exact absurd h1 hc
theorem inL_sput (x n : ByteArray) (l : List ByteArray) : inL x (sput l n) = (decide (x = n) || inL x l) := by
  unfold sput
  split
  · rename_i h
    by_cases e : x = n
    · subst e; simp [h]
    · simp [e]
  · simp [inL, Bool.or_comm]
theorem validM_ok : ∀ {l : List Un} {i : Nat} {seen : List ByteArray}, (validM l i seen).1 = 0 → (∀ u ∈ l, dottedM u.name = true ∧ u.steps.length ≤ 30 ∧ ∀ t ∈ u.steps, stepM t = 0) ∧ (l.map Un.name).Nodup ∧ (∀ u ∈ l, inL u.name seen = false) ∧ (i = 0 → ∀ u, l[0]? = some u → u.name = mainB)
  | [], _, _, _ => ⟨fun _ h => (by cases h), by simp, fun _ h => (by cases h), fun _ _ h => (by cases h)⟩
  | u :: r, i, seen, h => by
    rw [validM] at h
    split at h
    · rename_i hne; exact absurd h hne
    · rename_i h0
      have h0 : unitM u i seen = 0 := by simpa using h0
      obtain ⟨h1, h2, h3, _⟩ := validM_ok h
      rw [unitM] at h0
      obtain ⟨g1, g2⟩ := stepsM_zero h0
      rw [unit0M] at g1
      split at g1
      · cases g1
      rename_i q1
      split at g1
      · cases g1
      rename_i q2
      split at g1
      · cases g1
      rename_i q3
      split at g1
      · cases g1
      rename_i q4
      have q1 : dottedM u.name = true := by simpa using q1
      have q2 : inL u.name seen = false := by simpa using q2
      refine ⟨fun v hv => ?_, ?_, fun v hv => ?_, fun hi v hv => ?_⟩
      · rcases List.mem_cons.1 hv with rfl | hv
        · exact ⟨q1, by omega, g2⟩
        · exact h1 v hv
      · simp only [List.map_cons, List.nodup_cons]
        refine ⟨fun hm => ?_, h2⟩
        obtain ⟨v, hv, e⟩ := List.mem_map.1 hm
        have := h3 v hv
        rw [inL_sput, e] at this
        simp at this
      · rcases List.mem_cons.1 hv with rfl | hv
        · exact q2
        · have := h3 v hv
          rw [inL_sput] at this
          simp only [Bool.or_eq_false_iff] at this
          exact this.2
      · simp at hv
        subst hv
        by_cases e : u.name = mainB
        · exact e
        · exact absurd ⟨hi, e⟩ q3
theorem nameB_size {s : ByteArray} (h : nameB s = true) : s.size ≤ 60 := by
  unfold nameB at h
  simp at h
  omega
theorem dottedM_size {s : ByteArray} (h : dottedM s = true) : s.size ≤ 60 := by
  unfold dottedM at h
  simp at h
  omega
theorem stepM_size {t : Stp} (h : stepM t = 0) : t.name.size ≤ 60 ∧ t.part.size ≤ 60 := by
  unfold stepM at h
  split at h
  · cases h
  split at h
  · cases h
  rename_i h1 h2
  split at h
  · cases h
  rename_i h3
  simp only [badNameM, simpleM] at h2
  have hp : t.part.size ≤ 60 := by
    by_cases h4 : t.kind = 4
    · have : nameB t.part = true := by
        cases hb : nameB t.part
        · exfalso; simp_all
        · rfl
      exact nameB_size this
    · have : t.part = emp := by
        by_cases e : t.part = emp
        · exact e
        · exact absurd ⟨h4, e⟩ h3
      rw [this]; decide
  refine ⟨?_, hp⟩
  cases hb : nameB t.name
  · have : dottedM t.name = true := by
      cases hd : dottedM t.name
      · exfalso; simp_all
      · rfl
    exact dottedM_size this
  · exact nameB_size hb
theorem valid_Uok {l : List Un} (h : (validateM l).1 = 0) : Uok l ∧ (l.map Un.name).Nodup ∧ 0 < l.length ∧ (∀ u, l[0]? = some u → u.name = mainB) ∧ (∀ u ∈ l, dottedM u.name = true ∧ u.steps.length ≤ 30 ∧ ∀ t ∈ u.steps, stepM t = 0) := by
  unfold validateM at h
  split at h
  · cases h
  split at h
  · cases h
  rename_i h1 h2
  obtain ⟨g1, g2, _, g4⟩ := validM_ok h
  exact ⟨⟨by omega, fun u hu => dottedM_size (g1 u hu).1, fun u hu => (g1 u hu).2.1, fun u hu t ht => stepM_size ((g1 u hu).2.2 t ht)⟩, g2, by omega, g4 rfl, g1⟩
theorem mput_new (n : ByteArray) (row : List V) : ∀ l : List Un, n ∉ l.map Un.name → mputT (uents l) [.str n] row = uents l ++ [([.str n], row)]
  | [], _ => rfl
  | u :: r, h => by
    have h1 : ¬ n = u.name := fun e => h (by simp [e])
    have h2 := mput_new n row r fun e => h (by simp at e ⊢; exact .inr e)
    simp only [uents, List.map_cons, mputT, eqC_sd, h1, decide_false, cond_false] at h2 ⊢
    rw [h2]; rfl
/-- Ahead of the run of main. -/
def initS : Ld := ⟨[⟨mainB, 0, []⟩], [0], [], false⟩
theorem hasU_of {l : List Un} {u : Un} (h : u ∈ l) : hasU l u.name = true := by
  induction l with
  | nil => cases h
  | cons a r ih =>
    rw [hasU]
    split
    · rfl
    · rename_i hne
      rcases List.mem_cons.1 h with rfl | h
      · exact absurd rfl hne
      · exact ih h
theorem init_inv {l : List Un} (h : (validateM l).1 = 0) : Inv l initS ∧ RunB initS 5001 ∧ left initS ≤ 5001 := by
  obtain ⟨_, _, h3, h4, _⟩ := valid_Uok h
  have h0 := h4 _ (List.getElem?_eq_getElem h3)
  have hm := hasU_of (List.getElem_mem h3)
  rw [h0] at hm
  refine ⟨⟨by simp [initS], by simp [initS], by simp [initS], fun m hm' => ?_, fun m hm' => ?_, fun m hm' => ?_, fun m hm' => ?_⟩, fun m hm' => ?_, by simp [left, initS]⟩
  all_goals
    simp [initS] at hm'
    subst hm'
  · exact hm
  · simp
  · intro a ha; cases ha
  · intro a ha; cases ha
  · simp
end Go.Proofs.YtgloielnnakknaaDoor
namespace Go.Proofs.YtgloielnnakknaaDoor
open Go.RowKit
abbrev noOb : List (Nat × Ob) := [(1, .fm 0 []), (2, .fm 82 [])]
def finS (l : List Un) : Ld := (runM l 5001 initS 0).1
theorem loaded_bad (l : List Un) (h : (validateM l).1 ≠ 0) : CallsA Tryd.prog 27 [.d (.u (uns l))] noOb (Iso (.t [.d (.u .pn), .a (fd (validateM l))]) noOb) := by
  have hv := validate_T l
  generalize validateM l = f at *
  obtain ⟨c, i⟩ := f
  dsimp only at h
  refine callsA_of_vcO (T := tt) Tryd.func27 rfl rfl rfl rfl rfl ?_
  repeat' ((conv => whnf); first | refine Gs.id ?_ | refine Brn.T (by (try simp only [smT]); first | rfl | assumption | fail) ?_ | refine Drw.of (T := tt) (i := 3) [2] [] [(0, true), (1, true), (2, false)] (by kernel_rfl) ?_ | (refine CL.mk (Or.inl ?_); (conv => whnf); refine Cl.is (hv) rfl (by first | exact fun _ => rfl | fail) ?_) | fail)
  all_goals (conv => whnf)
  all_goals exact RetO.mk ⟨[], _, _, (by exact LeS.ts (by repeat (first | exact LeCs.nil | refine LeCs.cons (by first | exact LeC.d (by first | exact LeD.u rfl | fail) | exact LeC.a (by repeat (first | exact LeL.nil | refine LeL.cons (by first | exact LeD.u rfl | fail) ?_))) ?_))), LeO.fm rfl rfl (LeO.fm rfl rfl .nil), rfl, rfl⟩
/-- The units that are in the map. -/
def uentsT (l : List Un) (i : Nat) : List (List V × List V) := uents (l.take i)
theorem uentsT_zero (l : List Un) : uentsT l 0 = [] := by simp [uentsT, uents]
theorem uentsT_all (l : List Un) : uentsT l l.length = uents l := by simp [uentsT]
theorem uentsT_ok (l : List Un) (i : Nat) : ∀ e ∈ uentsT l i, keyT .sr e.1 = true := uents_ok _
theorem uentsT_put {l : List Un} (hnd : (l.map Un.name).Nodup) {i : Nat} {n : ByteArray} {st : List Stp} (h : l[i]? = some ⟨n, st⟩) : mputT (uentsT l i) [.str n] [.str n, .sl 3 (st.map Stp.row)] = uentsT l (i + 1) := by
  have hi := lt_get h
  have e : l.take (i + 1) = l.take i ++ [⟨n, st⟩] := by rw [List.take_add_one, h]; rfl
  have hn : n ∉ (l.take i).map Un.name := fun hm => by
    have h2 : ((l.take (i + 1)).map Un.name).Nodup := hnd.sublist ((List.take_sublist _ _).map _)
    rw [e, List.map_append, List.nodup_append] at h2
    exact h2.2.2 _ hm n (by simp) rfl
  rw [uentsT, mput_new n _ _ hn, uentsT, e]
  simp [uents, Un.row]
theorem mk_ld (es : List (List V × List V)) : mkE [(1, 71, 1), (2, 43, 2)] 0 [V.fz true es, V.nl, V.nl, V.bool false] = [E.v (V.fz true es), E.os 71 1 [], E.os 43 2 [], E.v (V.bool false)] := rfl
set_option maxHeartbeats 4000000 in
theorem loaded_T (l : List Un) (h : (validateM l).1 = 0) (zm : List Md) (zt : List Nat) (zl : List Ev) (zf : Bool) (hz : finS l = ⟨zm, zt, zl, zf⟩) : CallsA Tryd.prog 27 [.d (.u (uns l))] noOb (Iso (.t [.d (.u (if zf = true then .pn else .m 1 0 0)), .a (if zf = true then fd (21, -1) else fd (0, 0))]) (ldOb l zm zt zl zf)) := by
  have hv := validate_T l
  obtain ⟨hU, hnd, hlen, hmain, _⟩ := valid_Uok h
  obtain ⟨hI, hB, hL⟩ := init_inv h
  have hfv : ∃ i, validateM l = (0, i) := ⟨(validateM l).2, by rw [← h]⟩
  obtain ⟨i0, hfv⟩ := hfv
  rw [hfv] at hv
  have hl40 := hU.len
  obtain ⟨zk, hrk⟩ : ∃ zk, runM l 5001 initS 0 = (⟨zm, zt, zl, zf⟩, zk) := ⟨(runM l 5001 initS 0).2, by rw [← hz]; rfl⟩
  have hrun := runM_C hU 5001 (by omega) _ _ _ _ 0 zm zt zl zf zk _ _ hI hB (by simp [initS]) hL hrk rfl rfl
  refine callsA_of_vcO (T := tt) Tryd.func27 rfl rfl rfl rfl rfl ?_
  repeat' ((conv => whnf); first | refine Gs.id ?_ | with_reducible refine Brn.F rfl ?_ | (refine Bnd.mk (fun hm => ?_); (try simp only [smT] at hm)) | refine Raw.makeMap (T := tt) rfl rfl rfl rfl rfl rfl (.inl rfl) rfl rfl ?_ | (refine CL.mk (Or.inl ?_); (conv => whnf); refine Cl.is (hv) rfl (by first | exact fun _ => rfl | fail) ?_) | fail)
  all_goals (conv => whnf)
  refine ⟨⟨Nat, fun i => i ≤ l.length, fun i => l.length - i, fun i => ⟨[(3, .d (.p 3 0)), (5, .d (.p 17 0)), (18, .d (.u (uns l))), (19, di l.length), (20, di i)], [(3, .bx 24 [.u (.int .i64 0), .u (.int .i64 0)]), (17, .bx 63 [.mp 903, .u .nl, .u .nl, .u (.bool false)]), (903, .mp false true (uentsT l i)), (1, .fm 0 []), (2, .fm 82 [])]⟩, 0, Nat.zero_le _, ⟨[(3, .k 3), (17, .k 17), (903, .k 15), (1, .k 1), (2, .k 2)], ⟨by (try dsimp only); (repeat (refine LeT.cons rfl (by first | exact LeS.d (by first | exact LeD.u rfl | exact LeD.p rfl | exact LeD.u (by simp [uentsT_zero]; done) | fail) | fail) ?_)); exact LeT.nil, by (try dsimp only); repeat (first | exact LeO.nil | refine LeO.bx rfl rfl (by repeat (first | exact LeL.nil | refine LeL.cons (by first | exact LeD.u rfl | exact LeD.mp rfl | fail) ?_)) ?_ | refine LeO.fm rfl (by first | rfl | fail) ?_ | refine LeO.mp rfl rfl (by first | rfl | fail) ?_ | fail)⟩⟩, fun i hi => ?_⟩⟩
  dsimp only at hi ⊢
  by_cases h9 : i < l.length
  · obtain ⟨⟨un, ust⟩, hu⟩ : ∃ u, l[i]? = some u := ⟨_, List.getElem?_eq_getElem h9⟩
    have hrow : ∀ {K : List V → Prop}, K (Un.row ⟨un, ust⟩) → Ix (l.map Un.row) (i : Int) K := fun k => Ix.map rfl h9 (by rw [(List.getElem?_eq_some_iff.1 hu).2]; exact k)
    have hput := uentsT_put hnd hu
    have hok := uentsT_ok l i
    repeat' ((conv => whnf); first | refine hrow ?_ | refine Drw.ghost (i := 8) (Ghost.frzB 7 rfl rfl) ?_ | refine Gs.id ?_ | refine Brn.T (by (try simp only [smT]); first | rfl | omega | fail) ?_ | refine Rng.mk (by (try simp only [smT]); omega) ?_ | refine Raw.mapUpdate (T := tt) (.inl rfl) rfl rfl rfl rfl rfl rfl rfl rfl rfl rfl rfl (by assumption) ?_ | refine Drw.ofP (T := tt) (i := 8) [3, 7] [0, 1, 2, 4, 5, 6] [0, 1, 2, 4, 5, 6] (OT.alt 3 (OT.alt 7 OT.nil OT.nil) OT.nil) (by kernel_rfl) ?_ | fail)
    all_goals (conv => whnf)
    all_goals exact ⟨i + 1, by omega, by omega, [(3, .k 3), (17, .k 17), (903, .k 903), (1, .k 1), (2, .k 2)], ⟨by (try dsimp only); (repeat (refine LeT.cons rfl (by first | exact LeS.d (by first | exact LeD.u rfl | exact LeD.p rfl | fail) | fail) ?_)); exact LeT.nil, by (try dsimp only); repeat (first | exact LeO.nil | refine LeO.bx rfl rfl (by repeat (first | exact LeL.nil | refine LeL.cons (by first | exact LeD.u rfl | exact LeD.mp rfl | fail) ?_)) ?_ | refine LeO.fm rfl (by first | rfl | fail) ?_ | refine LeO.mp rfl rfl (by first | simp [hput]) ?_ | fail)⟩⟩
  · obtain rfl : i = l.length := by omega
    refine' cutR (fun _ : Unit => True) (fun _ => ⟨[(3, .d (.p 3 0)), (5, ldP), (8, mdP 0)], (3, .bx 24 [.u (.int .i64 0), .u (.int .i64 0)]) :: ldOb l [⟨mainB, 0, []⟩] [0] [] false⟩) _ (fun hR => ?_) ?_
    rotate_left
    · repeat' ((conv => whnf); first | refine Gs.cut (i := 12) (by assumption) () [(1, .k 1), (2, .k 2), (3, .k 3)] rfl ?_ trivial | refine Gs.go (i := 10) ((Ghost.frzM 903 rfl).trans (Ghost.toFam 17 5 1 [(1, (71, 1)), (2, (43, 2))] rfl rfl rfl rfl rfl rfl)) ?_ | refine Gs.id ?_ | refine Brn.F (by (try simp only [smT]); first | rfl | omega | fail) ?_ | refine Rw.lit rfl ?_ | refine Len.mk (by first | rfl | fail) ?_ | refine Apd.mk (by first | rfl | fail) (by first | rfl | fail) (by (try simp only [smT]); first | omega | fail) (by unfold maxLen; first | (simp; done) | fail) ?_ | (refine Raw.appendR (T := tt) ?_; (conv => whnf); first | refine Rw.lit rfl ?_ | fail) | refine Spc.mk ⟨[(2,(84,2))], ?_⟩)
      all_goals exact ⟨by (try dsimp only); (repeat (refine LeT.cons rfl (by first | exact LeS.d (by first | exact LeD.u rfl | exact LeD.p rfl | fail) | fail) ?_)); exact LeT.nil, by (try dsimp only); repeat (first | exact LeO.nil | refine LeO.bx rfl rfl (by repeat (first | exact LeL.nil | refine LeL.cons (by first | exact LeD.u rfl | fail) ?_)) ?_ | refine LeO.fm rfl (by first | rfl | simp [Md.row, mk_md, uentsT_all, mk_ld, ldRow]) ?_ | fail)⟩
    · intro _ _
      dsimp only
      cases zf
      · rw [if_neg (by simp), if_neg (by simp)]
        repeat' ((conv => whnf); first | refine Gs.id ?_ | with_reducible refine Brn.F rfl ?_ | refine Rw.lit rfl ?_ | (refine CL.mk (Or.inr (Raw.callI [1,2] [1,2] rfl rfl rfl rfl rfl rfl rfl (hrun) ?_)); rintro _ _ ⟨rfl, rfl⟩; refine Bk.mk rfl rfl ?_))
        all_goals (conv => whnf)
        all_goals exact RetO.mk ⟨[], _, _, (by exact LeS.ts (by repeat (first | exact LeCs.nil | refine LeCs.cons (by first | exact LeC.d (by first | exact LeD.u rfl | fail) | exact LeC.a (by repeat (first | exact LeL.nil | refine LeL.cons (by first | exact LeD.u rfl | fail) ?_))) ?_))), LeO.fm rfl rfl (LeO.fm rfl rfl .nil), rfl, rfl⟩
      · rw [if_pos rfl, if_pos rfl]
        repeat' ((conv => whnf); first | refine Gs.id ?_ | with_reducible refine Brn.T rfl ?_ | refine Rw.lit rfl ?_ | (refine CL.mk (Or.inr (Raw.callI [1,2] [1,2] rfl rfl rfl rfl rfl rfl rfl (hrun) ?_)); rintro _ _ ⟨rfl, rfl⟩; refine Bk.mk rfl rfl ?_))
        all_goals (conv => whnf)
        all_goals exact RetO.mk ⟨[], _, _, (by exact LeS.ts (by repeat (first | exact LeCs.nil | refine LeCs.cons (by first | exact LeC.d (by first | exact LeD.u rfl | fail) | exact LeC.a (by repeat (first | exact LeL.nil | refine LeL.cons (by first | exact LeD.u rfl | fail) ?_))) ?_))), LeO.fm rfl rfl (LeO.fm rfl rfl .nil), rfl, rfl⟩
theorem load_ok (l : List Un) (h1 : (validateM l).1 = 0) (h2 : (finS l).full = false) : CallsA Tryd.prog 14 [.d (.u (uns l))] noOb (Iso (.t [.d (.ow 905 (finS l).log.length), .a (fd (0, 0))]) [(905, .ar 43 2 ((finS l).log.map Ev.v))]) := by
  generalize hz : finS l = z at h2 ⊢
  obtain ⟨zm, zt, zl, zf⟩ := z
  dsimp only at h2 ⊢
  subst h2
  have hl := loaded_T l h1 zm zt zl false hz
  rw [if_neg (by simp), if_neg (by simp)] at hl
  refine callsA_of_vcO (T := tt) Tryd.func14 rfl rfl rfl rfl rfl ?_
  repeat' ((conv => whnf); first | refine Gs.go (i := 1000) (Ghost.take 905 2 rfl rfl rfl rfl rfl (by simp) rfl) ?_ | refine Gs.id ?_ | with_reducible refine Brn.F rfl ?_ | refine Rw.lit rfl ?_ | (refine CL.mk (Or.inr (Raw.callI [1,2] [1,2] rfl rfl rfl rfl rfl rfl rfl (hl) ?_)); rintro _ _ ⟨rfl, rfl⟩; refine Bk.mk rfl rfl ?_))
  all_goals (conv => whnf)
  all_goals exact RetO.mk ⟨[(905, .k 905)], _, _, (by exact LeS.ts (by repeat (first | exact LeCs.nil | refine LeCs.cons (by first | exact LeC.d (by first | exact LeD.ow rfl (by simp) | fail) | exact LeC.a (by repeat (first | exact LeL.nil | refine LeL.cons (by first | exact LeD.u rfl | fail) ?_))) ?_))), (by repeat (first | exact LeO.nil | refine LeO.ar rfl rfl (by first | rfl | fail) ?_ | fail)), rfl, rfl⟩
end Go.Proofs.YtgloielnnakknaaDoor
namespace Go.Proofs.YtgloielnnakknaaDoor
open Go.RowKit
abbrev buP (j : Nat) : SV := .d (.u (.m 77 j 0))
abbrev buRow (p : V) (s : ByteArray) : List E := [.v p, .os 5 1 (bwR s)]
abbrev buOb (R : List (List E)) : List (Nat × Ob) := [(77, .fm 75 R)]
theorem set_at {α : Type} {l : List α} {j : Nat} {a b : α} (h : l[j]? = some a) : (l.set j b)[j]? = some b := by
  rw [List.getElem?_set]; simp [(List.getElem?_eq_some_iff.1 h).1]
theorem copyNew_T (R : List (List E)) (j : Nat) (s : ByteArray) (hR : R[j]? = some (buRow .pn s)) : CallsA Tryd.prog 44 [buP j] (buOb R) (Iso (.t []) (buOb (R.set j (buRow (.m 77 j 0) s)))) := by
  have hf := Tryd.func55
  refine callsA_of_vcO (T := tt) Tryd.func44 rfl rfl rfl rfl rfl ?_
  repeat' ((conv => whnf); first | refine Raw.toUnsafeM (T := tt) rfl rfl hR (by simp) rfl rfl (by kernel_rfl) (by kernel_rfl) rfl ?_ | refine Raw.fromUnsafeM (T := tt) (n0 := 2) rfl rfl hR rfl rfl rfl (by kernel_rfl) (by kernel_rfl) (by kernel_rfl) rfl ?_ | (refine CL.mk (Or.inr (Raw.extId (e := Extern.AbiNoEscape.same) rfl hf (by kernel_rfl) (by kernel_rfl) (by kernel_rfl) (by kernel_rfl) (fun _ _ => rfl) rfl ?_))) | refine Rw.get hR ?_ | refine Gs.id ?_ | with_reducible refine Brn.T rfl ?_ | fail)
  all_goals (conv => whnf)
  all_goals exact RetO.mk ⟨[], _, _, (by exact LeS.ts (by repeat (first | exact LeCs.nil | fail))), LeO.fm rfl rfl .nil, rfl, rfl⟩
theorem copyOld_T (R : List (List E)) (j : Nat) (s : ByteArray) (hR : R[j]? = some (buRow (.m 77 j 0) s)) : CallsA Tryd.prog 44 [buP j] (buOb R) (Iso (.t []) (buOb R)) := by
  have hj := (List.getElem?_eq_some_iff.1 hR).1
  refine callsA_of_vcO (T := tt) Tryd.func44 rfl rfl rfl rfl rfl ?_
  repeat' ((conv => whnf); first | refine Rw.get hR ?_ | refine Gs.id ?_ | with_reducible refine Brn.F rfl ?_ | refine Brn.F (by (try simp only [smT]); first | rfl | fail) ?_ | refine Pm.mk (by first | assumption | fail) (by first | assumption | fail) ?_ | fail)
  all_goals (conv => whnf)
  all_goals first | (exfalso; simp_all [notT]; done) | exact RetO.mk ⟨[], _, _, (by exact LeS.ts (by repeat (first | exact LeCs.nil | fail))), LeO.fm rfl rfl .nil, rfl, rfl⟩
abbrev wrR (s : ByteArray) : SV := .t [.d (.u (.int .i64 s.size)), .d (.u (.v .nilIface))]
theorem wrOld_T (R : List (List E)) (j : Nat) (a s : ByteArray) (ha : a.size ≤ 100000000) (hs : s.size ≤ 100000000) (hR : R[j]? = some (buRow (.m 77 j 0) a)) : CallsA Tryd.prog 32 [buP j, dsr s] (buOb R) (Iso (wrR s) (buOb (R.set j (buRow (.m 77 j 0) (a ++ s))))) := by
  have h1 := copyOld_T R j a hR
  have h2 := bwR_len a
  have hj := (List.getElem?_eq_some_iff.1 hR).1
  refine callsA_of_vcO (T := tt) Tryd.func32 rfl rfl rfl rfl rfl ?_
  repeat' ((conv => whnf); first | refine Raw.take 900 12 rfl rfl rfl hR rfl rfl rfl (Raw.appendStr (T := tt) rfl (by intro z r e; cases e) rfl rfl rfl rfl rfl rfl rfl rfl rfl rfl (by kernel_rfl) (by omega) rfl rfl ?_) | refine Rw.get hR ?_ | refine Rw.get (set_at hR) ?_ | refine Gs.id ?_ | (refine Bnd.mk (fun hm => ?_); (try simp only [smT] at hm)) | refine Len.mk (by first | rfl | fail) ?_ | (refine CL.mk (Or.inr (Raw.callI [77] [77] rfl rfl rfl rfl rfl rfl rfl (h1) ?_)); rintro _ _ ⟨rfl, rfl⟩; refine Bk.mk rfl rfl ?_))
  all_goals (conv => whnf)
  all_goals exact RetO.mk ⟨[], _, _, (by exact LeS.ts (by repeat (first | exact LeCs.nil | refine LeCs.cons (by first | exact LeC.d (by first | exact LeD.u rfl | fail) | fail) ?_))), LeO.fm rfl (by simp [buRow, bwR_app]) .nil, rfl, rfl⟩
theorem wrNew_T (R : List (List E)) (j : Nat) (a s : ByteArray) (ha : a.size ≤ 100000000) (hs : s.size ≤ 100000000) (hR : R[j]? = some (buRow .pn a)) : CallsA Tryd.prog 32 [buP j, dsr s] (buOb R) (Iso (wrR s) (buOb (R.set j (buRow (.m 77 j 0) (a ++ s))))) := by
  have h1 := copyNew_T R j a hR
  have h2 := bwR_len a
  have hj := (List.getElem?_eq_some_iff.1 hR).1
  have hR2 := set_at (b := buRow (.m 77 j 0) a) hR
  refine callsA_of_vcO (T := tt) Tryd.func32 rfl rfl rfl rfl rfl ?_
  repeat' ((conv => whnf); first | refine Raw.take 900 12 rfl rfl rfl hR2 rfl rfl rfl (Raw.appendStr (T := tt) rfl (by intro z r e; cases e) rfl rfl rfl rfl rfl rfl rfl rfl rfl rfl (by kernel_rfl) (by omega) rfl rfl ?_) | refine Rw.get hR2 ?_ | refine Rw.get (set_at hR2) ?_ | refine Gs.id ?_ | (refine Bnd.mk (fun hm => ?_); (try simp only [smT] at hm)) | refine Len.mk (by first | rfl | fail) ?_ | (refine CL.mk (Or.inr (Raw.callI [77] [77] rfl rfl rfl rfl rfl rfl rfl (h1) ?_)); rintro _ _ ⟨rfl, rfl⟩; refine Bk.mk rfl rfl ?_))
  all_goals (conv => whnf)
  all_goals exact RetO.mk ⟨[], _, _, (by exact LeS.ts (by repeat (first | exact LeCs.nil | refine LeCs.cons (by first | exact LeC.d (by first | exact LeD.u rfl | fail) | fail) ?_))), LeO.fm rfl (by simp [buRow, bwR_app]) .nil, rfl, rfl⟩
theorem len_T (R : List (List E)) (j : Nat) (p : V) (s : ByteArray) (hR : R[j]? = some (buRow p s)) : CallsA Tryd.prog 33 [buP j] (buOb R) (Iso (di s.size) (buOb R)) := by
  have h2 := bwR_len s
  refine callsA_of_vcO (T := tt) Tryd.func33 rfl rfl rfl rfl rfl ?_
  repeat' ((conv => whnf); first | refine Rw.get hR ?_ | refine Gs.id ?_ | (refine Bnd.mk (fun hm => ?_); (try simp only [smT] at hm)) | fail)
  all_goals (conv => whnf)
  all_goals exact RetO.mk ⟨[], _, _, .d (LeD.u (by rw [h2])), LeO.fm rfl rfl .nil, rfl, rfl⟩
theorem str_T (R : List (List E)) (j : Nat) (p : V) (s : ByteArray) (h0 : s.size ≠ 0) (hR : R[j]? = some (buRow p s)) : CallsA Tryd.prog 34 [buP j] (buOb R) (Iso (dsr s) (buOb (R.set j [.v p, .hl]))) := by
  have h2 := bwR_len s
  have h3 : (bwR s).length ≠ 0 := by omega
  refine callsA_of_vcO (T := tt) Tryd.func34 rfl rfl rfl rfl rfl ?_
  repeat' ((conv => whnf); first | refine Raw.sliceDataR rfl h3 rfl ?_ | refine Raw.unsafeStrR (T := tt) rfl rfl rfl rfl hR rfl (by rw [h2]) h0 rfl rfl (by kernel_rfl) rfl ?_ | refine Rw.get hR ?_ | refine Gs.id ?_ | with_reducible refine And.intro ?_ ?_ | (refine Bnd.mk (fun hm => ?_); (try simp only [smT] at hm)) | refine Drw.ofP (T := tt) (i := 1) [3, 4, 8, 9, 10, 11] [0, 1, 2, 5, 6, 7] [0, 1, 2, 5, 6, 7] (OT.alt 3 (OT.alt 4 (OT.alt 8 (OT.alt 9 (OT.alt 10 (OT.alt 11 OT.nil OT.nil) OT.nil) OT.nil) OT.nil) (OT.alt 8 (OT.alt 4 (OT.alt 9 (OT.alt 10 (OT.alt 11 OT.nil OT.nil) OT.nil) OT.nil) (OT.alt 9 (OT.alt 4 (OT.alt 10 (OT.alt 11 OT.nil OT.nil) OT.nil) OT.nil) OT.nil)) OT.nil)) (OT.alt 8 (OT.alt 3 (OT.alt 4 (OT.alt 9 (OT.alt 10 (OT.alt 11 OT.nil OT.nil) OT.nil) OT.nil) (OT.alt 9 (OT.alt 4 (OT.alt 10 (OT.alt 11 OT.nil OT.nil) OT.nil) OT.nil) OT.nil)) (OT.alt 9 (OT.alt 3 (OT.alt 4 (OT.alt 10 (OT.alt 11 OT.nil OT.nil) OT.nil) OT.nil) OT.nil) OT.nil)) OT.nil)) (by kernel_rfl) ?_)
  all_goals (conv => whnf)
  all_goals exact RetO.mk ⟨[], _, _, (by first | exact LeS.d (by first | exact LeD.u rfl | fail) | fail), LeO.fm rfl rfl .nil, rfl, rfl⟩
end Go.Proofs.YtgloielnnakknaaDoor
namespace Go.Proofs.YtgloielnnakknaaDoor
open Go.RowKit
abbrev spB : ByteArray := ⟨#[32]⟩
abbrev eqsB : ByteArray := ⟨#[61]⟩
abbrev colB : ByteArray := ⟨#[58]⟩
def nameM (mods : List Md) (j : Nat) : ByteArray := (nmOf mods j).getD emp
def attB (mods : List Md) (b : ByteArray) (a : At) : ByteArray := match a.mod with
  | none => b ++ (spB ++ a.name)
  | some j => (b ++ (spB ++ a.name)) ++ (eqsB ++ nameM mods j)
def attsB (mods : List Md) : ByteArray → List At → ByteArray
  | b, [] => b
  | b, a :: r => attsB mods (attB mods b a) r
def atsM (mods : List Md) (j : Nat) : List At := match mods[j]? with
  | some m => m.ats
  | none => []
def mdB (mods : List Md) (j : Nat) : ByteArray := attsB mods (emp ++ (nameM mods j ++ colB)) (atsM mods j)
def namesW (mods : List Md) : List ByteArray → List Nat → Option (List ByteArray)
  | out, [] => some out
  | out, j :: r => if 4000 < ((mdB mods j).size : Int) then none else namesW mods (out ++ [mdB mods j]) r
theorem cutM_size (s : ByteArray) : (cutM s).size ≤ s.size := by
  unfold cutM
  split
  · simp; omega
  · exact Nat.le_refl _
theorem lastP_size (s : ByteArray) : (lastP s).size ≤ s.size := by
  unfold lastP
  split
  · simp
  · exact Nat.le_refl _
theorem namesA_size {us : List Un} (hU : Uok us) {n : ByteArray} (h : n ∈ namesA us) : n.size ≤ 60 := by
  obtain ⟨u, hu, h⟩ := List.mem_flatMap.1 h
  rcases List.mem_cons.1 h with rfl | h
  · exact Nat.le_trans (lastP_size _) (hU.name u hu)
  · obtain ⟨t, ht, h⟩ := List.mem_flatMap.1 h
    obtain ⟨h1, h2⟩ := hU.step u hu t ht
    simp at h
    rcases h with rfl | rfl | rfl
    · exact h1
    · exact h2
    · exact Nat.le_trans (cutM_size _) h1
theorem nameM_size {us : List Un} (hU : Uok us) {s : Ld} (hI : Inv us s) (j : Nat) : (nameM s.mods j).size ≤ 60 := by
  unfold nameM nmOf
  cases h : s.mods[j]? with
  | none => simp; decide
  | some m => exact hasU_size hU (hI.nm m (List.mem_of_getElem? h))
theorem attsB_next {mods : List Md} {b : ByteArray} {l : List At} {q : Nat} {a : At} (h : l[q]? = some a) : attsB mods b (l.drop q) = attsB mods (attB mods b a) (l.drop (q + 1)) := by
  rw [List.drop_eq_getElem_cons (lt_get h), attsB, (List.getElem?_eq_some_iff.1 h).2]
theorem namesW_next {mods : List Md} {out : List ByteArray} {l : List Nat} {q j : Nat} (h : l[q]? = some j) : namesW mods out (l.drop q) = if 4000 < ((mdB mods j).size : Int) then none else namesW mods (out ++ [mdB mods j]) (l.drop (q + 1)) := by
  rw [List.drop_eq_getElem_cons (lt_get h), namesW, (List.getElem?_eq_some_iff.1 h).2]
abbrev nmOb : List (Nat × Ob) := [(1, .fm 0 []), (2, .fm 82 []), (77, .fm 75 [])]
theorem names_bad (l : List Un) (f : Int × Int) (hf : ((validateM l).1 ≠ 0 ∧ f = validateM l) ∨ ((validateM l).1 = 0 ∧ (finS l).full = true ∧ f = (21, -1))) : CallsA Tryd.prog 18 [.d (.u (uns l))] nmOb (Iso (.t [.d (.u .nl), .a (fd f)]) []) := by
  obtain ⟨c, i⟩ := f
  rcases hf with ⟨h1, h2⟩ | ⟨h1, h2, h3⟩
  · have hl := loaded_bad l h1
    rw [← h2] at hl h1
    dsimp only at h1
    refine callsA_of_vcO (T := tt) Tryd.func18 rfl rfl rfl rfl rfl ?_
    repeat' ((conv => whnf); first | refine Gs.id ?_ | refine Brn.T (by (try simp only [smT]); first | rfl | assumption | fail) ?_ | refine Drw.of (T := tt) (i := 3) [2] [] [(0, true), (1, true), (2, false)] (by kernel_rfl) ?_ | (refine CL.mk (Or.inr (Raw.callI [1,2] [1,2] rfl rfl rfl rfl rfl rfl rfl (hl) ?_)); rintro _ _ ⟨rfl, rfl⟩; refine Bk.mk rfl rfl ?_))
    all_goals (conv => whnf)
    all_goals exact RetO.mk ⟨[], _, _, (by exact LeS.ts (by repeat (first | exact LeCs.nil | refine LeCs.cons (by first | exact LeC.d (by first | exact LeD.u rfl | fail) | exact LeC.a (by repeat (first | exact LeL.nil | refine LeL.cons (by first | exact LeD.u rfl | fail) ?_))) ?_))), .nil, rfl, rfl⟩
  · injection h3 with e1 e2
    subst e1 e2
    generalize hz : finS l = z at h2
    obtain ⟨zm, zt, zl, zf⟩ := z
    dsimp only at h2
    subst h2
    have hl := loaded_T l h1 zm zt zl true hz
    rw [if_pos rfl, if_pos rfl] at hl
    refine callsA_of_vcO (T := tt) Tryd.func18 rfl rfl rfl rfl rfl ?_
    repeat' ((conv => whnf); first | refine Gs.id ?_ | with_reducible refine Brn.T rfl ?_ | refine Drw.of (T := tt) (i := 3) [2] [] [(0, true), (1, true), (2, false)] (by kernel_rfl) ?_ | (refine CL.mk (Or.inr (Raw.callI [1,2] [1,2] rfl rfl rfl rfl rfl rfl rfl (hl) ?_)); rintro _ _ ⟨rfl, rfl⟩; refine Bk.mk rfl rfl ?_))
    all_goals (conv => whnf)
    all_goals exact RetO.mk ⟨[], _, _, (by exact LeS.ts (by repeat (first | exact LeCs.nil | refine LeCs.cons (by first | exact LeC.d (by first | exact LeD.u rfl | fail) | exact LeC.a (by repeat (first | exact LeL.nil | refine LeL.cons (by first | exact LeD.u rfl | fail) ?_))) ?_))), .nil, rfl, rfl⟩
end Go.Proofs.YtgloielnnakknaaDoor
