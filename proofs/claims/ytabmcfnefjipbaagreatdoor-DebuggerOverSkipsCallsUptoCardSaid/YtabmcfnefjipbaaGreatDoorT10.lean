/-
  Part 10 of the proofs of dmove_holds, dstack_holds, dsteps_holds, dover_holds, dbreaks_holds: laws and contracts that they need.
-/
import Derived.Test.YtabmcfnefjipbaaGreatDoorT9
import Derived.Test.YtabmcfnefjipbaaGreatDoorRows
import Derived.ProofKit
import Derived.Carry
import Derived.SizedLaws
import Derived.Deep.Slices
import Derived.Deep.Fields
import Derived.ChangeSame
import Derived.Lib.SmallJoins
import Derived.Deep.DeepHandedRow
import Derived.Stop.LaidErr
import Derived.LaidLaws
import Derived.Test.YtabmcfnefjipbaaGreatDoorChecked
import Derived.Lay
set_option linter.unusedVariables false
set_option linter.unusedSimpArgs false
namespace Go.Proofs.YtabmcfnefjipbaaGreatDoor
open Go.RowKit
theorem codeB_08 {b : Bp} {bf : List Bp} (h : codeB b bf = 0 ∨ codeB b bf = 8) : dottedM b.md = true ∧ (b.nm = emB ∨ nameB b.nm = true) ∧ 1 ≤ b.line ∧ (b.nm ≠ emB ∨ b.tx = emB) ∧ (b.tx.size : Int) ≤ 4000 ∧ codeB b bf = (if bf.any (eqBk b) then 8 else 0) := by
  unfold codeB at h ⊢
  split at h
  · rcases h with h | h <;> cases h
  rename_i g1
  split at h
  · rcases h with h | h <;> cases h
  rename_i g2
  split at h
  · rcases h with h | h <;> cases h
  rename_i g3
  split at h
  · rcases h with h | h <;> cases h
  rename_i g4
  rw [if_neg g1, if_neg g2, if_neg g3, if_neg g4]
  refine ⟨?_, ?_, by omega, ?_, by omega, rfl⟩
  · cases hd : dottedM b.md
    · exact absurd (.inl hd) g1
    · rfl
  · by_cases hn : b.nm = emB
    · exact .inl hn
    · refine .inr ?_
      cases hd : nameB b.nm
      · exact absurd (.inr ⟨hn, hd⟩) g1
      · rfl
  · by_cases hn : b.nm = emB
    · by_cases ht : b.tx = emB
      · exact .inr ht
      · exact absurd ⟨hn, ht⟩ g3
    · exact .inl hn
set_option maxHeartbeats 4000000 in
theorem breaks_R (l : List Bp) (hsz : ∀ b ∈ l, b.md.size ≤ 1000000000000) : CallsA Tryz.prog 19 [.d (.u (bks l))] [] (Is (dfa (validB l).1 (validB l).2)) := by
  by_cases hl : 50 < l.length
  · have e : validB l = (2, -1) := by rw [validB, if_pos hl]
    rw [e]
    refine callsA_of_vc (T := tt) Tryz.func19 rfl rfl rfl rfl rfl ?_
    repeat' ((conv => whnf); first | refine Gs.id ?_ | refine Brn.T (by (try simp only [smT]); first | rfl | omega | fail) ?_ | (refine Bnd.mk (fun hm => ?_); (try simp only [smT] at hm)) | (refine CL.mk (Or.inl ?_); (conv => whnf); refine Cl.nl (by repeat (first | exact NlSs.nil | exact NlS.refl | refine NlSs.cons ?_ ?_ | fail)) (at_R 2 (-1)) rfl (by first | exact fun _ => rfl | fail) ?_) | fail)
    all_goals (conv => whnf)
    all_goals first | exact Ret.is rfl | (exfalso; simp_all; done)
  · have e : validB l = bFrom 0 [] l := by rw [validB, if_neg hl]
    rw [e]
    refine callsA_of_vc (T := tt) Tryz.func19 rfl rfl rfl rfl rfl ?_
    repeat' ((conv => whnf); first | refine Gs.id ?_ | refine Brn.F (by (try simp only [smT]); first | rfl | omega | fail) ?_ | (refine Bnd.mk (fun hm => ?_); (try simp only [smT] at hm)) | fail)
    all_goals (conv => whnf)
    refine ⟨⟨Nat, fun i => i ≤ l.length ∧ bFrom 0 [] l = bFrom i (l.take i) (l.drop i), fun i => l.length - i, fun i => ⟨[(0, .d (.u (bks l))), (2, .d (.p 2 0)), (3, di i)], [(2, .bx 25 [.u (.int .i64 0), .u (.int .i64 0)])]⟩, 0, ⟨Nat.zero_le _, rfl⟩, ⟨[(2, .k 2)], ⟨by (try dsimp only); (repeat (refine LeT.cons rfl (by first | exact LeS.d (by first | exact LeD.u rfl | exact LeD.p rfl | fail) | fail) ?_)); exact LeT.nil, by (try dsimp only); repeat (first | exact LeO.nil | refine LeO.bx rfl rfl (by repeat (first | exact LeL.nil | refine LeL.cons (by first | exact LeD.u rfl | fail) ?_)) ?_ | fail)⟩⟩, fun i hi => ?_⟩⟩
    obtain ⟨hi, hq⟩ := hi
    dsimp only
    rw [hq]
    by_cases h9 : i < l.length
    · have hdr := List.drop_eq_getElem_cons h9
      have hrow : ∀ {K : List V → Prop}, K (Bp.row l[i]) → Ix (l.map Bp.row) (i : Int) K := fun k => Ix.map rfl h9 k
      have hrow2 : ∀ (k : Nat), k < i → ∃ x, (l.take i)[k]? = some x ∧ ∀ {K : List V → Prop}, K (Bp.row x) → Ix (l.map Bp.row) (k : Int) K := fun k hk => ⟨l[k]'(by omega), by rw [List.getElem?_take_of_lt hk, List.getElem?_eq_getElem (by omega)], fun h => Ix.map rfl (by omega) h⟩
      have htk : l.take (i + 1) = l.take i ++ [l[i]] := by rw [List.take_add_one, List.getElem?_eq_getElem h9]; rfl
      have hbl : (l.take i).length = i := by rw [List.length_take]; omega
      have hds := hsz _ (List.getElem_mem h9)
      have h08 := codeB_08 (b := l[i]) (bf := l.take i)
      rw [hdr, bFrom, ← htk]
      generalize hcd : codeB l[i] (l.take i) = cd at *
      unfold codeB at hcd
      generalize l[i] = b at *
      generalize l.take i = bf at *
      have hd := dotted_R b.md hds
      rw [← dottedM_eq] at hd
      have hn := name_R b.nm
      have h1 := toList_beq b.nm emB
      have h2 := toList_beq b.tx emB
      generalize dottedM b.md = bd at *
      generalize nameB b.nm = bn at *
      have ha := fun a c => at_R a c
      clear hq hdr htk e hl
      by_cases hc8 : cd = 0 ∨ cd = 8
      · obtain ⟨rfl, k2, k3, k4, k5, k6⟩ := h08 hc8
        clear hcd h08 hc8
        generalize hx1 : decide (b.nm = emB) = x1 at *
        generalize hx2 : decide (b.tx = emB) = x2 at *
        have k2' : x1 = true ∨ (x1 = false ∧ bn = true) := by
          rw [← hx1]
          by_cases hne : b.nm = emB
          · simp [hne]
          · exact .inr ⟨by simp [hne], k2.resolve_left hne⟩
        have k4' : x1 = false ∨ (x1 = true ∧ x2 = true) := by
          rw [← hx1, ← hx2]
          by_cases hne : b.nm = emB
          · exact .inr ⟨by simp [hne], by simpa using k4.resolve_left (fun h => h hne)⟩
          · simp [hne]
        clear k2 k4 hx1 hx2
        have key : (x1 = true ∧ x2 = true) ∨ (x1 = false ∧ bn = true) := by
          rcases k2' with h | h
          · rcases k4' with h' | h'
            · rw [h] at h'; cases h'
            · exact .inl h'
          · exact .inr h
        clear k2' k4'
        rcases key with ⟨rfl, rfl⟩ | ⟨rfl, rfl⟩
        all_goals
          repeat' ((conv => whnf); first | rw [h1] | rw [h2] | refine hrow ?_ | refine Gs.id ?_ | with_reducible refine Brn.T rfl ?_ | with_reducible refine Brn.F rfl ?_ | refine Brn.T (by (try simp only [smT]); first | rfl | omega | fail) ?_ | refine Brn.F (by (try simp only [smT]); first | rfl | assumption | fail) ?_ | (refine Bnd.mk (fun hm => ?_); (try simp only [smT] at hm)) | (refine CL.mk (Or.inl ?_); (conv => whnf); first | refine Cl.is (hd) rfl (by first | exact fun _ => rfl | fail) ?_ | refine Cl.is (hn) rfl (by first | exact fun _ => rfl | fail) ?_ | fail) | fail)
          all_goals (conv => whnf)
          all_goals first | (exfalso; clear hd hn h1 h2 hrow hrow2 ha; simp at *; omega) | skip
          refine ⟨⟨Nat, fun k => k ≤ i ∧ bf.any (eqBk b) = (bf.drop k).any (eqBk b), fun k => i - k, fun k => ⟨[(0, .d (.u (bks l))), (2, .d (.p 2 0)), (3, di i), (4, .d (.p 4 0)), (5, di k)], [(2, .bx 25 [.u (.int .i64 0), .u (.int .i64 0)]), (4, .bx 62 b.ds)]⟩, 0, ⟨Nat.zero_le _, rfl⟩, ⟨[(2, .k 2), (4, .k 4)], ⟨by (try dsimp only); (repeat (refine LeT.cons rfl (by first | exact LeS.d (by first | exact LeD.u rfl | exact LeD.p rfl | fail) | fail) ?_)); exact LeT.nil, by (try dsimp only); repeat (first | exact LeO.nil | refine LeO.bx rfl rfl (by repeat (first | exact LeL.nil | refine LeL.cons (by first | exact LeD.u rfl | fail) ?_)) ?_ | fail)⟩⟩, fun k hk => ?_⟩⟩
          obtain ⟨hk, hqk⟩ := hk
          dsimp only
          by_cases hki : k < i
          · obtain ⟨x, hx, hrw⟩ := hrow2 k hki
            have hdk : bf.drop k = x :: bf.drop (k + 1) := by
              have := (List.getElem?_eq_some_iff.1 hx)
              obtain ⟨y1, y2⟩ := this
              rw [List.drop_eq_getElem_cons y1, y2]
            rw [hdk, List.any_cons] at hqk
            have e1 := toList_beq x.md b.md
            have e3 := toList_beq x.nm b.nm
            have e4 := toList_beq x.tx b.tx
            have e0 : eqBk b x = (decide (x.md = b.md) && (decide (b.line = x.line) && (decide (x.nm = b.nm) && decide (x.tx = b.tx)))) := by
              unfold eqBk
              rw [show decide (b.md = x.md) = decide (x.md = b.md) from decide_eq_decide.2 eq_comm, show decide (b.nm = x.nm) = decide (x.nm = b.nm) from decide_eq_decide.2 eq_comm, show decide (b.tx = x.tx) = decide (x.tx = b.tx) from decide_eq_decide.2 eq_comm]
            generalize decide (x.md = b.md) = x1 at *
            generalize decide (x.nm = b.nm) = x3 at *
            generalize decide (x.tx = b.tx) = x4 at *
            clear hrow2 hrow hd hn h1 h2 hx hdk
            cases hex : eqBk b x
            · rw [hex, Bool.false_or] at hqk
              rw [hex] at e0
              replace e0 := e0.symm
              repeat' ((conv => whnf); first | refine hrw ?_ | rw [e1] | rw [e3] | rw [e4] | refine Gs.id ?_ | refine Brn.T (by (try simp only [smT]); first | rfl | omega | fail) ?_ | (refine Brn.mk (fun hb => ?_) (fun hb => ?_) <;> (try simp only [smT] at hb) <;> (try (exact absurd trivial hb)) <;> (try (exfalso; omega))) | refine Rng.mk (by (try simp only [smT]); omega) ?_ | refine Eqv.mk (by kernel_rfl) ?_ | refine Drw.of (T := tt) (i := 18) [] [] [(0, true), (1, true), (2, true), (3, true), (4, true), (5, true)] (by kernel_rfl) ?_ | (refine CL.mk (Or.inl ?_); (conv => whnf); refine Cl.is (ha _ _) rfl (by first | exact fun _ => rfl | fail) ?_) | fail)
              all_goals (conv => whnf)
              all_goals clear e1 e3 e4 hrw ha
              all_goals first | (exfalso; obtain ⟨q1, q2, q3, q4, _⟩ := hb; rw [q1, q2, q3, q4] at e0; simp at e0; done) | exact ⟨k + 1, ⟨by omega, hqk⟩, by omega, [(2, .k 2), (4, .k 4)], ⟨by (try dsimp only); (repeat (refine LeT.cons rfl (by first | exact LeS.d (by first | exact LeD.u rfl | exact LeD.p rfl | fail) | fail) ?_)); exact LeT.nil, by (try dsimp only); repeat (first | exact LeO.nil | refine LeO.bx rfl rfl (by repeat (first | exact LeL.nil | refine LeL.cons (by first | exact LeD.u rfl | fail) ?_)) ?_ | fail)⟩⟩
            · rw [hex, Bool.true_or] at hqk
              rw [hex] at e0
              replace e0 := e0.symm
              have hcd8 : cd = 8 := by rw [k6, hqk]; rfl
              rw [if_pos (by omega), hcd8]
              repeat' ((conv => whnf); first | refine hrw ?_ | rw [e1] | rw [e3] | rw [e4] | refine Gs.id ?_ | refine Brn.T (by (try simp only [smT]); first | rfl | omega | fail) ?_ | (refine Brn.mk (fun hb => ?_) (fun hb => ?_) <;> (try simp only [smT] at hb) <;> (try (exact absurd trivial hb)) <;> (try (exfalso; omega))) | refine Rng.mk (by (try simp only [smT]); omega) ?_ | refine Eqv.mk (by kernel_rfl) ?_ | refine Drw.of (T := tt) (i := 18) [] [] [(0, true), (1, true), (2, true), (3, true), (4, true), (5, true)] (by kernel_rfl) ?_ | (refine CL.mk (Or.inl ?_); (conv => whnf); refine Cl.is (ha _ _) rfl (by first | exact fun _ => rfl | fail) ?_) | fail)
              all_goals (conv => whnf)
              all_goals first | exact Ret.is rfl | (exfalso; clear e1 e3 e4 hrw ha; simp only [Bool.and_eq_true, decide_eq_true_eq] at e0; obtain ⟨q1, q2, q3, q4⟩ := e0; rw [q1, q2, q3, q4] at hb; simp at hb; done)
          · obtain rfl : k = i := by omega
            have hbf : bf.drop k = [] := List.drop_eq_nil_of_le (by omega)
            rw [hbf] at hqk
            have hcd0 : cd = 0 := by rw [k6, hqk]; rfl
            rw [if_neg (by omega)]
            clear hrow2 hrow hd hn h1 h2
            repeat' ((conv => whnf); first | refine Gs.id ?_ | refine Brn.F (by (try simp only [smT]); first | rfl | omega | fail) ?_ | refine Rng.mk (by (try simp only [smT]); omega) ?_ | fail)
            all_goals (conv => whnf)
            all_goals exact ⟨k + 1, ⟨by omega, rfl⟩, by omega, [(2, .k 2)], ⟨by (try dsimp only); (repeat (refine LeT.cons rfl (by first | exact LeS.d (by first | exact LeD.u rfl | exact LeD.p rfl | fail) | fail) ?_)); exact LeT.nil, by (try dsimp only); repeat (first | exact LeO.nil | refine LeO.bx rfl rfl (by repeat (first | exact LeL.nil | refine LeL.cons (by first | exact LeD.u rfl | fail) ?_)) ?_ | fail)⟩⟩
      · have hcn : cd ≠ 0 := fun h => hc8 (.inl h)
        rw [if_pos hcn]
        clear h08 hrow2
        repeat' ((conv => whnf); first | rw [h1] | rw [h2] | refine hrow ?_ | refine Gs.id ?_ | with_reducible refine Brn.T rfl ?_ | with_reducible refine Brn.F rfl ?_ | refine Brn.T (by (try simp only [smT]); first | rfl | assumption | omega | fail) ?_ | refine Brn.F (by (try simp only [smT]); first | rfl | assumption | fail) ?_ | (refine Brn.mk (fun hb => ?_) (fun hb => ?_) <;> (try simp only [smT] at hb) <;> (try (exact absurd trivial hb)) <;> (try (exfalso; omega))) | (refine Bnd.mk (fun hm => ?_); (try simp only [smT] at hm)) | (refine CL.mk (Or.inl ?_); (conv => whnf); first | refine Cl.is (hd) rfl (by first | exact fun _ => rfl | fail) ?_ | refine Cl.is (hn) rfl (by first | exact fun _ => rfl | fail) ?_ | refine Cl.is (ha _ _) rfl (by first | exact fun _ => rfl | fail) ?_) | fail)
        all_goals (conv => whnf)
        all_goals clear hd hn h1 h2 hrow ha
        all_goals first | (rw [show cd = 7 from by grind]; exact Ret.is rfl) | (rw [show cd = 4 from by grind]; exact Ret.is rfl) | (rw [show cd = 6 from by grind]; exact Ret.is rfl) | (rw [show cd = 3 from by grind]; exact Ret.is rfl) | (exfalso; grind)
    · obtain rfl : i = l.length := by omega
      rw [List.drop_length, bFrom]
      repeat' ((conv => whnf); first | refine Gs.id ?_ | refine Brn.F (by (try simp only [smT]); first | rfl | omega | fail) ?_ | (refine Bnd.mk (fun hm => ?_); (try simp only [smT] at hm)) | (refine CL.mk (Or.inl ?_); (conv => whnf); refine Cl.nl (by repeat (first | exact NlSs.nil | exact NlS.refl | refine NlSs.cons ?_ ?_ | fail)) (at_R 0 0) rfl (by first | exact fun _ => rfl | fail) ?_) | fail)
      all_goals (conv => whnf)
      all_goals exact Ret.is rfl
end Go.Proofs.YtabmcfnefjipbaaGreatDoor
namespace Go.Proofs.YtabmcfnefjipbaaGreatDoor
open Go.RowKit
/-- Which stops a command looks for. -/
def gB (b2 b3 b4 b6 b7 : Bool) (D : Int) (bs : List Bp) (e : Ev) : Bool := cond (b2 || b6) (decide (e.depth ≤ D)) (cond b3 (decide (e.depth < D)) (cond (b4 || b7) (bs.any (hitB e)) true))
/-- The best position so far. -/
def bestM (fw : Bool) (p : Int) (g : Ev → Bool) : List Ev → Nat → Int → Int
  | [], _, b => b
  | e :: r, i, b => bestM fw p g r (i + 1) (if e.kind = 1 ∧ g e = true ∧ cond fw (decide (p < (i : Int)) && decide ((i : Int) < b)) (decide ((i : Int) < p)) = true then (i : Int) else b)
def depR (l : List Ev) (p : Int) : Int := if 0 ≤ p ∧ p ≤ (l.length : Int) - 1 then (match l[p.toNat]? with | some e => e.depth | none => 0) else 100000
set_option maxHeartbeats 8000000 in
theorem movedF (l : List Ev) (bs : List Bp) (p : Int) (c : ByteArray) (he : ∀ e ∈ l, e.locs.length ≤ 9000000000) (hL : l.length ≤ 9000000000) (hB : bs.length ≤ 9000000000) (b1 b2 b3 b4 b5 b6 b7 : Bool)
    (e1 : (c.toList == stepK.toList) = b1) (e2 : (c.toList == overK.toList) = b2) (e3 : (c.toList == outK'.toList) = b3) (e4 : (c.toList == goK.toList) = b4) (e5 : (c.toList == backK.toList) = b5) (e6 : (c.toList == underK.toList) = b6) (e7 : (c.toList == rewindK.toList) = b7)
    (hx : (b1 = true ∧ b2 = false ∧ b3 = false ∧ b4 = false ∧ b5 = false ∧ b6 = false ∧ b7 = false) ∨ (b1 = false ∧ b2 = true ∧ b3 = false ∧ b4 = false ∧ b5 = false ∧ b6 = false ∧ b7 = false) ∨ (b1 = false ∧ b2 = false ∧ b3 = true ∧ b4 = false ∧ b5 = false ∧ b6 = false ∧ b7 = false) ∨ (b1 = false ∧ b2 = false ∧ b3 = false ∧ b4 = true ∧ b5 = false ∧ b6 = false ∧ b7 = false)) :
    CallsA Tryz.prog 22 [.d (.u (evs l)), .d (.u (bks bs)), di p, dsr c] [] (Is (.t [.d (.u (.int .i64 (bestM true p (gB b2 b3 b4 b6 b7 (depR l p) bs) l 0 (l.length : Int)))), .d (.u (.bool true))])) := by
  have hin := in_R p 0 (((l.map Ev.row).length : Int) - 1)
  have hlm : (l.map Ev.row).length = l.length := by simp
  have hlz : ((l.map Ev.row).length : Int) = (l.length : Int) := by simp
  refine callsA_of_vc (T := tt) Tryz.func22 rfl rfl rfl rfl rfl ?_
  refine' cutR (fun _ : Unit => True) (fun _ => ⟨[(0, .d (.u (evs l))), (1, .d (.u (bks bs))), (2, di p), (3, dsr c), (10, di (depR l p))], []⟩) _ (fun hR => ?_) ?_
  rotate_left
  · by_cases hp : 0 ≤ p ∧ p ≤ (l.length : Int) - 1
    · have hd : depR l p = (match l[p.toNat]? with | some e => e.depth | none => 0) := by rw [depR, if_pos hp]
      rw [decide_eq_true (by rw [hlm]; exact hp)] at hin
      obtain ⟨m, hm'⟩ : ∃ m : Nat, p = m := ⟨p.toNat, by omega⟩
      have hml : m < l.length := by omega
      have hpm : p.toNat = m := by omega
      rw [hpm, List.getElem?_eq_getElem hml] at hd
      have hrow : ∀ {K : List V → Prop}, K (l[m]).row → Ix (l.map Ev.row) p K := fun k => by rw [hm']; exact Ix.map rfl hml k
      generalize l[m] = x at *
      dsimp only at hd
      repeat' ((conv => whnf); first | refine hrow ?_ | (exact Gs.cut (i := 4) (by assumption) () [] rfl ⟨by (try dsimp only); (repeat (refine LeT.cons rfl (by first | exact LeS.d (by first | exact LeD.u rfl | exact LeD.u (by simp [hd]; done) | fail) | fail) ?_)); (first | exact LeT.nil | fail), by (try dsimp only); (repeat (first | exact LeO.nil | fail)); done⟩ (by trivial)) | refine Gs.id ?_ | with_reducible refine Brn.T rfl ?_ | (refine Bnd.mk (fun hm => ?_); (try simp only [smT] at hm)) | refine Rng.mk (by (try simp only [smT]); omega) ?_ | (refine CL.mk (Or.inl ?_); (conv => whnf); refine Cl.is (hin) rfl (by first | exact fun _ => rfl | fail) ?_) | fail)
    · have hd : depR l p = 100000 := by rw [depR, if_neg hp]
      rw [decide_eq_false (by rw [hlm]; exact hp)] at hin
      repeat' ((conv => whnf); first | (exact Gs.cut (i := 4) (by assumption) () [] rfl ⟨by (try dsimp only); (repeat (refine LeT.cons rfl (by first | exact LeS.d (by first | exact LeD.u rfl | exact LeD.u (by simp [hd]; done) | fail) | fail) ?_)); (first | exact LeT.nil | fail), by (try dsimp only); (repeat (first | exact LeO.nil | fail)); done⟩ (by trivial)) | refine Gs.id ?_ | with_reducible refine Brn.F rfl ?_ | (refine Bnd.mk (fun hm => ?_); (try simp only [smT] at hm)) | refine Rng.mk (by (try simp only [smT]); omega) ?_ | (refine CL.mk (Or.inl ?_); (conv => whnf); refine Cl.is (hin) rfl (by first | exact fun _ => rfl | fail) ?_) | fail)
  · intro _ _
    dsimp only
    generalize depR l p = D at *
    clear hin
    obtain ⟨g, hg⟩ : ∃ g, gB b2 b3 b4 b6 b7 D bs = g := ⟨_, rfl⟩
    rw [hg]
    rcases hx with ⟨rfl, rfl, rfl, rfl, rfl, rfl, rfl⟩ | ⟨rfl, rfl, rfl, rfl, rfl, rfl, rfl⟩ | ⟨rfl, rfl, rfl, rfl, rfl, rfl, rfl⟩ | ⟨rfl, rfl, rfl, rfl, rfl, rfl, rfl⟩
    all_goals
      repeat' ((conv => whnf); first | rw [e1] | rw [e2] | rw [e3] | rw [e4] | refine Gs.id ?_ | with_reducible refine Brn.T rfl ?_ | with_reducible refine Brn.F rfl ?_ | (refine Bnd.mk (fun hm => ?_); (try simp only [smT] at hm)) | fail)
      all_goals (conv => whnf)
      refine ⟨⟨Nat × Int, fun x => x.1 ≤ l.length ∧ bestM true p g l 0 (l.length : Int) = bestM true p g (l.drop x.1) x.1 x.2, fun x => l.length - x.1, fun x => ⟨[(0, .d (.u (evs l))), (1, .d (.u (bks bs))), (2, di p), (3, dsr c), (10, di D), (11, db true), (12, di x.2), (13, di x.1)], []⟩, (0, (l.length : Int)), ⟨Nat.zero_le _, rfl⟩, ⟨[], ⟨by (try dsimp only); (repeat (refine LeT.cons rfl (by first | exact LeS.d (by first | exact LeD.u rfl | exact LeD.u (by simp [hlz]; done) | fail) | fail) ?_)); exact LeT.nil, by (try dsimp only); repeat (first | exact LeO.nil | fail)⟩⟩, fun x hx => ?_⟩⟩
      obtain ⟨i, b⟩ := x
      obtain ⟨hi, hq⟩ := hx
      dsimp only at hi hq ⊢
      rw [hq]
      by_cases h9 : i < l.length
      · have hhit := hit_R l[i] bs (he _ (List.getElem_mem h9)) hB
        rw [List.drop_eq_getElem_cons h9, bestM]
        have hrow : ∀ {K : List V → Prop} {j : Int}, j = (i : Int) → K (l[i]).row → Ix (l.map Ev.row) j K := fun h k => by subst h; exact Ix.map rfl h9 k
        generalize l[i] = e at *
        have hge := congrFun hg e
        by_cases hCC : (e.kind = 1 ∧ g e = true ∧ cond true (decide (p < (i : Int)) && decide ((i : Int) < b)) (decide ((i : Int) < p)) = true)
        · rw [if_pos hCC]
          rw [← hge] at hCC
          clear hge hq
          simp only [gB, Bool.or_false, Bool.false_or, Bool.or_true, Bool.true_or, cond_true, cond_false, Bool.and_eq_true, decide_eq_true_eq, true_and] at hCC
          generalize bs.any (hitB e) = ht at *
          repeat' ((conv => whnf); first | refine hrow rfl ?_ | rw [e2] | rw [e3] | rw [e4] | rw [e6] | rw [e7] | refine Gs.id ?_ | with_reducible refine Brn.T rfl ?_ | with_reducible refine Brn.F rfl ?_ | refine Brn.T (by (try simp only [smT]); first | rfl | omega | (simp only [*]; done) | fail) ?_ | (refine Bnd.mk (fun hm => ?_); (try simp only [smT] at hm)) | refine Rng.mk (by (try simp only [smT]); omega) ?_ | (refine CL.mk (Or.inl ?_); (conv => whnf); refine Cl.is (hhit) rfl (by first | exact fun _ => rfl | fail) ?_) | fail)
          all_goals (conv => whnf)
          all_goals first | (exfalso; clear hhit hrow e1 e2 e3 e4 e5 e6 e7 he; simp_all; done) | (exfalso; clear hhit hrow e1 e2 e3 e4 e5 e6 e7 he; simp_all; omega) | exact ⟨(i + 1, (i : Int)), ⟨by omega, rfl⟩, by dsimp only; omega, [], ⟨by (try dsimp only); (repeat (refine LeT.cons rfl (by first | exact LeS.d (by first | exact LeD.u rfl | fail) | fail) ?_)); exact LeT.nil, by (try dsimp only); repeat (first | exact LeO.nil | fail)⟩⟩
        · rw [if_neg hCC]
          rw [← hge] at hCC
          clear hge hq
          simp only [gB, Bool.or_false, Bool.false_or, Bool.or_true, Bool.true_or, cond_true, cond_false, Bool.and_eq_true, decide_eq_true_eq, true_and] at hCC
          generalize bs.any (hitB e) = ht at *
          repeat' ((conv => whnf); first | refine hrow rfl ?_ | rw [e2] | rw [e3] | rw [e4] | rw [e6] | rw [e7] | refine Gs.id ?_ | with_reducible refine Brn.T rfl ?_ | with_reducible refine Brn.F rfl ?_ | refine Brn.T (by (try simp only [smT]); first | rfl | assumption | omega | fail) ?_ | refine Brn.F (by (try simp only [smT]); first | rfl | assumption | omega | fail) ?_ | (refine Brn.mk (fun hb => ?_) (fun hb => ?_) <;> (try simp only [smT] at hb) <;> (try (exact absurd trivial hb)) <;> (try (exfalso; omega))) | (refine Bnd.mk (fun hm => ?_); (try simp only [smT] at hm)) | refine Rng.mk (by (try simp only [smT]); omega) ?_ | (refine CL.mk (Or.inl ?_); (conv => whnf); refine Cl.is (hhit) rfl (by first | exact fun _ => rfl | fail) ?_) | fail)
          all_goals (conv => whnf)
          all_goals first | (exfalso; clear hhit hrow e1 e2 e3 e4 e5 e6 e7 he; simp_all; done) | (exfalso; clear hhit hrow e1 e2 e3 e4 e5 e6 e7 he; simp_all; omega) | exact ⟨(i + 1, b), ⟨by omega, rfl⟩, by dsimp only; omega, [], ⟨by (try dsimp only); (repeat (refine LeT.cons rfl (by first | exact LeS.d (by first | exact LeD.u rfl | fail) | fail) ?_)); exact LeT.nil, by (try dsimp only); repeat (first | exact LeO.nil | fail)⟩⟩
      · obtain rfl : i = l.length := by omega
        rw [List.drop_length, bestM]
        repeat' ((conv => whnf); first | refine Gs.id ?_ | refine Brn.F (by (try simp only [smT]); first | rfl | omega | fail) ?_ | (refine Bnd.mk (fun hm => ?_); (try simp only [smT] at hm)) | fail)
        all_goals (conv => whnf)
        all_goals exact Ret.is rfl
set_option maxHeartbeats 8000000 in
theorem movedB (l : List Ev) (bs : List Bp) (p : Int) (c : ByteArray) (he : ∀ e ∈ l, e.locs.length ≤ 9000000000) (hL : l.length ≤ 9000000000) (hB : bs.length ≤ 9000000000) (b1 b2 b3 b4 b5 b6 b7 : Bool)
    (e1 : (c.toList == stepK.toList) = b1) (e2 : (c.toList == overK.toList) = b2) (e3 : (c.toList == outK'.toList) = b3) (e4 : (c.toList == goK.toList) = b4) (e5 : (c.toList == backK.toList) = b5) (e6 : (c.toList == underK.toList) = b6) (e7 : (c.toList == rewindK.toList) = b7)
    (hx : (b1 = false ∧ b2 = false ∧ b3 = false ∧ b4 = false ∧ b5 = true ∧ b6 = false ∧ b7 = false) ∨ (b1 = false ∧ b2 = false ∧ b3 = false ∧ b4 = false ∧ b5 = false ∧ b6 = true ∧ b7 = false) ∨ (b1 = false ∧ b2 = false ∧ b3 = false ∧ b4 = false ∧ b5 = false ∧ b6 = false ∧ b7 = true)) :
    CallsA Tryz.prog 22 [.d (.u (evs l)), .d (.u (bks bs)), di p, dsr c] [] (Is (.t [.d (.u (.int .i64 (bestM false p (gB b2 b3 b4 b6 b7 (depR l p) bs) l 0 (-1)))), .d (.u (.bool true))])) := by
  have hin := in_R p 0 (((l.map Ev.row).length : Int) - 1)
  have hlm : (l.map Ev.row).length = l.length := by simp
  have hlz : ((l.map Ev.row).length : Int) = (l.length : Int) := by simp
  refine callsA_of_vc (T := tt) Tryz.func22 rfl rfl rfl rfl rfl ?_
  refine' cutR (fun _ : Unit => True) (fun _ => ⟨[(0, .d (.u (evs l))), (1, .d (.u (bks bs))), (2, di p), (3, dsr c), (10, di (depR l p))], []⟩) _ (fun hR => ?_) ?_
  rotate_left
  · by_cases hp : 0 ≤ p ∧ p ≤ (l.length : Int) - 1
    · have hd : depR l p = (match l[p.toNat]? with | some e => e.depth | none => 0) := by rw [depR, if_pos hp]
      rw [decide_eq_true (by rw [hlm]; exact hp)] at hin
      obtain ⟨m, hm'⟩ : ∃ m : Nat, p = m := ⟨p.toNat, by omega⟩
      have hml : m < l.length := by omega
      have hpm : p.toNat = m := by omega
      rw [hpm, List.getElem?_eq_getElem hml] at hd
      have hrow : ∀ {K : List V → Prop}, K (l[m]).row → Ix (l.map Ev.row) p K := fun k => by rw [hm']; exact Ix.map rfl hml k
      generalize l[m] = x at *
      dsimp only at hd
      repeat' ((conv => whnf); first | refine hrow ?_ | (exact Gs.cut (i := 4) (by assumption) () [] rfl ⟨by (try dsimp only); (repeat (refine LeT.cons rfl (by first | exact LeS.d (by first | exact LeD.u rfl | exact LeD.u (by simp [hd]; done) | fail) | fail) ?_)); (first | exact LeT.nil | fail), by (try dsimp only); (repeat (first | exact LeO.nil | fail)); done⟩ (by trivial)) | refine Gs.id ?_ | with_reducible refine Brn.T rfl ?_ | (refine Bnd.mk (fun hm => ?_); (try simp only [smT] at hm)) | refine Rng.mk (by (try simp only [smT]); omega) ?_ | (refine CL.mk (Or.inl ?_); (conv => whnf); refine Cl.is (hin) rfl (by first | exact fun _ => rfl | fail) ?_) | fail)
    · have hd : depR l p = 100000 := by rw [depR, if_neg hp]
      rw [decide_eq_false (by rw [hlm]; exact hp)] at hin
      repeat' ((conv => whnf); first | (exact Gs.cut (i := 4) (by assumption) () [] rfl ⟨by (try dsimp only); (repeat (refine LeT.cons rfl (by first | exact LeS.d (by first | exact LeD.u rfl | exact LeD.u (by simp [hd]; done) | fail) | fail) ?_)); (first | exact LeT.nil | fail), by (try dsimp only); (repeat (first | exact LeO.nil | fail)); done⟩ (by trivial)) | refine Gs.id ?_ | with_reducible refine Brn.F rfl ?_ | (refine Bnd.mk (fun hm => ?_); (try simp only [smT] at hm)) | refine Rng.mk (by (try simp only [smT]); omega) ?_ | (refine CL.mk (Or.inl ?_); (conv => whnf); refine Cl.is (hin) rfl (by first | exact fun _ => rfl | fail) ?_) | fail)
  · intro _ _
    dsimp only
    generalize depR l p = D at *
    clear hin
    obtain ⟨g, hg⟩ : ∃ g, gB b2 b3 b4 b6 b7 D bs = g := ⟨_, rfl⟩
    rw [hg]
    rcases hx with ⟨rfl, rfl, rfl, rfl, rfl, rfl, rfl⟩ | ⟨rfl, rfl, rfl, rfl, rfl, rfl, rfl⟩ | ⟨rfl, rfl, rfl, rfl, rfl, rfl, rfl⟩
    all_goals
      repeat' ((conv => whnf); first | rw [e1] | rw [e2] | rw [e3] | rw [e4] | rw [e5] | rw [e6] | rw [e7] | refine Gs.id ?_ | with_reducible refine Brn.T rfl ?_ | with_reducible refine Brn.F rfl ?_ | fail)
      all_goals (conv => whnf)
      refine ⟨⟨Nat × Int, fun x => x.1 ≤ l.length ∧ bestM false p g l 0 (-1) = bestM false p g (l.drop x.1) x.1 x.2, fun x => l.length - x.1, fun x => ⟨[(0, .d (.u (evs l))), (1, .d (.u (bks bs))), (2, di p), (3, dsr c), (10, di D), (11, db false), (12, di x.2), (13, di x.1)], []⟩, (0, (-1)), ⟨Nat.zero_le _, rfl⟩, ⟨[], ⟨by (try dsimp only); (repeat (refine LeT.cons rfl (by first | exact LeS.d (by first | exact LeD.u rfl | fail) | fail) ?_)); exact LeT.nil, by (try dsimp only); repeat (first | exact LeO.nil | fail)⟩⟩, fun x hx => ?_⟩⟩
      obtain ⟨i, b⟩ := x
      obtain ⟨hi, hq⟩ := hx
      dsimp only at hi hq ⊢
      rw [hq]
      by_cases h9 : i < l.length
      · have hhit := hit_R l[i] bs (he _ (List.getElem_mem h9)) hB
        rw [List.drop_eq_getElem_cons h9, bestM]
        have hrow : ∀ {K : List V → Prop} {j : Int}, j = (i : Int) → K (l[i]).row → Ix (l.map Ev.row) j K := fun h k => by subst h; exact Ix.map rfl h9 k
        generalize l[i] = e at *
        have hge := congrFun hg e
        by_cases hCC : (e.kind = 1 ∧ g e = true ∧ cond false (decide (p < (i : Int)) && decide ((i : Int) < b)) (decide ((i : Int) < p)) = true)
        · rw [if_pos hCC]
          rw [← hge] at hCC
          clear hge hq
          simp only [gB, Bool.or_false, Bool.false_or, Bool.or_true, Bool.true_or, cond_true, cond_false, Bool.and_eq_true, decide_eq_true_eq, true_and] at hCC
          generalize bs.any (hitB e) = ht at *
          repeat' ((conv => whnf); first | refine hrow rfl ?_ | rw [e2] | rw [e3] | rw [e4] | rw [e6] | rw [e7] | refine Gs.id ?_ | with_reducible refine Brn.T rfl ?_ | with_reducible refine Brn.F rfl ?_ | refine Brn.T (by (try simp only [smT]); first | rfl | omega | (simp only [*]; done) | fail) ?_ | (refine Bnd.mk (fun hm => ?_); (try simp only [smT] at hm)) | refine Rng.mk (by (try simp only [smT]); omega) ?_ | (refine CL.mk (Or.inl ?_); (conv => whnf); refine Cl.is (hhit) rfl (by first | exact fun _ => rfl | fail) ?_) | fail)
          all_goals (conv => whnf)
          all_goals first | (exfalso; clear hhit hrow e1 e2 e3 e4 e5 e6 e7 he; simp_all; done) | (exfalso; clear hhit hrow e1 e2 e3 e4 e5 e6 e7 he; simp_all; omega) | exact ⟨(i + 1, (i : Int)), ⟨by omega, rfl⟩, by dsimp only; omega, [], ⟨by (try dsimp only); (repeat (refine LeT.cons rfl (by first | exact LeS.d (by first | exact LeD.u rfl | fail) | fail) ?_)); exact LeT.nil, by (try dsimp only); repeat (first | exact LeO.nil | fail)⟩⟩
        · rw [if_neg hCC]
          rw [← hge] at hCC
          clear hge hq
          simp only [gB, Bool.or_false, Bool.false_or, Bool.or_true, Bool.true_or, cond_true, cond_false, Bool.and_eq_true, decide_eq_true_eq, true_and] at hCC
          generalize bs.any (hitB e) = ht at *
          repeat' ((conv => whnf); first | refine hrow rfl ?_ | rw [e2] | rw [e3] | rw [e4] | rw [e6] | rw [e7] | refine Gs.id ?_ | with_reducible refine Brn.T rfl ?_ | with_reducible refine Brn.F rfl ?_ | refine Brn.T (by (try simp only [smT]); first | rfl | assumption | omega | fail) ?_ | refine Brn.F (by (try simp only [smT]); first | rfl | assumption | omega | fail) ?_ | (refine Brn.mk (fun hb => ?_) (fun hb => ?_) <;> (try simp only [smT] at hb) <;> (try (exact absurd trivial hb)) <;> (try (exfalso; omega))) | (refine Bnd.mk (fun hm => ?_); (try simp only [smT] at hm)) | refine Rng.mk (by (try simp only [smT]); omega) ?_ | (refine CL.mk (Or.inl ?_); (conv => whnf); refine Cl.is (hhit) rfl (by first | exact fun _ => rfl | fail) ?_) | fail)
          all_goals (conv => whnf)
          all_goals first | (exfalso; clear hhit hrow e1 e2 e3 e4 e5 e6 e7 he; simp_all; done) | (exfalso; clear hhit hrow e1 e2 e3 e4 e5 e6 e7 he; simp_all; omega) | exact ⟨(i + 1, b), ⟨by omega, rfl⟩, by dsimp only; omega, [], ⟨by (try dsimp only); (repeat (refine LeT.cons rfl (by first | exact LeS.d (by first | exact LeD.u rfl | fail) | fail) ?_)); exact LeT.nil, by (try dsimp only); repeat (first | exact LeO.nil | fail)⟩⟩
      · obtain rfl : i = l.length := by omega
        rw [List.drop_length, bestM]
        repeat' ((conv => whnf); first | refine Gs.id ?_ | refine Brn.F (by (try simp only [smT]); first | rfl | omega | fail) ?_ | (refine Bnd.mk (fun hm => ?_); (try simp only [smT] at hm)) | fail)
        all_goals (conv => whnf)
        all_goals exact Ret.is rfl
end Go.Proofs.YtabmcfnefjipbaaGreatDoor
namespace Go.Proofs.YtabmcfnefjipbaaGreatDoor
open Go.RowKit
theorem best_past {p : Int} {g : Ev → Bool} : ∀ (r : List Ev) (i : Nat) (b : Int), b ≤ i → bestM true p g r i b = b
  | [], _, _, _ => rfl
  | e :: r, i, b, h => by
    rw [bestM, if_neg (by rintro ⟨_, _, h3⟩; simp at h3; omega)]
    exact best_past r (i + 1) b (by omega)
theorem best_first {p : Int} {g : Ev → Bool} : ∀ (r : List Ev) (i : Nat) (b : Int), p < i → b = (i : Int) + r.length → bestM true p g r i b = fwL g r i
  | [], i, b, _, hb => by rw [bestM, fwL, hb]; simp
  | e :: r, i, b, hp, hb => by
    rw [List.length_cons] at hb
    rw [bestM, fwL]
    by_cases hc : e.kind = 1 ∧ g e = true
    · rw [if_pos ⟨hc.1, hc.2, by simp; omega⟩, if_pos hc]
      exact best_past r (i + 1) i (by omega)
    · rw [if_neg (fun h => hc ⟨h.1, h.2.1⟩), if_neg hc]
      exact best_first r (i + 1) b (by omega) (by omega)
theorem best_skip {p : Int} {g : Ev → Bool} {l : List Ev} {b : Int} : ∀ (n i : Nat), l.length - i = n → (i : Int) ≤ p + 1 → bestM true p g (l.drop i) i b = bestM true p g (l.drop (p + 1).toNat) (p + 1).toNat b
  | n, i, hn, hi => by
    by_cases h1 : (i : Int) = p + 1
    · rw [show (p + 1).toNat = i by omega]
    · by_cases h9 : i < l.length
      · rw [List.drop_eq_getElem_cons h9, bestM, if_neg (by rintro ⟨_, _, h3⟩; simp at h3; omega)]
        cases n with
        | zero => omega
        | succ n => exact best_skip n (i + 1) (by omega) (by omega)
      · rw [List.drop_eq_nil_of_le (by omega), List.drop_eq_nil_of_le (by omega), bestM, bestM]
theorem best_fw {p : Int} {g : Ev → Bool} {l : List Ev} (hp : -1 ≤ p ∧ p ≤ (l.length : Int)) : bestM true p g l 0 (l.length : Int) = mvM g l 1 (p + 1) := by
  have h := best_skip (p := p) (g := g) (l := l) (b := (l.length : Int)) l.length 0 (by omega) (by omega)
  rw [List.drop_zero] at h
  rw [h]
  unfold mvM
  by_cases h1 : 0 ≤ p + 1 ∧ p + 1 < (l.length : Int)
  · rw [if_pos h1, if_pos rfl]
    exact best_first _ _ _ (by omega) (by rw [List.length_drop]; omega)
  · rw [if_neg h1, List.drop_eq_nil_of_le (by omega), bestM, clampM]
    omega
theorem best_bw0 {p : Int} {g : Ev → Bool} {l : List Ev} : ∀ (n i : Nat), l.length - i = n → i ≤ l.length → bestM false p g (l.drop i) i (bwL g l (min i p.toNat)) = bwL g l (min l.length p.toNat)
  | n, i, hn, hi => by
    by_cases h9 : i < l.length
    · have he : l[i]? = some l[i] := List.getElem?_eq_getElem h9
      rw [List.drop_eq_getElem_cons h9, bestM]
      have hb : (if l[i].kind = 1 ∧ g l[i] = true ∧ cond false (decide (p < (i : Int)) && decide ((i : Int) < bwL g l (min i p.toNat))) (decide ((i : Int) < p)) = true then (i : Int) else bwL g l (min i p.toNat)) = bwL g l (min (i + 1) p.toNat) := by
        by_cases hp : (i : Int) < p
        · rw [show min (i + 1) p.toNat = i + 1 by omega, show min i p.toNat = i by omega, bwL, he]
          dsimp only [cond_false]
          by_cases hc : l[i].kind = 1 ∧ g l[i] = true
          · rw [if_pos ⟨hc.1, hc.2, by simpa using hp⟩, if_pos hc]
          · rw [if_neg (fun h => hc ⟨h.1, h.2.1⟩), if_neg hc]
        · rw [if_neg (by rintro ⟨_, _, h3⟩; simp at h3; omega), show min (i + 1) p.toNat = min i p.toNat by omega]
      rw [hb]
      cases n with
      | zero => omega
      | succ n => exact best_bw0 n (i + 1) (by omega) (by omega)
    · rw [List.drop_eq_nil_of_le (by omega), bestM, show i = l.length by omega]
theorem best_bw {p : Int} {g : Ev → Bool} {l : List Ev} (hp : -1 ≤ p ∧ p ≤ (l.length : Int)) : bestM false p g l 0 (-1) = mvM g l (-1) (p + -1) := by
  have h := best_bw0 (p := p) (g := g) (l := l) l.length 0 (by omega) (by omega)
  rw [List.drop_zero, show min 0 p.toNat = 0 by omega, bwL] at h
  rw [h]
  unfold mvM
  by_cases h1 : 0 ≤ p + -1 ∧ p + -1 < (l.length : Int)
  · rw [if_pos h1, if_neg (by omega), show min l.length p.toNat = (p + -1).toNat + 1 by omega]
  · rw [if_neg h1, show min l.length p.toNat = 0 by omega, bwL, clampM]
    omega
theorem best_congr {fw : Bool} {p : Int} {g g' : Ev → Bool} : ∀ (r : List Ev) (i : Nat) (b : Int), (∀ e ∈ r, g e = g' e) → bestM fw p g r i b = bestM fw p g' r i b
  | [], _, _, _ => rfl
  | e :: r, i, b, h => by
    rw [bestM, bestM, h e (by simp)]
    exact best_congr r (i + 1) _ fun e he => h e (by simp [he])
/-- What the reference's Moved answers. -/
def movedM (l : List Ev) (bs : List Bp) (p : Int) (c : ByteArray) : Int × Bool :=
  if c = stepK then (bestM true p (gB false false false false false (depR l p) bs) l 0 (l.length : Int), true)
  else if c = overK then (bestM true p (gB true false false false false (depR l p) bs) l 0 (l.length : Int), true)
  else if c = outK' then (bestM true p (gB false true false false false (depR l p) bs) l 0 (l.length : Int), true)
  else if c = goK then (bestM true p (gB false false true false false (depR l p) bs) l 0 (l.length : Int), true)
  else if c = backK then (bestM false p (gB false false false false false (depR l p) bs) l 0 (-1), true)
  else if c = underK then (bestM false p (gB false false false true false (depR l p) bs) l 0 (-1), true)
  else if c = rewindK then (bestM false p (gB false false false false true (depR l p) bs) l 0 (-1), true) else (0, false)
theorem moved_R (l : List Ev) (bs : List Bp) (p : Int) (c : ByteArray) (he : ∀ e ∈ l, e.locs.length ≤ 9000000000) (hL : l.length ≤ 9000000000) (hB : bs.length ≤ 9000000000) :
    CallsA Tryz.prog 22 [.d (.u (evs l)), .d (.u (bks bs)), di p, dsr c] [] (Is (.t [.d (.u (.int .i64 (movedM l bs p c).1)), .d (.u (.bool (movedM l bs p c).2))])) := by
  have q : ∀ k : ByteArray, (c.toList == k.toList) = decide (c = k) := fun k => toList_beq c k
  unfold movedM
  by_cases h1 : c = stepK
  · rw [if_pos h1]
    exact movedF l bs p c he hL hB true false false false false false false (by rw [q, h1]; decide) (by rw [q, h1]; decide) (by rw [q, h1]; decide) (by rw [q, h1]; decide) (by rw [q, h1]; decide) (by rw [q, h1]; decide) (by rw [q, h1]; decide) (by simp)
  rw [if_neg h1]
  by_cases h2 : c = overK
  · rw [if_pos h2]
    exact movedF l bs p c he hL hB false true false false false false false (by rw [q, h2]; decide) (by rw [q, h2]; decide) (by rw [q, h2]; decide) (by rw [q, h2]; decide) (by rw [q, h2]; decide) (by rw [q, h2]; decide) (by rw [q, h2]; decide) (by simp)
  rw [if_neg h2]
  by_cases h3 : c = outK'
  · rw [if_pos h3]
    exact movedF l bs p c he hL hB false false true false false false false (by rw [q, h3]; decide) (by rw [q, h3]; decide) (by rw [q, h3]; decide) (by rw [q, h3]; decide) (by rw [q, h3]; decide) (by rw [q, h3]; decide) (by rw [q, h3]; decide) (by simp)
  rw [if_neg h3]
  by_cases h4 : c = goK
  · rw [if_pos h4]
    exact movedF l bs p c he hL hB false false false true false false false (by rw [q, h4]; decide) (by rw [q, h4]; decide) (by rw [q, h4]; decide) (by rw [q, h4]; decide) (by rw [q, h4]; decide) (by rw [q, h4]; decide) (by rw [q, h4]; decide) (by simp)
  rw [if_neg h4]
  by_cases h5 : c = backK
  · rw [if_pos h5]
    exact movedB l bs p c he hL hB false false false false true false false (by rw [q, h5]; decide) (by rw [q, h5]; decide) (by rw [q, h5]; decide) (by rw [q, h5]; decide) (by rw [q, h5]; decide) (by rw [q, h5]; decide) (by rw [q, h5]; decide) (by simp)
  rw [if_neg h5]
  by_cases h6 : c = underK
  · rw [if_pos h6]
    exact movedB l bs p c he hL hB false false false false false true false (by rw [q, h6]; decide) (by rw [q, h6]; decide) (by rw [q, h6]; decide) (by rw [q, h6]; decide) (by rw [q, h6]; decide) (by rw [q, h6]; decide) (by rw [q, h6]; decide) (by simp)
  rw [if_neg h6]
  by_cases h7 : c = rewindK
  · rw [if_pos h7]
    exact movedB l bs p c he hL hB false false false false false false true (by rw [q, h7]; decide) (by rw [q, h7]; decide) (by rw [q, h7]; decide) (by rw [q, h7]; decide) (by rw [q, h7]; decide) (by rw [q, h7]; decide) (by rw [q, h7]; decide) (by simp)
  rw [if_neg h7]
  have e1 := (q stepK).trans (decide_eq_false h1)
  have e2 := (q overK).trans (decide_eq_false h2)
  have e3 := (q outK').trans (decide_eq_false h3)
  have e4 := (q goK).trans (decide_eq_false h4)
  have e5 := (q backK).trans (decide_eq_false h5)
  have e6 := (q underK).trans (decide_eq_false h6)
  have e7 := (q rewindK).trans (decide_eq_false h7)
  have hin := in_R p 0 (((l.map Ev.row).length : Int) - 1)
  have hlm : (l.map Ev.row).length = l.length := by simp
  clear he q
  by_cases hp : 0 ≤ p ∧ p ≤ (l.length : Int) - 1
  · rw [decide_eq_true (by rw [hlm]; exact hp)] at hin
    obtain ⟨m, hm'⟩ : ∃ m : Nat, p = m := ⟨p.toNat, by omega⟩
    have hml : m < l.length := by omega
    have hrow : ∀ {K : List V → Prop}, K (l[m]).row → Ix (l.map Ev.row) p K := fun k => by rw [hm']; exact Ix.map rfl hml k
    generalize l[m] = x at *
    refine callsA_of_vc (T := tt) Tryz.func22 rfl rfl rfl rfl rfl ?_
    repeat' ((conv => whnf); first | refine hrow ?_ | rw [e1] | rw [e2] | rw [e3] | rw [e4] | rw [e5] | rw [e6] | rw [e7] | refine Gs.id ?_ | with_reducible refine Brn.T rfl ?_ | with_reducible refine Brn.F rfl ?_ | (refine Bnd.mk (fun hm => ?_); (try simp only [smT] at hm)) | refine Rng.mk (by (try simp only [smT]); omega) ?_ | (refine CL.mk (Or.inl ?_); (conv => whnf); refine Cl.is (hin) rfl (by first | exact fun _ => rfl | fail) ?_) | fail)
    all_goals (conv => whnf)
    all_goals exact Ret.is rfl
  · rw [decide_eq_false (by rw [hlm]; exact hp)] at hin
    refine callsA_of_vc (T := tt) Tryz.func22 rfl rfl rfl rfl rfl ?_
    repeat' ((conv => whnf); first | rw [e1] | rw [e2] | rw [e3] | rw [e4] | rw [e5] | rw [e6] | rw [e7] | refine Gs.id ?_ | with_reducible refine Brn.T rfl ?_ | with_reducible refine Brn.F rfl ?_ | (refine Bnd.mk (fun hm => ?_); (try simp only [smT] at hm)) | refine Rng.mk (by (try simp only [smT]); omega) ?_ | (refine CL.mk (Or.inl ?_); (conv => whnf); refine Cl.is (hin) rfl (by first | exact fun _ => rfl | fail) ?_) | fail)
    all_goals (conv => whnf)
    all_goals exact Ret.is rfl
theorem actAt_len {l : List Ev} : ∀ i, i ≤ l.length → (actAt l i).length ≤ i
  | 0, _ => by simp [actAt]
  | i + 1, h => by
    have he : l[i]? = some l[i] := List.getElem?_eq_getElem (by omega)
    have ih := actAt_len (l := l) i (by omega)
    rw [actAt_succ he]
    unfold actM pushM
    split <;> split <;> simp <;> omega
theorem depth_rng {l : List Ev} (hv : Vd l) {i : Nat} {e : Ev} (h : l[i]? = some e) : 1 ≤ e.depth ∧ e.depth ≤ (i : Int) + 1 := by
  have ok := hv.ok h
  have hi := (List.getElem?_eq_some_iff.1 h).1
  have hl := actAt_len (l := l) i (by omega)
  have hd := ok.depth
  have hn : pushM e (actAt l i) ≠ [] := fun h0 => by
    have := ok.last
    rw [h0] at this
    cases this
  have h1 := List.length_pos_iff.2 hn
  have h2 : (pushM e (actAt l i)).length ≤ (actAt l i).length + 1 := by
    unfold pushM
    split <;> simp
  omega
/-- Depths at a position: the program's and the reference's. -/
theorem dep_both {l : List Ev} (hv : Vd l) (hL : l.length ≤ 20000) {p : Int} (hp : -1 ≤ p ∧ p ≤ (l.length : Int)) : (depM l p = 0 ∧ depR l p = 100000) ∨ (depM l p ≠ 0 ∧ depR l p = depM l p) := by
  unfold depM depR
  by_cases h : 0 ≤ p ∧ p ≤ (l.length : Int) - 1
  · right
    rw [if_pos h, if_neg (by omega)]
    have he : l[p.toNat]? = some (l[p.toNat]'(by omega)) := List.getElem?_eq_getElem (by omega)
    have := depth_rng hv he
    rw [he]
    dsimp only
    exact ⟨by omega, rfl⟩
  · left
    rw [if_neg h, if_pos (by omega)]
    exact ⟨rfl, rfl⟩
/-- PLAIN LAW: the reference's Moved and the program's motions agree. -/
theorem moved_agree {l : List Ev} (hv : Vd l) (hL : l.length ≤ 20000) {p : Int} (hp : -1 ≤ p ∧ p ≤ (l.length : Int)) (bs : List Bp) (c : ByteArray) :
    movedM l bs p c = match cmdM (depM l p) bs c with
      | some (s, g) => (mvM g l s (p + s), true)
      | none => (0, false) := by
  have hd := dep_both hv hL hp
  have hr : ∀ e ∈ l, 1 ≤ e.depth ∧ e.depth ≤ 20001 := fun e he => by
    obtain ⟨i, hi⟩ := List.mem_iff_getElem?.1 he
    have h1 := depth_rng hv hi
    have := (List.getElem?_eq_some_iff.1 hi).1
    omega
  have lev : ∀ e ∈ l, (decide (e.depth ≤ depR l p)) = (decide (depM l p = 0) || decide (e.depth ≤ depM l p)) := fun e he => by
    have := hr e he
    rcases hd with ⟨h1, h2⟩ | ⟨h1, h2⟩
    · rw [h1, h2]; simp; omega
    · rw [h2]; simp [h1]
  have abv : ∀ e ∈ l, (decide (e.depth < depR l p)) = (decide (depM l p = 0) || decide (e.depth < depM l p)) := fun e he => by
    have := hr e he
    rcases hd with ⟨h1, h2⟩ | ⟨h1, h2⟩
    · rw [h1, h2]; simp; omega
    · rw [h2]; simp [h1]
  unfold movedM cmdM
  by_cases h1 : c = stepK
  · rw [if_pos h1, if_pos h1]
    show (_, true) = (mvM (fun _ => true) l 1 (p + 1), true)
    rw [← best_fw hp]
    exact congrArg (fun x => (x, true)) (best_congr l 0 _ fun e _ => rfl)
  rw [if_neg h1, if_neg h1]
  by_cases h2 : c = overK
  · rw [if_pos h2, if_pos h2]
    show (_, true) = (mvM (fun e => decide (depM l p = 0) || decide (e.depth ≤ depM l p)) l 1 (p + 1), true)
    rw [← best_fw hp]
    exact congrArg (fun x => (x, true)) (best_congr l 0 _ fun e he => lev e he)
  rw [if_neg h2, if_neg h2]
  by_cases h3 : c = outK'
  · rw [if_pos h3, if_pos h3]
    show (_, true) = (mvM (fun e => decide (depM l p = 0) || decide (e.depth < depM l p)) l 1 (p + 1), true)
    rw [← best_fw hp]
    exact congrArg (fun x => (x, true)) (best_congr l 0 _ fun e he => abv e he)
  rw [if_neg h3, if_neg h3]
  by_cases h4 : c = goK
  · rw [if_pos h4, if_pos h4]
    show (_, true) = (mvM (fun e => bs.any (hitB e)) l 1 (p + 1), true)
    rw [← best_fw hp]
    exact congrArg (fun x => (x, true)) (best_congr l 0 _ fun e _ => rfl)
  rw [if_neg h4, if_neg h4]
  by_cases h5 : c = backK
  · rw [if_pos h5, if_pos h5]
    show (_, true) = (mvM (fun _ => true) l (-1) (p + -1), true)
    rw [← best_bw hp]
    exact congrArg (fun x => (x, true)) (best_congr l 0 _ fun e _ => rfl)
  rw [if_neg h5, if_neg h5]
  by_cases h6 : c = underK
  · rw [if_pos h6, if_pos h6]
    show (_, true) = (mvM (fun e => decide (depM l p = 0) || decide (e.depth ≤ depM l p)) l (-1) (p + -1), true)
    rw [← best_bw hp]
    exact congrArg (fun x => (x, true)) (best_congr l 0 _ fun e he => lev e he)
  rw [if_neg h6, if_neg h6]
  by_cases h7 : c = rewindK
  · rw [if_pos h7, if_pos h7]
    show (_, true) = (mvM (fun e => bs.any (hitB e)) l (-1) (p + -1), true)
    rw [← best_bw hp]
    exact congrArg (fun x => (x, true)) (best_congr l 0 _ fun e _ => rfl)
  rw [if_neg h7, if_neg h7]
end Go.Proofs.YtabmcfnefjipbaaGreatDoor
namespace Go.Proofs.YtabmcfnefjipbaaGreatDoor
open Go.RowKit
set_option maxHeartbeats 4000000 in
theorem law_move_T (l : List Ev) (bs : List Bp) (p : Int) (c : ByteArray) (he : ∀ e ∈ l, e.locs.length ≤ 9000000000) (hsz : ∀ e ∈ l, e.md.size ≤ 1000000000000) (hsb : ∀ b ∈ bs, b.md.size ≤ 1000000000000) (hL : l.length ≤ 9000000000) (hB : bs.length ≤ 9000000000) (zt : Fz) (hz : Tab zt) :
    CallsA Tryz.prog 4 [.d (.u (evs l)), .d (.u (bks bs)), di p, dsr c] [(907, tbOb zt)] (Iso (db true) [(907, tbOb zt)]) := by
  have h1 := move_T l bs p c he
  have h2 := validateB_T bs
  have h3 := breaks_R bs hsb
  have h4 := trace_R l hsz
  have h5 := posF_R l p hL hsz
  have h6 := moved_R l bs p c he hL hB
  have h7 := at_R 7 (-3)
  have hst := stopped_T zt hz
  have hr := validB_rng bs
  by_cases v1 : (validM l).1 = 0
  · by_cases v2 : (validB bs).1 = 0
    · by_cases v3 : (posM l p).1 = 0
      · have hp : -1 ≤ p ∧ p ≤ (l.length : Int) := by
          unfold posM at v3
          rw [if_neg (by simpa using v1)] at v3
          split at v3
          · cases v3
          · omega
        have hag := moved_agree (valid_Vd v1).1 (valid_Vd v1).2 hp bs c
        have hmv : moveM l bs p c = match cmdM (depM l p) bs c with
            | some (s, g) => (mvM g l s (p + s), (0, 0))
            | none => (0, (7, -3)) := by
          unfold moveM
          rw [if_neg (by simpa using v1), if_neg (by simpa using v2), if_neg (by simpa using v3)]
          rfl
        rw [hmv] at h1
        rw [hag] at h6
        clear hag hmv hp
        generalize validM l = a1 at *
        generalize validB bs = a2 at *
        generalize posM l p = a3 at *
        obtain ⟨a1, c1⟩ := a1
        obtain ⟨a2, c2⟩ := a2
        obtain ⟨a3, c3⟩ := a3
        dsimp only at v1 v2 v3
        subst v1 v2 v3
        dsimp only at h2 h3 h4 h5
        clear he hsz hsb hr
        cases hc : cmdM (depM l p) bs c with
        | none =>
          rw [hc] at h1 h6
          dsimp only at h1 h6
          refine callsA_of_vcO (T := tt) Tryz.func4 rfl rfl rfl rfl rfl ?_
          repeat' ((conv => whnf); first | refine Gs.id ?_ | with_reducible refine Brn.T rfl ?_ | with_reducible refine Brn.F rfl ?_ | refine Brn.F (by (try simp only [smT]); first | rfl | (simp [*]; done) | fail) ?_ | refine Eqv.mk (by kernel_rfl) ?_ | (refine CL.mk (Or.inl ?_); (conv => whnf); first | refine Cl.is (h1) rfl (by first | exact fun _ => rfl | fail) ?_ | refine Cl.is (h2) rfl (by first | exact fun _ => rfl | fail) ?_ | refine Cl.is (h3) rfl (by first | exact fun _ => rfl | fail) ?_ | refine Cl.is (h4) rfl (by first | exact fun _ => rfl | fail) ?_ | refine Cl.is (h5) rfl (by first | exact fun _ => rfl | fail) ?_ | refine Cl.is (h6) rfl (by first | exact fun _ => rfl | fail) ?_ | refine Cl.is (h7) rfl (by first | exact fun _ => rfl | fail) ?_) | (refine CL.mk (Or.inr (Raw.callI [907] [907] rfl rfl rfl rfl rfl rfl rfl (hst) ?_)); rintro _ _ ⟨rfl, rfl⟩; refine Bk.mk rfl rfl ?_))
          all_goals (conv => whnf)
          all_goals refine RetO.mk ⟨[(907, .k 907)], _, _, (by first | exact LeS.d (by first | exact LeD.u rfl | fail) | fail), (by repeat (first | exact LeO.nil | refine LeO.ab rfl rfl (by repeat (first | exact LeL.nil | fail)) (by first | rfl | fail) ?_ | fail)), rfl, rfl⟩
        | some sg =>
          obtain ⟨s, g⟩ := sg
          rw [hc] at h1 h6
          dsimp only at h1 h6
          generalize mvM g l s (p + s) = q at *
          refine callsA_of_vcO (T := tt) Tryz.func4 rfl rfl rfl rfl rfl ?_
          repeat' ((conv => whnf); first | refine Gs.id ?_ | with_reducible refine Brn.T rfl ?_ | with_reducible refine Brn.F rfl ?_ | refine Brn.F (by (try simp only [smT]); first | rfl | (simp [*]; done) | fail) ?_ | (refine Brn.mk (fun hb => ?_) (fun hb => ?_) <;> (try simp only [smT] at hb) <;> (try (exact absurd trivial hb)) <;> (try (exfalso; omega))) | refine Eqv.mk (by kernel_rfl) ?_ | (refine CL.mk (Or.inl ?_); (conv => whnf); first | refine Cl.is (h1) rfl (by first | exact fun _ => rfl | fail) ?_ | refine Cl.is (h2) rfl (by first | exact fun _ => rfl | fail) ?_ | refine Cl.is (h3) rfl (by first | exact fun _ => rfl | fail) ?_ | refine Cl.is (h4) rfl (by first | exact fun _ => rfl | fail) ?_ | refine Cl.is (h5) rfl (by first | exact fun _ => rfl | fail) ?_ | refine Cl.is (h6) rfl (by first | exact fun _ => rfl | fail) ?_ | fail) | (refine CL.mk (Or.inr (Raw.callI [907] [907] rfl rfl rfl rfl rfl rfl rfl (hst) ?_)); rintro _ _ ⟨rfl, rfl⟩; refine Bk.mk rfl rfl ?_))
          all_goals (conv => whnf)
          all_goals refine RetO.mk ⟨[(907, .k 907)], _, _, (by first | exact LeS.d (by first | exact LeD.u rfl | fail) | fail), (by repeat (first | exact LeO.nil | refine LeO.ab rfl rfl (by repeat (first | exact LeL.nil | fail)) (by first | rfl | fail) ?_ | fail)), rfl, rfl⟩
      · have hmv : moveM l bs p c = (0, posM l p) := by
          unfold moveM
          rw [if_neg (by simpa using v1), if_neg (by simpa using v2), if_pos v3]
        rw [hmv] at h1
        clear hmv
        generalize validM l = a1 at *
        generalize validB bs = a2 at *
        generalize posM l p = a3 at *
        generalize movedM l bs p c = a4 at *
        obtain ⟨a1, c1⟩ := a1
        obtain ⟨a2, c2⟩ := a2
        obtain ⟨a3, c3⟩ := a3
        dsimp only at v1 v2 v3
        subst v1 v2
        dsimp only at h1 h2 h3 h4 h5
        clear he hsz hsb hr
        refine callsA_of_vcO (T := tt) Tryz.func4 rfl rfl rfl rfl rfl ?_
        repeat' ((conv => whnf); first | refine Gs.id ?_ | with_reducible refine Brn.T rfl ?_ | with_reducible refine Brn.F rfl ?_ | refine Brn.T (by (try simp only [smT]); first | rfl | assumption | (simp [*]; done) | fail) ?_ | refine Brn.F (by (try simp only [smT]); first | rfl | assumption | (simp [*]; done) | fail) ?_ | refine Eqv.mk (by kernel_rfl) ?_ | (refine CL.mk (Or.inl ?_); (conv => whnf); first | refine Cl.is (h1) rfl (by first | exact fun _ => rfl | fail) ?_ | refine Cl.is (h2) rfl (by first | exact fun _ => rfl | fail) ?_ | refine Cl.is (h3) rfl (by first | exact fun _ => rfl | fail) ?_ | refine Cl.is (h4) rfl (by first | exact fun _ => rfl | fail) ?_ | refine Cl.is (h5) rfl (by first | exact fun _ => rfl | fail) ?_ | refine Cl.is (h6) rfl (by first | exact fun _ => rfl | fail) ?_ | fail) | (refine CL.mk (Or.inr (Raw.callI [907] [907] rfl rfl rfl rfl rfl rfl rfl (hst) ?_)); rintro _ _ ⟨rfl, rfl⟩; refine Bk.mk rfl rfl ?_))
        all_goals (conv => whnf)
        all_goals refine RetO.mk ⟨[(907, .k 907)], _, _, (by first | exact LeS.d (by first | exact LeD.u rfl | fail) | fail), (by repeat (first | exact LeO.nil | refine LeO.ab rfl rfl (by repeat (first | exact LeL.nil | fail)) (by first | rfl | fail) ?_ | fail)), rfl, rfl⟩
    · have hmv : moveM l bs p c = (0, ((validB bs).1, (validB bs).2 + 100000)) := by
        unfold moveM
        rw [if_neg (by simpa using v1), if_pos v2]
      rw [hmv] at h1
      clear hmv h5
      generalize validM l = a1 at *
      generalize validB bs = a2 at *
      generalize movedM l bs p c = a4 at *
      obtain ⟨a1, c1⟩ := a1
      obtain ⟨a2, c2⟩ := a2
      dsimp only at v1 v2 hr
      subst v1
      dsimp only at h1 h2 h3 h4
      clear he hsz hsb
      refine callsA_of_vcO (T := tt) Tryz.func4 rfl rfl rfl rfl rfl ?_
      repeat' ((conv => whnf); first | refine Gs.id ?_ | with_reducible refine Brn.T rfl ?_ | with_reducible refine Brn.F rfl ?_ | refine Brn.T (by (try simp only [smT]); first | rfl | assumption | (simp [*]; done) | fail) ?_ | refine Brn.F (by (try simp only [smT]); first | rfl | assumption | (simp [*]; done) | fail) ?_ | refine Rng.mk (by (try simp only [smT]); omega) ?_ | refine Eqv.mk (by kernel_rfl) ?_ | (refine CL.mk (Or.inl ?_); (conv => whnf); first | refine Cl.is (h1) rfl (by first | exact fun _ => rfl | fail) ?_ | refine Cl.is (h2) rfl (by first | exact fun _ => rfl | fail) ?_ | refine Cl.is (h3) rfl (by first | exact fun _ => rfl | fail) ?_ | refine Cl.is (h4) rfl (by first | exact fun _ => rfl | fail) ?_ | refine Cl.is (h6) rfl (by first | exact fun _ => rfl | fail) ?_ | fail) | (refine CL.mk (Or.inr (Raw.callI [907] [907] rfl rfl rfl rfl rfl rfl rfl (hst) ?_)); rintro _ _ ⟨rfl, rfl⟩; refine Bk.mk rfl rfl ?_))
      all_goals (conv => whnf)
      all_goals refine RetO.mk ⟨[(907, .k 907)], _, _, (by first | exact LeS.d (by first | exact LeD.u rfl | fail) | fail), (by repeat (first | exact LeO.nil | refine LeO.ab rfl rfl (by repeat (first | exact LeL.nil | fail)) (by first | rfl | fail) ?_ | fail)), rfl, rfl⟩
  · have hmv : moveM l bs p c = (0, validM l) := by
      unfold moveM
      rw [if_pos v1]
    rw [hmv] at h1
    clear hmv h5
    generalize validM l = a1 at *
    generalize validB bs = a2 at *
    generalize movedM l bs p c = a4 at *
    obtain ⟨a1, c1⟩ := a1
    obtain ⟨a2, c2⟩ := a2
    dsimp only at v1
    dsimp only at h1 h2 h3 h4
    clear he hsz hsb hr
    refine callsA_of_vcO (T := tt) Tryz.func4 rfl rfl rfl rfl rfl ?_
    repeat' ((conv => whnf); first | refine Gs.id ?_ | with_reducible refine Brn.T rfl ?_ | with_reducible refine Brn.F rfl ?_ | refine Brn.T (by (try simp only [smT]); first | rfl | assumption | (simp [*]; done) | fail) ?_ | refine Brn.F (by (try simp only [smT]); first | rfl | assumption | (simp [*]; done) | fail) ?_ | refine Eqv.mk (by kernel_rfl) ?_ | (refine CL.mk (Or.inl ?_); (conv => whnf); first | refine Cl.is (h1) rfl (by first | exact fun _ => rfl | fail) ?_ | refine Cl.is (h2) rfl (by first | exact fun _ => rfl | fail) ?_ | refine Cl.is (h3) rfl (by first | exact fun _ => rfl | fail) ?_ | refine Cl.is (h4) rfl (by first | exact fun _ => rfl | fail) ?_ | refine Cl.is (h6) rfl (by first | exact fun _ => rfl | fail) ?_ | fail) | (refine CL.mk (Or.inr (Raw.callI [907] [907] rfl rfl rfl rfl rfl rfl rfl (hst) ?_)); rintro _ _ ⟨rfl, rfl⟩; refine Bk.mk rfl rfl ?_))
    all_goals (conv => whnf)
    all_goals refine RetO.mk ⟨[(907, .k 907)], _, _, (by first | exact LeS.d (by first | exact LeD.u rfl | fail) | fail), (by repeat (first | exact LeO.nil | refine LeO.ab rfl rfl (by repeat (first | exact LeL.nil | fail)) (by first | rfl | fail) ?_ | fail)), rfl, rfl⟩
end Go.Proofs.YtabmcfnefjipbaaGreatDoor
namespace Go.Proofs.YtabmcfnefjipbaaGreatDoor
open Go.ChangeShapes Go.WideShapes Go.ChangeAt Go.RowKit

section
variable {H : Type} {enc : TypeId × Value → H} {P : Program}

theorem trodAll_stays (hl : laidOutB P = true) {W W' : World} {sp' : Nat → Bool} : ∀ {ts : List TypeId} {vs : List Value} {ds : List (DataW H)} {ps : List MemPlace}, (∀ t ∈ ts, P.readableRec t = true ∧ t < P.types.size) →
    DataW.TrodAll enc P W 0 (fun _ => true) true ts vs ds ps → (∀ p ∈ ps, W.sameAt W' p) → (∀ p ∈ ps, sp' p.block = true) → DataW.TrodAll enc P W' 0 sp' true ts vs ds ps
  | [], [], [], _, _, h, _, _ => h
  | _ :: _, _ :: _, _ :: _, _, hT, ⟨p, q, h1, h2, e⟩, hm, hs =>
    ⟨p, q, WideElems.Trod_stays hl (hT _ (List.mem_cons.2 (Or.inl rfl))).1 (hT _ (List.mem_cons.2 (Or.inl rfl))).2 h1 (fun x hx => hm x (by rw [e]; exact List.mem_append_left _ hx)) (fun x hx => hs x (by rw [e]; exact List.mem_append_left _ hx)),
      trodAll_stays hl (fun t ht => hT t (List.mem_cons.2 (Or.inr ht))) h2 (fun x hx => hm x (by rw [e]; exact List.mem_append_right _ hx)) (fun x hx => hs x (by rw [e]; exact List.mem_append_right _ hx)), e⟩
  | [], [], _ :: _, _, _, h, _, _ => h.elim
  | [], _ :: _, _, _, _, h, _, _ => h.elim
  | _ :: _, [], _, _, _, h, _, _ => h.elim
  | _ :: _, _ :: _, [], _, _, h, _, _ => h.elim

/-- One closed fact: each parameter's type can be read and is a row of the table. -/
def paramsRead (P : Program) (fn : Func) : Bool := fn.params.toList.all fun t => P.readableRec t && decide (t < P.types.size)

theorem post_of_below {f : Func} {s : ChangeSpec} {apart fresh handsOn again : Bool} {W W' : World} {args : Array Value} {ds : List (DataW H)} {before : List MemPlace} {tb : TypeId}
    (hl : laidOutB P = true) (hT : paramsRead P f = true) (hres : f.resultTypes = #[tb]) (htb : P.underlying tb = some .bool) (hvars : s.vars = [])
    (hsp : s.fn H ds = { results := [.lit (.bool true)], args := ds })
    (hW : DataW.Whole enc P f.params.toList s.vars apart W args.toList ds [] before) (hb : Below W.heap.size W W') :
    s.post enc P f apart fresh handsOn again W args (.bool true) W' := by
  have hT' : ∀ t ∈ f.params.toList, P.readableRec t = true ∧ t < P.types.size := fun t ht => by
    have := List.all_eq_true.1 hT t ht
    simpa using this
  have hlt := hW.lt
  have hW' := hW
  obtain ⟨p, q, hA, hV, he, hz, hn⟩ := hW
  have hq : q = [] := by
    rw [hvars] at hV
    exact (trodVars_none hV).2
  subst hq
  rw [List.append_nil] at he
  subst he
  have hR : ∀ (b : Nat) (sp : Nat → Bool) (hd : Bool), DataW.TrodAll enc P W' b sp hd f.resultTypes.toList ((Value.bool true).resultList f.resultTypes.size) (s.fn H (ds ++ [])).results [] := by
    intro b sp hd
    rw [List.append_nil, hsp, hres]
    exact trodAll_mk1 (shut_bool htb _)
  have hG : ∀ sp : Nat → Bool, (∀ p' ∈ before, sp p'.block = true) → DataW.TrodAll enc P W' 0 sp true f.params.toList args.toList (s.fn H (ds ++ [])).args before := by
    intro sp h
    rw [List.append_nil, hsp]
    exact trodAll_stays hl hT' hA (fun x hx => hb.same (hlt x hx)) h
  have hU : ∀ sp : Nat → Bool, DataW.TrodVars enc P W' sp s.vars (s.fn H (ds ++ [])).vars [] := by
    intro sp
    rw [hvars, List.append_nil, hsp]
    rfl
  refine ⟨ds, [], before, [], before, [], hW', hR _ _ _, hG _ (fun x hx => by simpa using hlt x hx), hU _, hb.frame _, fun _ => ?_⟩
  refine ⟨ok_one hres rfl (okWide_bool_mk htb _), _, _, ([] ++ before) ++ [], ⟨[] ++ before, [], trodAll_append (hG _ (fun _ _ => rfl)) (hR _ _ _), hU _, rfl, ?_, ?_⟩, ?_⟩
  · intro b off hp
    have hp' := by simpa using hp
    rw [hb.frozen (hlt _ hp')]
    exact hz b off hp'
  · intro ha
    simpa using hn ha
  · intro x hx _
    simpa using hx
end

end Go.Proofs.YtabmcfnefjipbaaGreatDoor
namespace Go.Proofs.YtabmcfnefjipbaaGreatDoor
theorem bulk_one {H : Type} (d : DataW H) : 1 ≤ Rows.uptoBulk d := by
  cases d with
  | lit l => cases l <;> simp [Rows.uptoBulk]
  | nil => simp [Rows.uptoBulk]
  | ptr d => simp [Rows.uptoBulk]
  | slice elems spare => simp [Rows.uptoBulk]
  | agg parts => simp [Rows.uptoBulk]
  | iface t d => simp [Rows.uptoBulk]
  | map entries => simp [Rows.uptoBulk]
  | held h => simp [Rows.uptoBulk]
theorem bulk_len {H : Type} : ∀ (l : List (DataW H)), l.length ≤ Rows.uptoBulkAll l
  | [] => by simp [Rows.uptoBulkAll]
  | x :: r => by have := bulk_one x; have := bulk_len r; simp only [Rows.uptoBulkAll, List.length_cons]; omega
theorem bulk_entry {H : Type} (x : Lit × DataW H) : Rows.uptoBulk x.2 + 1 ≤ Rows.uptoBulkEntry x := by
  obtain ⟨l, d⟩ := x
  cases l <;> simp [Rows.uptoBulkEntry] <;> omega
theorem bulk_entries {H : Type} : ∀ (l : List (Lit × DataW H)), l.length ≤ Rows.uptoBulkEntries l
  | [] => by simp [Rows.uptoBulkEntries]
  | x :: r => by have := bulk_entry x; have := bulk_entries r; simp only [Rows.uptoBulkEntries, List.length_cons]; omega
theorem bulk_mem {H : Type} {d : DataW H} {l : List (DataW H)} (h : d ∈ l) : Rows.uptoBulk d ≤ Rows.uptoBulkAll l := by
  induction l with
  | nil => cases h
  | cons x r ih =>
    simp only [Rows.uptoBulkAll]
    rcases List.mem_cons.1 h with rfl | h
    · omega
    · have := ih h; omega
theorem le_of_mul {m a b C : Nat} (h : m ≤ a * C) (hab : a ≤ b) : m ≤ b * C := Nat.le_trans h (Nat.mul_le_mul_right C hab)
/-- The types of a type's parts are in the table; what they weigh. -/
def closedT (P : Program) : Bool := (List.range P.types.size).all fun t => decide (P.bytesOf t ≤ 4096) && match P.underlying t with
  | some (.slice e) => decide (e < P.types.size)
  | some (.pointer e) => decide (e < P.types.size)
  | some (.array _ e) => decide (e < P.types.size)
  | some (.map k e) => decide (k < P.types.size) && decide (e < P.types.size)
  | some (.struct fs) => (fs.toList.map (·.type)).all fun e => decide (e < P.types.size)
  | _ => true
theorem closed_at {P : Program} (hP : closedT P = true) {t : TypeId} (h : t < P.types.size) : P.bytesOf t ≤ 4096 ∧ (∀ e, P.underlying t = some (.slice e) → e < P.types.size) ∧ (∀ e, P.underlying t = some (.pointer e) → e < P.types.size) ∧ (∀ n e, P.underlying t = some (.array n e) → e < P.types.size) ∧ (∀ k e, P.underlying t = some (.map k e) → k < P.types.size ∧ e < P.types.size) ∧ (∀ fs, P.underlying t = some (.struct fs) → ∀ e ∈ fs.toList.map (·.type), e < P.types.size) := by
  have h1 := List.all_eq_true.1 hP t (List.mem_range.2 h)
  rw [Bool.and_eq_true] at h1
  obtain ⟨h1, h2⟩ := h1
  refine ⟨of_decide_eq_true h1, fun e q => ?_, fun e q => ?_, fun n e q => ?_, fun k e q => ?_, fun fs q => ?_⟩
  · rw [q] at h2; exact of_decide_eq_true h2
  · rw [q] at h2; exact of_decide_eq_true h2
  · rw [q] at h2; exact of_decide_eq_true h2
  · rw [q] at h2
    rw [Bool.and_eq_true] at h2
    exact ⟨of_decide_eq_true h2.1, of_decide_eq_true h2.2⟩
  · rw [q] at h2
    exact fun e he => of_decide_eq_true (List.all_eq_true.1 h2 e he)
theorem one_C {C : Nat} (hC : C = 8192) : 1 ≤ C := by rw [hC]; decide
theorem two_C {P : Program} {C : Nat} (hC : C = 8192) (hP : closedT P = true) {e k : TypeId} (h : e < P.types.size) (h' : k < P.types.size) : P.bytesOf e + P.bytesOf k ≤ C := by
  have h1 := (closed_at hP h).1
  have h2 := (closed_at hP h').1
  rw [hC]
  exact Nat.add_le_add h1 h2
mutual
theorem wb {H : Type} {P : Program} {C : Nat} (hC : C = 8192) (hP : closedT P = true) : ∀ (d : DataW H) (t : TypeId), t < P.types.size → ∀ m ∈ d.weights P t, m ≤ Rows.uptoBulk d * C
  | .lit l, t, hlt, m, h => by
    cases l with
    | string b =>
      simp only [DataW.weights, List.mem_singleton] at h
      subst h
      simp only [Rows.uptoBulk]
      exact Nat.le_trans (Nat.le_succ _) (Nat.le_trans (Nat.le_of_eq (Nat.mul_one _).symm) (Nat.mul_le_mul_left _ (one_C hC)))
    | _ => simp [DataW.weights] at h
  | .nil, t, hlt, m, h => by simp [DataW.weights] at h
  | .ptr d, t, hlt, m, h => by
    simp only [DataW.weights] at h
    simp only [Rows.uptoBulk]
    split at h
    · rename_i e q; exact le_of_mul (wb hC hP d _ ((closed_at hP hlt).2.2.1 e q) m h) (by omega)
    · cases h
  | .slice es sp, t, hlt, m, h => by
    simp only [DataW.weights] at h
    simp only [Rows.uptoBulk]
    split at h
    · rename_i e q
      have he := (closed_at hP hlt).2.1 e q
      rcases List.mem_cons.1 h with rfl | h
      · have h1 := bulk_len es
        have h2 := bulk_len sp
        exact le_of_mul (Nat.mul_le_mul (show es.length + sp.length ≤ Rows.uptoBulkAll es + Rows.uptoBulkAll sp by omega) (Nat.le_trans (Nat.le_add_right _ _) (two_C hC hP he he))) (by omega)
      · rcases List.mem_append.1 h with h | h
        · exact le_of_mul (wbAll hC hP es e he m h) (by omega)
        · exact le_of_mul (wbAll hC hP sp e he m h) (by omega)
    · cases h
  | .agg ps, t, hlt, m, h => by
    simp only [DataW.weights] at h
    simp only [Rows.uptoBulk]
    split at h
    · rename_i fs q; exact le_of_mul (wbEach hC hP ps _ ((closed_at hP hlt).2.2.2.2.2 fs q) m h) (by omega)
    · rename_i n e q; exact le_of_mul (wbAll hC hP ps _ ((closed_at hP hlt).2.2.2.1 n e q) m h) (by omega)
    · cases h
  | .iface n d, t, hlt, m, h => by simp [DataW.weights] at h
  | .map es, t, hlt, m, h => by
    simp only [DataW.weights] at h
    simp only [Rows.uptoBulk]
    split at h
    · rename_i k e q
      obtain ⟨hk, he⟩ := (closed_at hP hlt).2.2.2.2.1 k e q
      rcases List.mem_cons.1 h with rfl | h
      · exact le_of_mul (Nat.mul_le_mul (bulk_entries es) (two_C hC hP hk he)) (by omega)
      · exact le_of_mul (wbEntries hC hP es e he m h) (by omega)
    · cases h
  | .held x, t, hlt, m, h => by simp [DataW.weights] at h
theorem wbAll {H : Type} {P : Program} {C : Nat} (hC : C = 8192) (hP : closedT P = true) : ∀ (l : List (DataW H)) (t : TypeId), t < P.types.size → ∀ m ∈ DataW.weightsAll P t l, m ≤ Rows.uptoBulkAll l * C
  | [], t, hlt, m, h => by simp [DataW.weightsAll] at h
  | d :: r, t, hlt, m, h => by
    simp only [DataW.weightsAll, List.mem_append] at h
    simp only [Rows.uptoBulkAll]
    rcases h with h | h
    · exact le_of_mul (wb hC hP d t (by first | exact hlt | exact hlt _ (by simp)) m h) (by omega)
    · exact le_of_mul (wbAll hC hP r t hlt m h) (by omega)
theorem wbEach {H : Type} {P : Program} {C : Nat} (hC : C = 8192) (hP : closedT P = true) : ∀ (l : List (DataW H)) (ts : List TypeId), (∀ t ∈ ts, t < P.types.size) → ∀ m ∈ DataW.weightsEach P ts l, m ≤ Rows.uptoBulkAll l * C
  | [], ts, hlt, m, h => by cases ts <;> simp [DataW.weightsEach] at h
  | d :: r, [], hlt, m, h => by simp [DataW.weightsEach] at h
  | d :: r, t :: ts, hlt, m, h => by
    simp only [DataW.weightsEach, List.mem_append] at h
    simp only [Rows.uptoBulkAll]
    rcases h with h | h
    · exact le_of_mul (wb hC hP d t (by first | exact hlt | exact hlt _ (by simp)) m h) (by omega)
    · exact le_of_mul (wbEach hC hP r ts (fun t ht => hlt t (by simp [ht])) m h) (by omega)
theorem wbEntries {H : Type} {P : Program} {C : Nat} (hC : C = 8192) (hP : closedT P = true) : ∀ (l : List (Lit × DataW H)) (t : TypeId), t < P.types.size → ∀ m ∈ DataW.weightsEntries P t l, m ≤ Rows.uptoBulkEntries l * C
  | [], t, hlt, m, h => by simp [DataW.weightsEntries] at h
  | x :: r, t, hlt, m, h => by
    simp only [DataW.weightsEntries, List.mem_append] at h
    simp only [Rows.uptoBulkEntries]
    rcases h with h | h
    · exact le_of_mul (wbEntry hC hP x t hlt m h) (by omega)
    · exact le_of_mul (wbEntries hC hP r t hlt m h) (by omega)
theorem wbEntry {H : Type} {P : Program} {C : Nat} (hC : C = 8192) (hP : closedT P = true) : ∀ (x : Lit × DataW H) (t : TypeId), t < P.types.size → ∀ m ∈ DataW.weightsEntry P t x, m ≤ Rows.uptoBulkEntry x * C
  | (l, d), t, hlt, m, h => by
    have hb := wb hC hP d t hlt
    cases l with
    | string b =>
      simp only [DataW.weightsEntry, List.mem_cons] at h
      simp only [Rows.uptoBulkEntry]
      rcases h with rfl | h
      · exact le_of_mul (a := b.length) (Nat.le_trans (Nat.le_of_eq (Nat.mul_one _).symm) (Nat.mul_le_mul_left _ (one_C hC))) (by omega)
      · exact le_of_mul (hb m h) (by omega)
    | _ =>
      simp only [DataW.weightsEntry] at h
      simp only [Rows.uptoBulkEntry]
      exact le_of_mul (hb m h) (by omega)
end
/-- What an argument weighs. -/
theorem bulk_weights {H : Type} {P : Program} {C : Nat} (hC : C = 8192) (hP : closedT P = true) {ds : List (DataW H)} {d : DataW H} {t : TypeId} (h : Rows.uptoBulkAll ds ≤ 1048576) (hlt : t < P.types.size) (hd : d ∈ ds) {m : Nat} (hm : m ∈ d.weights P t) : m ≤ 9000000000 :=
  Nat.le_trans (wb hC hP d t hlt m hm) (Nat.le_trans (Nat.mul_le_mul (Nat.le_trans (bulk_mem hd) h) (Nat.le_of_eq hC)) (by decide))
end Go.Proofs.YtabmcfnefjipbaaGreatDoor
namespace Go.Proofs.YtabmcfnefjipbaaGreatDoor
open Go.ChangeShapes Go.WideShapes Go.Deep

section
variable {H : Type} {enc : TypeId × Value → H} {P : Program} {w : World} {base : Nat} {spare : Nat → Bool} {held : Bool}

theorem cell_lt {p : Addr} {v : Value} (h : w.cell? p = some v) : p.block < w.heap.size := by
  by_cases hl : p.block < w.heap.size
  · exact hl
  · have : w.heap[p.block]? = none := by simp; omega
    simp [World.cell?, this] at h

end

section
variable {H : Type} {P : Program} {ts : List TypeId} {ds : List (DataW H)}
/-- What a field of a struct weighs is weighed. -/
theorem weights_field {t u : TypeId} {fs : Array Field} {parts : List (DataW H)} {j : Nat} {d : DataW H} (hu : P.underlying t = some (.struct fs)) (hf : (fs.toList.map (·.type))[j]? = some u) (hd : parts[j]? = some d) {n : Nat} (hn : n ∈ d.weights P u) : n ∈ (DataW.agg parts).weights P t := by
  simp only [DataW.weights, hu]
  exact DataW.weights_mem_each hf hd n hn
theorem weights_slice {t e : TypeId} {el sp : List (DataW H)} (hu : P.underlying t = some (.slice e)) : (el.length + sp.length) * P.bytesOf e ∈ (DataW.slice el sp).weights P t := by
  simp [DataW.weights, hu]
end
end Go.Proofs.YtabmcfnefjipbaaGreatDoor
namespace Go.Proofs.YtabmcfnefjipbaaGreatDoor
open Go.ChangeShapes Go.WideShapes Go.Deep Go.RowKit
/-- What a cell of an argument is. -/
inductive Sh where
  | int (k : IntKind)
  | bool
  | str
  | sl (by_ : Nat) (e : List Sh)
abbrev bigB : Nat := 9000000000
inductive HasSh : Sh → V → Prop
  | int {k : IntKind} {n : Int} (h : (Lit.int k n).wf = true) : HasSh (.int k) (.int k n)
  | bool {b : Bool} : HasSh .bool (.bool b)
  | str {s : ByteArray} (h : s.size ≤ bigB) : HasSh .str (.str s)
  | sl {by_ sz : Nat} {e : List Sh} {rs : List (List V)} (hl : rs.length * by_ ≤ bigB) (hm : rs.length ≤ maxLen) (hs : sz = e.length) (hr : ∀ r ∈ rs, r.length = sz) (h : ∀ r ∈ rs, ∀ (j : Nat) s x, e[j]? = some s → r[j]? = some x → HasSh s x) : HasSh (.sl by_ e) (.sl sz rs)
/-- Cells. -/
structure HasL (e : List Sh) (r : List V) : Prop where
  len : r.length = e.length
  has : ∀ (j : Nat) s x, e[j]? = some s → r[j]? = some x → HasSh s x
theorem HasL.nil : HasL [] [] := ⟨rfl, fun _ _ _ h => by simp at h⟩
theorem HasL.app {e f : List Sh} {r q : List V} (h : HasL e r) (k : HasL f q) : HasL (e ++ f) (r ++ q) := ⟨by simp [h.len, k.len], fun j s x h1 h2 => by
  by_cases hj : j < e.length
  · rw [List.getElem?_append_left hj] at h1
    rw [List.getElem?_append_left (by rw [h.len]; exact hj)] at h2
    exact h.has j s x h1 h2
  · rw [List.getElem?_append_right (by omega)] at h1
    rw [List.getElem?_append_right (by rw [h.len]; omega), h.len] at h2
    exact k.has _ s x h1 h2⟩
theorem HasL.one {s : Sh} {x : V} (h : HasSh s x) : HasL [s] [x] := ⟨rfl, fun j a b h1 h2 => by
  cases j with
  | zero => simp at h1 h2; subst h1 h2; exact h
  | succ j => simp at h1⟩
theorem HasL.cons_inv {s : Sh} {e : List Sh} {r : List V} (h : HasL (s :: e) r) : ∃ x q, r = x :: q ∧ HasSh s x ∧ HasL e q := by
  cases r with
  | nil => have := h.len; simp at this
  | cons x q => exact ⟨x, q, rfl, h.has 0 s x rfl rfl, by have := h.len; simpa using this, fun j a b h1 h2 => h.has (j + 1) a b (by simpa using h1) (by simpa using h2)⟩
theorem HasL.nil_inv {r : List V} (h : HasL [] r) : r = [] := List.eq_nil_of_length_eq_zero h.len
def shFs (g : Nat → Option (List Sh)) : List (Nat × TypeId) → Nat → Option (List Sh)
  | [], _ => some []
  | (off, t) :: r, o => bif Nat.beq off o then match g t with
      | none => none
      | some l => match shFs g r (o + l.length) with
        | none => none
        | some m => some (l ++ m)
    else none
/-- The shape of a type. -/
def shT (T : List (Nat × Ty)) : Nat → Nat → Option (List Sh)
  | 0, _ => none
  | f + 1, t => match lk t T with
    | none => none
    | some i => match i.k with
      | .in_ k => bif Nat.beq i.size 1 then some [.int k] else none
      | .bo => bif Nat.beq i.size 1 then some [.bool] else none
      | .sr => bif Nat.beq i.size 1 then some [.str] else none
      | .sl e => match lk e T with
        | none => none
        | some j => match shT T f e with
          | none => none
          | some l => bif Nat.beq l.length j.size && (Nat.blt 0 j.size && Nat.beq i.size 1) then some [.sl j.bytes l] else none
      | .st fs => match shFs (shT T f) fs 0 with
        | none => none
        | some l => bif Nat.beq l.length i.size then some l else none
      | _ => none
section
variable {H : Type} {enc : TypeId × Value → H} {P : Program} {T : List (Nat × Ty)} [hT : Tys P T] {w : World} {base : Nat} {spare : Nat → Bool} {held : Bool}
abbrev zW (w : World) : Fz := ⟨⟨fun b => b < w.heap.size, fun _ => [], fun _ => True⟩, w⟩
omit hT in
theorem weightsAll_mem {e : TypeId} : ∀ {ds : List (DataW H)} {d : DataW H}, d ∈ ds → ∀ m ∈ d.weights P e, m ∈ DataW.weightsAll P e ds
  | x :: r, d, h, m, hm => by
    simp only [DataW.weightsAll, List.mem_append]
    rcases List.mem_cons.1 h with rfl | h
    · exact .inl hm
    · exact .inr (weightsAll_mem h m hm)
/-- What a cell reader of type t tells. -/
def Opn (enc : TypeId × Value → H) (P : Program) (w : World) (base : Nat) (spare : Nat → Bool) (held : Bool) (t : TypeId) (sh : List Sh) : Prop :=
  ∀ (n : Nat) (cs : List Value) (y : DataW H × List MemPlace), DataW.trod enc P w base spare held n t cs = some y → (∀ m ∈ y.1.weights P t, m ≤ bigB) → ∃ xs : List V, HasL sh xs ∧ DenVL (zW w) xs cs
theorem opn_slice {t e : TypeId} {l : List Sh} {i j : Ty} (ht : lk t T = some i) (hi : i.k = .sl e) (hj : lk e T = some j) (hl : l.length = j.size) (hp : 0 < j.size) (ih : Opn enc P w base spare held e l) : Opn enc P w base spare held t [.sl j.bytes l] := by
  intro n cs y h hw
  have ku := (hT.ok t i ht).kind
  rw [hi] at ku
  have ku : P.underlying t = some (.slice e) := ku
  obtain ⟨f, z, q1, q2, q3, _⟩ := (hT.ok e j hj).info
  have hC : P.cellsOf e = j.size := by simp [Program.cellsOf, q1, q2]
  have hBy : P.bytesOf e = j.bytes := by simp [Program.bytesOf, q1, q3]
  rcases open_slice ku h with ⟨rfl, rfl⟩ | ⟨a, len, cap, k, n', D, Pl, rfl, hb, hlc, hmx, hk, hx, hcell⟩
  · exact ⟨[.sl j.size []], .one (.sl (by simp) (by simp) (by rw [hl]) (by simp) (by simp)), ⟨rfl, rfl, fun m d u e1 e2 => by
      cases m with
      | zero => simp at e1 e2; subst e1 e2; exact .sl (b := 0) (o := 0) [] rfl (Nat.le_refl _) (Nat.zero_le _) (by simp) (fun h => absurd rfl h) rfl (by simp) rfl (by simp)
      | succ m => simp at e1⟩⟩
  · have hlk : len ≤ k := by rw [hk]; split <;> omega
    have hwt : (((List.range len).map D).length + ((List.range (k - len)).map fun j => D (len + j)).length) * P.bytesOf e ≤ bigB := hw _ (by rw [hx]; exact weights_slice ku)
    have hwe : ∀ i, i < len → ∀ m ∈ (D i).weights P e, m ≤ bigB := fun i hi m hm => hw m (by
      rw [hx]
      simp only [DataW.weights, ku, List.mem_cons, List.mem_append]
      exact .inr (.inl (weightsAll_mem (List.mem_map.2 ⟨i, List.mem_range.2 hi, rfl⟩) m hm)))
    have hE : ∀ i, i < len → ∃ (xs : List V) (cs : List Value), HasL l xs ∧ DenVL (zW w) xs cs ∧ ∀ m, m < j.size → w.cell? (a.add (i * j.size + m)) = cs[m]? := by
      intro i hil
      obtain ⟨cs', hc, ht'⟩ := hcell i (by omega)
      obtain ⟨xs, h1, h2⟩ := ih _ _ _ ht' (hwe i hil)
      rw [hC] at hc
      obtain ⟨_, hcl, hat⟩ := World.cells?_some hc
      exact ⟨xs, cs', h1, h2, fun m hm => by rw [← add_of_add]; exact hat m hm⟩
    have hL : ∀ k, k ≤ len → ∃ (rs : List (List V)) (us : List Value), rs.length = k ∧ (∀ r ∈ rs, HasL l r) ∧ DenVL (zW w) rs.flatten us ∧ us.length = k * j.size ∧ ∀ m u, us[m]? = some u → w.cell? (a.add m) = some u := by
      intro k
      induction k with
      | zero => intro _; exact ⟨[], [], rfl, by simp, .nil, by simp, by simp⟩
      | succ k ihk =>
        intro hk
        obtain ⟨rs, us, h1, h2, h3, h4, h5⟩ := ihk (by omega)
        obtain ⟨xs, cs, g1, g2, g3⟩ := hE k (by omega)
        have gl : cs.length = j.size := by rw [g2.len, g1.len, hl]
        refine ⟨rs ++ [xs], us ++ cs, by simp [h1], fun r hr => ?_, by rw [List.flatten_append]; simpa using h3.app g2, by rw [List.length_append, h4, gl, Nat.add_mul, Nat.one_mul], fun m u hu => ?_⟩
        · rcases List.mem_append.1 hr with hr | hr
          · exact h2 r hr
          · rw [List.mem_singleton.1 hr]; exact g1
        · by_cases hm : m < k * j.size
          · rw [List.getElem?_append_left (by omega)] at hu
            exact h5 m u hu
          · rw [List.getElem?_append_right (by omega), h4] at hu
            have hlt : m - k * j.size < j.size := by have := (List.getElem?_eq_some_iff.1 hu).1; omega
            have := g3 _ hlt
            rw [show k * j.size + (m - k * j.size) = m by omega] at this
            rw [this, hu]
    obtain ⟨rs, us, h1, h2, h3, h4, h5⟩ := hL len (Nat.le_refl _)
    have hlen : len * j.bytes ≤ bigB := by
      simp only [List.length_map, List.length_range, hBy] at hwt
      exact Nat.le_trans (Nat.mul_le_mul_right _ (Nat.le_add_right _ _)) hwt
    have hr : ∀ r ∈ rs, r.length = j.size := fun r hr => by rw [(h2 r hr).len, hl]
    refine ⟨[.sl j.size rs], .one (.sl (by rw [h1]; exact hlen) (by omega) hl.symm hr (fun r hr => (h2 r hr).has)), ⟨rfl, rfl, fun m d u e1 e2 => ?_⟩⟩
    cases m with
    | succ m => simp at e1
    | zero =>
      simp at e1 e2
      subst e1 e2
      by_cases hrs : rs = []
      · subst hrs
        have : len = 0 := by simpa using h1.symm
        subst this
        exact .sl (b := 0) (o := 0) [] rfl (Nat.zero_le _) (Nat.zero_le _) hr (fun h => absurd rfl h) rfl (by simp) rfl (by simp)
      · have hus : 0 < us.length := by
          rw [h4]
          have : 0 < len := by rw [← h1]; exact List.length_pos_iff.2 hrs
          exact Nat.mul_pos this hp
        obtain ⟨b, off, spot⟩ := a
        have hc0 := h5 0 _ (List.getElem?_eq_getElem hus)
        have hspot : spot = none := by simpa [Addr.add] using World.cell?_spot hc0
        subst hspot
        have hlt := cell_lt hc0
        refine .sl (b := b) (o := off) us h1 hlc (by omega) hr (fun _ => ⟨rfl, by simpa [block_of_add] using hlt⟩) h3.len (fun m u hu => ?_) h3.one h3.den
        have := h5 m u hu
        rwa [add_plain] at this
theorem opn_struct {t : TypeId} {g : Nat → Option (List Sh)} {fs : List (Nat × TypeId)} {sh : List Sh} {i : Ty} (ht : lk t T = some i) (hi : i.k = .st fs) (hs : shFs g fs 0 = some sh) (hl : sh.length = i.size) (ih : ∀ u l, g u = some l → Opn enc P w base spare held u l) (hg : ∀ u l, g u = some l → P.cellsOf u = l.length) : Opn enc P w base spare held t sh := by
  intro n cs y h hw
  have ku := (hT.ok t i ht).kind
  rw [hi] at ku
  obtain ⟨fields, k1, k2⟩ := ku
  obtain ⟨f, z, q1, q2, _⟩ := (hT.ok t i ht).info
  have hC : P.cellsOf t = i.size := by simp [Program.cellsOf, q1, q2]
  obtain ⟨xs, n', _, rfl, hcl, hxl, hf⟩ := DataW.trod_struct k1 h
  rw [hC] at hcl
  have hwf : ∀ (m : Nat) (fd : Field) (x : DataW H × List MemPlace), fields[m]? = some fd → xs[m]? = some x → ∀ q ∈ x.1.weights P fd.type, q ≤ bigB := fun m fd x e1 e2 q hq => hw q (weights_field (j := m) k1 (by rw [List.getElem?_map, Array.getElem?_toList, e1]; rfl) (by rw [List.getElem?_map, e2]; rfl) hq)
  have key : ∀ (l : List (Nat × TypeId)) (m o : Nat) (sh : List Sh), (∀ (q : Nat) p, l[q]? = some p → fs[m + q]? = some p) → shFs g l o = some sh → ∃ vs : List V, HasL sh vs ∧ ((o + sh.length ≤ cs.length) → DenVL (zW w) vs ((cs.drop o).take sh.length)) := by
    intro l
    induction l with
    | nil => intro m o sh _ hs; simp [shFs] at hs; subst hs; exact ⟨[], .nil, fun _ => by simpa using DenVL.nil⟩
    | cons p r ihl =>
      intro m o sh hp hs
      obtain ⟨off, u⟩ := p
      simp only [shFs] at hs
      cases hb : Nat.beq off o <;> rw [hb] at hs
      · cases hs
      · simp only [cond_true] at hs
        have := Nat.eq_of_beq_eq_true hb
        subst this
        cases hgu : g u with
        | none => simp only [hgu] at hs; cases hs
        | some l1 =>
          simp only [hgu] at hs
          cases hr : shFs g r (off + l1.length) with
          | none => simp only [hr] at hs; cases hs
          | some l2 =>
            simp only [hr] at hs
            injection hs with hs
            subst hs
            obtain ⟨vs, v1, v2⟩ := ihl (m + 1) _ l2 (fun q p hq => by have := hp (q + 1) p (by simpa using hq); rwa [show m + (q + 1) = m + 1 + q by omega] at this) hr
            have hfs := hp 0 (off, u) rfl
            rw [Nat.add_zero, ← k2, List.getElem?_map] at hfs
            cases hfd : fields.toList[m]? with
            | none => rw [hfd] at hfs; cases hfs
            | some fd =>
              rw [hfd] at hfs
              simp only [Option.map_some, Option.some.injEq, Prod.mk.injEq] at hfs
              obtain ⟨e1, e2⟩ := hfs
              rw [Array.getElem?_toList] at hfd
              have hrd := hf m fd hfd
              rw [e1, e2, hg u l1 hgu] at hrd
              have hmx : m < xs.length := by rw [hxl]; exact (Array.getElem?_eq_some_iff.1 hfd).1
              have hxm := List.getElem?_eq_getElem hmx
              rw [hxm] at hrd
              have hww := hwf m fd _ hfd hxm
              rw [e2] at hww
              obtain ⟨ws, w1, w2⟩ := ih u l1 hgu _ _ _ hrd hww
              refine ⟨ws ++ vs, w1.app v1, fun ho => ?_⟩
              simp only [List.length_append] at ho
              have h2 := v2 (by omega)
              have hsp : (cs.drop off).take (l1 ++ l2).length = (cs.drop off).take l1.length ++ (cs.drop (off + l1.length)).take l2.length := by
                rw [List.length_append, List.take_add, List.drop_drop]
              rw [hsp]
              exact w2.app h2
  obtain ⟨vs, v1, v2⟩ := key fs 0 0 sh (fun q p h => by rwa [Nat.zero_add]) hs
  refine ⟨vs, v1, ?_⟩
  have := v2 (by omega)
  rwa [List.drop_zero, List.take_of_length_le (by omega)] at this
omit hT in
theorem den_one {x : V} {v : Value} (h : DenV (zW w) x v) : DenVL (zW w) [x] [v] := ⟨rfl, by simp [h.one], fun m d u e1 e2 => by
  cases m with
  | zero => simp at e1 e2; subst e1 e2; exact h
  | succ m => simp at e1⟩
theorem shT_cells : ∀ {f t : Nat} {sh : List Sh}, shT T f t = some sh → P.cellsOf t = sh.length
  | 0, t, sh, h => by cases h
  | f + 1, t, sh, h => by
    simp only [shT] at h
    cases ht : lk t T with
    | none => rw [ht] at h; cases h
    | some i =>
      rw [ht] at h
      simp only at h
      obtain ⟨q, z, q1, q2, _⟩ := (hT.ok t i ht).info
      have hC : P.cellsOf t = i.size := by simp [Program.cellsOf, q1, q2]
      rw [hC]
      split at h
      · cases hb : Nat.beq i.size 1 <;> rw [hb] at h
        · cases h
        · injection h with h; subst h; exact Nat.eq_of_beq_eq_true hb
      · cases hb : Nat.beq i.size 1 <;> rw [hb] at h
        · cases h
        · injection h with h; subst h; exact Nat.eq_of_beq_eq_true hb
      · cases hb : Nat.beq i.size 1 <;> rw [hb] at h
        · cases h
        · injection h with h; subst h; exact Nat.eq_of_beq_eq_true hb
      · rename_i e hk
        split at h
        · cases h
        · rename_i j hj
          split at h
          · cases h
          · rename_i l hl
            cases hb : (Nat.beq l.length j.size && (Nat.blt 0 j.size && Nat.beq i.size 1)) <;> rw [hb] at h
            · cases h
            · injection h with h; subst h
              simp only [Bool.and_eq_true] at hb
              exact Nat.eq_of_beq_eq_true hb.2.2
      · split at h
        · cases h
        · rename_i l hl
          cases hb : Nat.beq l.length i.size <;> rw [hb] at h
          · cases h
          · injection h with h; subst h; exact (Nat.eq_of_beq_eq_true hb).symm
      · cases h
/-- An argument of a readable type is a tree of its shape. -/
theorem opn : ∀ {f t : Nat} {sh : List Sh}, shT T f t = some sh → Opn enc P w base spare held t sh
  | 0, t, sh, h => by cases h
  | f + 1, t, sh, h => by
    simp only [shT] at h
    cases ht : lk t T with
    | none => rw [ht] at h; cases h
    | some i =>
      rw [ht] at h
      simp only at h
      split at h
      · rename_i k hk
        cases hb : Nat.beq i.size 1 <;> rw [hb] at h
        · cases h
        · injection h with h; subst h
          have ku := (hT.ok t i ht).kind
          rw [hk] at ku
          have ku : P.underlying t = some (.int k) := ku
          intro n cs y hy _
          obtain ⟨z, rfl, _, hz⟩ := DataW.trod_int ku hy
          exact ⟨[.int k z], .one (.int hz), den_one (.int _ _)⟩
      · rename_i hk
        cases hb : Nat.beq i.size 1 <;> rw [hb] at h
        · cases h
        · injection h with h; subst h
          have ku := (hT.ok t i ht).kind
          rw [hk] at ku
          have ku : P.underlying t = some .bool := ku
          intro n cs y hy _
          obtain ⟨z, rfl, _⟩ := DataW.trod_bool ku hy
          exact ⟨[.bool z], .one .bool, den_one (.bool _)⟩
      · rename_i hk
        cases hb : Nat.beq i.size 1 <;> rw [hb] at h
        · cases h
        · injection h with h; subst h
          have ku := (hT.ok t i ht).kind
          rw [hk] at ku
          have ku : P.underlying t = some .string := ku
          intro n cs y hy hw
          obtain ⟨z, rfl, rfl, hz⟩ := DataW.trod_string ku hy
          have := hw z.data.toList.length (show _ ∈ [z.data.toList.length] from List.mem_singleton.2 rfl)
          have e : z.data.toList.length = z.size := Array.length_toList
          rw [e] at this
          exact ⟨[.str z], .one (.str this), den_one (.str _ hz)⟩
      · rename_i e hk
        split at h
        · cases h
        · rename_i j hj
          split at h
          · cases h
          · rename_i l hl
            cases hb : (Nat.beq l.length j.size && (Nat.blt 0 j.size && Nat.beq i.size 1)) <;> rw [hb] at h
            · cases h
            · injection h with h; subst h
              simp only [Bool.and_eq_true] at hb
              exact opn_slice ht hk hj (Nat.eq_of_beq_eq_true hb.1) (by simpa [Nat.blt_eq] using hb.2.1) (opn hl)
      · rename_i fs hk
        split at h
        · cases h
        · rename_i l hl
          cases hb : Nat.beq l.length i.size <;> rw [hb] at h
          · cases h
          · injection h with h; subst h
            exact opn_struct ht hk hl (Nat.eq_of_beq_eq_true hb) (fun u l hu => opn hu) (fun u l hu => shT_cells hu)
      · cases h
/-- An argument of one cell. -/
theorem arg_open {f t : Nat} {s : Sh} {v : Value} {d : DataW H} {p : List MemPlace} (hs : shT T f t = some [s]) (h : DataW.Trod enc P w base spare held t v d p) (hz : ∀ n ∈ d.weights P t, n ≤ bigB) (hv : v.cells = #[v]) : ∃ x, HasSh s x ∧ ∀ ρ, DenS ρ (zW w) (.d (.u x)) v := by
  obtain ⟨n, hn⟩ := h
  rw [hv] at hn
  obtain ⟨xs, h1, h2⟩ := opn hs n _ _ hn hz
  obtain ⟨x, q, rfl, h3, h4⟩ := h1.cons_inv
  have := h4.nil_inv
  subst this
  exact ⟨x, h3, fun ρ => .d (.u (h2.den 0 x v rfl rfl))⟩
end
end Go.Proofs.YtabmcfnefjipbaaGreatDoor
namespace Go.Proofs.YtabmcfnefjipbaaGreatDoor
open Go.ChangeShapes Go.WideShapes Go.ChangeAt Go.RowKit
theorem law_liftedL {C : Checked} {os : Os} {f : FuncId} {fn : Func} {s : ChangeSpec} {tb : TypeId} {apart fresh : Bool} {conds : List PathCond} {laid : List (String × DataW Unit)} (started : os.Started) (H : Type) (enc : TypeId × Value → H) (F : Stop.Interp)
    (own : ownKnob C.prog.godebug = none) (noInit : C.prog.inits.idxOf? f = none) (hfn : C.prog.funcs[f]? = some fn)
    (witness : ∃ (w : World) (tape : Tape) (i : Input), w.os = os ∧ (w.forCall tape i).Shaped C.prog ∧ i.vars = [] ∧ Input.okWide C.prog (w.forCall tape i) .any w.heap.size f i ∧
      (Rows.OpenSpec.upto s).preRow enc C.prog fn conds apart laid (w.forCall tape i).memory i.args ∧ ({} : Assume).holds C.prog (lone (Frame.enter C.prog f i.args .normal) [] (w.forCall tape i)))
    (hl : laidOutB C.prog = true) (hT : paramsRead C.prog fn = true) (hres : fn.resultTypes = #[tb]) (htb : C.prog.underlying tb = some .bool) (hvars : s.vars = [])
    (hsp : ∀ ds : List (DataW H), ds.length = fn.params.size → s.fn H ds = { results := [.lit (.bool true)], args := ds })
    (walk : ∀ (W : World) (base : Nat) (args : Array Value) (ds : List (DataW H)) (p : List MemPlace),
      (∀ (j : Nat) t v, fn.params[j]? = some t → args[j]? = some v → Value.okWide C.prog W .any base t v) →
      DataW.TrodAll enc C.prog W 0 (fun _ => true) true fn.params.toList args.toList ds p → (∀ x ∈ p, x.block < W.heap.size) →
      Rows.uptoBulkAll ds ≤ 1048576 → laidMetH C.prog laid W →
      Calls C.prog f args W fun e W' => e = .returned (.bool true) ∧ Below W.heap.size W W') :
    ReturnsInHanded {} C os f .any ((Rows.OpenSpec.upto s).preRow enc C.prog fn conds apart laid) (((Rows.OpenSpec.upto s).at F).post enc C.prog fn apart fresh false false) := by
  refine returnsInHanded_of_row (s := Rows.OpenSpec.upto s) own started noInit hfn witness ?_
  intro W base args ds gs before hval hW0 _ hk _ hL _ _
  have hW : DataW.Whole enc C.prog fn.params.toList s.vars apart W args.toList ds gs before := hW0
  have hgs : gs = [] := by
    obtain ⟨p, q, hA, hV, he, _, _⟩ := hW
    rw [hvars] at hV
    exact (trodVars_none hV).1
  subst hgs
  have hlen : ds.length = fn.params.size := by
    obtain ⟨p, q, hA, _⟩ := hW
    have hlt : ∀ {ts : List TypeId} {vs : List Value} {ds : List (DataW H)} {ps : List MemPlace}, DataW.TrodAll enc C.prog W 0 (fun _ => true) true ts vs ds ps → ds.length = ts.length := by
      intro ts
      induction ts with
      | nil => intro vs ds ps h; cases vs <;> cases ds <;> first | rfl | exact h.elim
      | cons t ts ih =>
        intro vs ds ps h
        cases vs with
        | nil => exact h.elim
        | cons v vs =>
          cases ds with
          | nil => exact h.elim
          | cons d ds =>
            obtain ⟨p, q, _, h2, _⟩ := h
            simp [ih h2]
    simpa using hlt hA
  have hb := of_decide_eq_true (hk _ rfl)
  rw [List.append_nil] at hb
  have hlt := hW.lt
  have hp : ∃ p, DataW.TrodAll enc C.prog W 0 (fun _ => true) true fn.params.toList args.toList ds p ∧ ∀ x ∈ p, x.block < W.heap.size := by
    obtain ⟨p, q, hA, hV, he, _, _⟩ := hW
    exact ⟨p, hA, fun x hx => hlt x (by rw [he]; exact List.mem_append_left _ hx)⟩
  obtain ⟨p, hA, hpl⟩ := hp
  refine (walk W base args ds p hval hA hpl hb hL).mono fun e W' ⟨he, hb⟩ => ?_
  exact ⟨_, he, post_of_below hl hT hres htb hvars (hsp ds hlen) hW hb⟩
theorem laid_out : laidOutB Tryz.prog = true := by kernel_rfl
theorem own_knob : ownKnob Tryz.prog.godebug = none := by kernel_rfl
theorem closed_T : closedT Tryz.prog = true := by kernel_rfl
mutual
def cellsD : DataW Unit → List Value
  | .lit (.int k n) => [.int k n]
  | .agg ps => cellsDs ps
  | _ => []
def cellsDs : List (DataW Unit) → List Value
  | [] => []
  | d :: r => cellsD d ++ cellsDs r
end
def setCs (cs : List Value) : Obj → Obj
  | .cells _ t frozen => .cells cs.toArray t frozen
  | o => o
noncomputable def laidWorld (os : Os) : World :=
  { World.holding Tryz.prog os ⟨#[], #[], []⟩ with heap := (((((World.holding Tryz.prog os ⟨#[], #[], []⟩).heap.modify 6 (setCs (cellsD Rows.laid_unicode_utf8_first))).modify 7 (setCs (cellsD Rows.laid_unicode_utf8_acceptRanges))).modify 1 (setCs (cellsD Rows.laid_internal_strconv_uint64pow10))).modify 4 (setCs (cellsD Rows.laid_math_bits_deBruijn32tab))).modify 5 (setCs (cellsD Rows.laid_math_bits_deBruijn64tab)) }
abbrev laidL : List (String × DataW Unit) := [("math/bits.deBruijn32tab", Rows.laid_math_bits_deBruijn32tab), ("math/bits.deBruijn64tab", Rows.laid_math_bits_deBruijn64tab), ("internal/strconv.uint64pow10", Rows.laid_internal_strconv_uint64pow10), ("unicode/utf8.acceptRanges", Rows.laid_unicode_utf8_acceptRanges), ("unicode/utf8.first", Rows.laid_unicode_utf8_first)]
section
variable {P : Program} {f : FuncId} {ss : List SV}
/-- A law's contract as its row asks it, with the tables. -/
theorem calls_of_AT {vs : List Value} {W : World} (h : ∀ zt, Tab zt → CallsA Tryz.prog f ss [(907, tbOb zt)] (Iso (db true) [(907, tbOb zt)])) (ht : Lib.TabIs Tryz.prog W "internal/strconv.uint64pow10" .u64 Lib.pow10Tab) (hv : ArgsAt rho0 (fg0 W) W ss vs) : Calls Tryz.prog f vs.toArray W fun e W' => e = .returned (.bool true) ∧ Below W.heap.size W W' := by
  have hg : Tryz.prog.globalNamed "internal/strconv.uint64pow10" = some 1 := by kernel_rfl
  have hlt : 1 < W.heap.size := by
    have h0 := ht
    unfold Lib.TabIs World.var? at h0
    rw [hg] at h0
    simp only [Option.bind_some] at h0
    rcases Nat.lt_or_ge 1 W.heap.size with h' | h'
    · exact h'
    · rw [Array.getElem?_eq_none h'] at h0; cases h0
  refine ((h ⟨fg0 W, W⟩ ⟨⟨_, hg, hlt, ht⟩⟩).out ⟨(· < W.heap.size), W, fg0 W⟩ rho0 [] vs W (Hp.init W) hv.1 ⟨fun _ h => h, Same.refl _ _, fun _ h => h, fun _ h => .inl h, .refl _, fun k s hk => ?_, ⟨[], [], rfl, ⟨rfl, .refl, .nil⟩, rfl⟩⟩).mono ?_
  · obtain ⟨h1, h2⟩ := lk_slT hk
    have hlt : k - 0 < vs.length := by rw [hv.1]; exact (List.getElem?_eq_some_iff.1 h2).1
    exact ⟨vs[k - 0], lk_slots h1 (List.getElem?_eq_getElem hlt), hv.2.1 _ s _ h2 (List.getElem?_eq_getElem hlt)⟩
  · rintro e w' ⟨v, h', s, ob', ρ', G', rfl, hw', g', rfl, rfl⟩
    obtain ⟨u, u1, u2⟩ := g'.tm 0 _ rfl
    simp only [lk, Nat.beq_refl, cond_true, Option.some.injEq] at u1
    subst u1
    cases u2 with | d u2 => cases u2 with | u u2 => cases u2 with | bool =>
    exact ⟨rfl, (g'.fw.trans (hw'.same.mono g'.fF)).below⟩
end
end Go.Proofs.YtabmcfnefjipbaaGreatDoor
namespace Go.Proofs.YtabmcfnefjipbaaGreatDoor
open Go.ChangeShapes Go.WideShapes Go.Deep Go.RowKit
abbrev shLocs : Sh := .sl 32 [.str, .str]
abbrev shEvs : Sh := .sl 104 [.int .i64, .str, .str, .int .i64, .int .i64, .int .i64, .str, shLocs]
theorem shEvs_eq : shT tt 6 22 = some [shEvs] := by rfl
theorem rows_ofP {α β : Type} {f : α → β} {P : α → Prop} : ∀ {rs : List β}, (∀ r ∈ rs, ∃ a, r = f a ∧ P a) → ∃ l : List α, rs = l.map f ∧ ∀ a ∈ l, P a
  | [], _ => ⟨[], rfl, fun _ h => by cases h⟩
  | r :: rs, h => by
    obtain ⟨a, rfl, ha⟩ := h r (by simp)
    obtain ⟨l, rfl, hl⟩ := rows_ofP (rs := rs) fun q hq => h q (by simp [hq])
    exact ⟨a :: l, rfl, fun b hb => by
      rcases List.mem_cons.1 hb with rfl | hb
      · exact ha
      · exact hl b hb⟩
theorem locs_of {x : V} (h : HasSh shLocs x) : ∃ l : List (ByteArray × ByteArray), x = .sl 2 (l.map locR) := by
  cases h with | sl hl hm hs hr h =>
  rename_i rs
  subst hs
  have : ∀ r ∈ rs, ∃ a : ByteArray × ByteArray, r = locR a ∧ True := fun r hr' => by
    obtain ⟨x0, q, rfl, h0, hq⟩ := HasL.cons_inv ⟨hr r hr', h r hr'⟩
    obtain ⟨x1, q, rfl, h1, hq⟩ := hq.cons_inv
    have := hq.nil_inv
    subst this
    cases h0 with | str h0 =>
    cases h1 with | str h1 =>
    exact ⟨⟨_, _⟩, rfl, trivial⟩
  obtain ⟨l, rfl, _⟩ := rows_ofP this
  exact ⟨l, rfl⟩
end Go.Proofs.YtabmcfnefjipbaaGreatDoor
namespace Go.Proofs.YtabmcfnefjipbaaGreatDoor
open Go.ChangeShapes Go.WideShapes Go.ChangeAt Go.Deep Go.RowKit
abbrev laidDL : List (String × DataW Unit) := [("math/bits.deBruijn32tab", Rows.laid_math_bits_deBruijn32tab), ("math/bits.deBruijn64tab", Rows.laid_math_bits_deBruijn64tab), ("internal/strconv.uint64pow10", Rows.laid_internal_strconv_uint64pow10), ("unicode/utf8.acceptRanges", Rows.laid_unicode_utf8_acceptRanges), ("strconv.ErrRange", Rows.laid_strconv_ErrRange), ("strconv.ErrSyntax", Rows.laid_strconv_ErrSyntax), ("unicode/utf8.first", Rows.laid_unicode_utf8_first)]
noncomputable def laidWorldD (os : Os) : World := World.laidAll Tryz.prog os laidDL
theorem laidD_met (os : Os) (args : Array Value) : laidMet Tryz.prog laidDL ((laidWorldD os).forCall (fun _ _ => 0) ⟨#[], args, []⟩).memory :=
  laidMet_laidAll args (by kernel_rfl) (by kernel_rfl)
theorem laidD_os (os : Os) : (laidWorldD os).os = os := World.laidAll_os _ _ _
/-- The table of powers of ten lies there. -/
theorem tab_ofD {W : World} (h : laidMetH Tryz.prog laidDL W) : Lib.TabIs Tryz.prog W "internal/strconv.uint64pow10" .u64 Lib.pow10Tab := by
  have h1 : laidMet Tryz.prog laidDL W := h
  have h2 := h1.tail.tail
  exact Lib.tabIs_of_head (rest := [("unicode/utf8.acceptRanges", Rows.laid_unicode_utf8_acceptRanges), ("strconv.ErrRange", Rows.laid_strconv_ErrRange), ("strconv.ErrSyntax", Rows.laid_strconv_ErrSyntax), ("unicode/utf8.first", Rows.laid_unicode_utf8_first)]) (g := 1) (t := 208) (e := 189) (n := 20) (by kernel_rfl) (by kernel_rfl) (by kernel_rfl) (by kernel_rfl) (by kernel_rfl) (by kernel_rfl) h2
theorem locs_ofD {x : V} (h : HasSh shLocs x) : ∃ l : List (ByteArray × ByteArray), x = .sl 2 (l.map locR) ∧ l.length ≤ 9000000000 := by
  obtain ⟨l, rfl⟩ := locs_of h
  refine ⟨l, rfl, ?_⟩
  cases h with | sl hl hm hs hr h =>
  have : bigB = 9000000000 := rfl
  rw [List.length_map] at hl
  omega
/-- What holds of each event that is handed in. -/
structure EvIn (e : Ev) : Prop where
  md : e.md.size ≤ 1000000000000
  locs : e.locs.length ≤ 9000000000
  line : e.line ≤ 9223372036854775807
theorem evs_ofD {x : V} (h : HasSh shEvs x) : ∃ l : List Ev, x = evs l ∧ l.length ≤ 9000000000 ∧ ∀ e ∈ l, EvIn e := by
  cases h with | sl hl hm hs hr h =>
  rename_i rs
  subst hs
  have : ∀ r ∈ rs, ∃ a : Ev, r = a.row ∧ EvIn a := fun r hr' => by
    obtain ⟨x0, q, rfl, h0, hq⟩ := HasL.cons_inv ⟨hr r hr', h r hr'⟩
    obtain ⟨x1, q, rfl, h1, hq⟩ := hq.cons_inv
    obtain ⟨x2, q, rfl, h2, hq⟩ := hq.cons_inv
    obtain ⟨x3, q, rfl, h3, hq⟩ := hq.cons_inv
    obtain ⟨x4, q, rfl, h4, hq⟩ := hq.cons_inv
    obtain ⟨x5, q, rfl, h5, hq⟩ := hq.cons_inv
    obtain ⟨x6, q, rfl, h6, hq⟩ := hq.cons_inv
    obtain ⟨x7, q, rfl, h7, hq⟩ := hq.cons_inv
    have := hq.nil_inv
    subst this
    cases h0 with | int =>
    cases h1 with | str h1 =>
    cases h2 with | str h2 =>
    cases h3 with | int hw3 =>
    cases h4 with | int =>
    cases h5 with | int =>
    cases h6 with | str h6 =>
    obtain ⟨b, rfl, hb⟩ := locs_ofD h7
    refine ⟨⟨_, _, _, _, _, _, _, b⟩, rfl, ?_, hb, ?_⟩
    · have : bigB = 9000000000 := rfl
      dsimp only
      omega
    · simp only [Lit.wf, Bool.and_eq_true, decide_eq_true_eq] at hw3
      exact hw3.2
  obtain ⟨l, rfl, hl2⟩ := rows_ofP this
  refine ⟨l, rfl, ?_, hl2⟩
  rw [List.length_map] at hl
  have : bigB = 9000000000 := rfl
  omega
abbrev shBks : Sh := .sl 56 [.str, .int .i64, .str, .str]
theorem shBks_eq : shT tt 6 33 = some [shBks] := by rfl
theorem bks_of {x : V} (h : HasSh shBks x) : ∃ l : List Bp, x = bks l ∧ l.length ≤ 9000000000 ∧ ∀ b ∈ l, b.md.size ≤ 1000000000000 := by
  cases h with | sl hl hm hs hr h =>
  rename_i rs
  subst hs
  have : ∀ r ∈ rs, ∃ a : Bp, r = a.row ∧ a.md.size ≤ 1000000000000 := fun r hr' => by
    obtain ⟨x0, q, rfl, h0, hq⟩ := HasL.cons_inv ⟨hr r hr', h r hr'⟩
    obtain ⟨x1, q, rfl, h1, hq⟩ := hq.cons_inv
    obtain ⟨x2, q, rfl, h2, hq⟩ := hq.cons_inv
    obtain ⟨x3, q, rfl, h3, hq⟩ := hq.cons_inv
    have := hq.nil_inv
    subst this
    cases h0 with | str h0 =>
    cases h1 with | int =>
    cases h2 with | str h2 =>
    cases h3 with | str h3 =>
    refine ⟨⟨_, _, _, _⟩, rfl, ?_⟩
    have : bigB = 9000000000 := rfl
    dsimp only
    omega
  obtain ⟨l, rfl, hl2⟩ := rows_ofP this
  refine ⟨l, rfl, ?_, hl2⟩
  rw [List.length_map] at hl
  have : bigB = 9000000000 := rfl
  omega
theorem shStr_eq : shT tt 6 9 = some [.str] := by rfl
theorem str_of {x : V} (h : HasSh .str x) : ∃ s : ByteArray, x = .str s ∧ s.size ≤ 9000000000 := by
  cases h with | str h =>
  have : bigB = 9000000000 := rfl
  exact ⟨_, rfl, by omega⟩
abbrev shStrs : Sh := .sl 16 [.str]
end Go.Proofs.YtabmcfnefjipbaaGreatDoor
namespace Go.Proofs.YtabmcfnefjipbaaGreatDoor
open Go.RowKit
/-- A step as an argument of yield. -/
abbrev stepSV (e : Ev) (a : Int) (s : List Ac) : SV := .a [.u (.int .i64 e.kind), .u (.str e.md), .u (.str e.fn), .u (.int .i64 e.line), .u (.int .i64 e.depth), .u (.int .i64 e.fuel), .u (.str e.text), .u (.sl 2 (e.locs.map locR)), .u (.int .i64 a), .u (.sl 3 (s.map acR))]
end Go.Proofs.YtabmcfnefjipbaaGreatDoor
namespace Go.Proofs.YtabmcfnefjipbaaGreatDoor
open Go.RowKit
instance decMem {α : Type} [DecidableEq α] (f : α) (s : List α) : Decidable (f ∈ s) := @List.instDecidableMemOfLawfulBEq α instBEqOfDecidableEq inferInstance f s
structure Co where
  md : ByteArray
  fn : ByteArray
  calls : Int
  rets : Int
  raises : Int
  lines : Int
  own : Int
  tot : Int
abbrev coR (c : Co) : List V := [.str c.md, .str c.fn, .int .i64 c.calls, .int .i64 c.rets, .int .i64 c.raises, .int .i64 c.lines, .int .i64 c.own, .int .i64 c.tot]
def Co.fu (c : Co) : Fu := (c.md, c.fn)
def Ac.fu (a : Ac) : Fu := (a.md, a.fn)
def zeroC (f : Fu) : Co := ⟨f.1, f.2, 0, 0, 0, 0, 0, 0⟩
/-- Where the function stands. -/
def fidx : List Co → Fu → Option Nat
  | [], _ => none
  | c :: r, f => if c.fu = f then some 0 else (fidx r f).map (· + 1)
/-- The function's costs are changed. -/
def updF (g : Co → Co) : List Co → Fu → List Co
  | [], _ => []
  | c :: r, f => if c.fu = f then g c :: r else c :: updF g r f
/-- The map from functions to places. -/
def atE : Nat → List Co → List (List V × List V)
  | _, [] => []
  | k, c :: r => ([.str c.md, .str c.fn], [.int .i64 (k : Int)]) :: atE (k + 1) r
abbrev kFs : List (Nat × TypeId) := [(0, 9), (1, 9)]
/-- The functions that were seen. -/
def seenE (s : List Fu) : List (List V × List V) := s.map fun f => ([.str f.1, .str f.2], [.bool true])
/-- An event is counted. -/
def bump (k : Int) (c : Co) : Co := if k = 1 then { c with lines := c.lines + 1 } else if k = 2 then { c with calls := c.calls + 1 } else if k = 3 then { c with rets := c.rets + 1 } else { c with raises := c.raises + 1 }
def addOwn (a : Int) (c : Co) : Co := { c with own := c.own + a }
def addTot (a : Int) (c : Co) : Co := { c with tot := c.tot + a }
/-- The function is there. -/
def ensF (out : List Co) (f : Fu) : List Co := if f ∈ out.map Co.fu then out else out ++ [zeroC f]
/-- Totals of the functions of a stack. -/
def totM (a : Int) : List Fu → List Ac → List Co → List Co
  | _, [], out => out
  | seen, x :: r, out => if x.fu ∈ seen then totM a seen r out else totM a (seen ++ [x.fu]) r (updF (addTot a) out x.fu)
structure Cs where
  out : List Co
  rest : Int
/-- One step: the event, its amount, the stack behind it. -/
def stepC (x : Cs) (e : Ev) (a : Int) (s : List Ac) : Cs :=
  let out := updF (bump e.kind) (ensF x.out e.fu) e.fu
  match s.getLast? with
  | none => ⟨out, x.rest + a⟩
  | some t => ⟨totM a [] s (updF (addOwn a) out t.fu), x.rest⟩
def costsAt (l : List Ev) (fuel : Int) : Nat → Cs
  | 0 => ⟨[], beforeM l fuel⟩
  | i + 1 => match l[i]? with
    | some e => stepC (costsAt l fuel i) e (amt l fuel i) (stackAt l (i + 1))
    | none => costsAt l fuel i
theorem addTot_fu (a : Int) (c : Co) : (addTot a c).fu = c.fu := rfl
end Go.Proofs.YtabmcfnefjipbaaGreatDoor
namespace Go.Proofs.YtabmcfnefjipbaaGreatDoor
open Go.RowKit
structure CBd (Bo Bt N : Int) (c : Co) : Prop where
  c0 : 0 ≤ c.calls ∧ c.calls ≤ N
  r0 : 0 ≤ c.rets ∧ c.rets ≤ N
  e0 : 0 ≤ c.raises ∧ c.raises ≤ N
  l0 : 0 ≤ c.lines ∧ c.lines ≤ N
  o0 : 0 ≤ c.own ∧ c.own ≤ Bo
  t0 : 0 ≤ c.tot ∧ c.tot ≤ Bt
def CBs (Bo Bt N : Int) (l : List Co) : Prop := ∀ c ∈ l, CBd Bo Bt N c
/-- While totals are added. -/
def TI (B a : Int) (seen : List Fu) (l : List Co) : Prop := ∀ c ∈ l, 0 ≤ c.tot ∧ c.tot ≤ B + a ∧ (c.fu ∉ seen → c.tot ≤ B)
/-- All but the totals. -/
def CN (Bo N : Int) (l : List Co) : Prop := ∀ c ∈ l, (0 ≤ c.calls ∧ c.calls ≤ N) ∧ (0 ≤ c.rets ∧ c.rets ≤ N) ∧ (0 ≤ c.raises ∧ c.raises ≤ N) ∧ (0 ≤ c.lines ∧ c.lines ≤ N) ∧ (0 ≤ c.own ∧ c.own ≤ Bo)
/-- The fuel at an event; behind the last one: that of the run. -/
def curF (l : List Ev) (fuel : Int) (i : Nat) : Int := match l[i]? with
  | some e => e.fuel
  | none => fuel
structure CI (B : Int) (N : Int) (x : Cs) : Prop where
  out : CBs B B N x.out
  r0 : 0 ≤ x.rest
  r1 : x.rest ≤ B
end Go.Proofs.YtabmcfnefjipbaaGreatDoor
namespace Go.Proofs.YtabmcfnefjipbaaGreatDoor
open Go.RowKit
def stepI (e : Ev) (i : Nat) (ix : List Nat) : List Nat := if e.kind = 2 then ix ++ [i] else if e.kind ≠ 1 then ix.dropLast else ix
/-- The reference's stack behind n events. -/
def stkI (l : List Ev) : Nat → List Nat
  | 0 => []
  | n + 1 => match l[n]? with
    | some e => stepI e n (stkI l n)
    | none => stkI l n
theorem stkI_succ {l : List Ev} {i : Nat} {e : Ev} (h : l[i]? = some e) : stkI l (i + 1) = stepI e i (stkI l i) := by rw [stkI, h]
theorem stkI_lt {l : List Ev} : ∀ n, ∀ j ∈ stkI l n, j < n ∧ j < l.length
  | 0, j, h => by simp [stkI] at h
  | n + 1, j, h => by
    have ih := stkI_lt (l := l) n
    rw [stkI] at h
    split at h
    · rename_i e he
      have hn := (List.getElem?_eq_some_iff.1 he).1
      unfold stepI at h
      split at h
      · rcases List.mem_append.1 h with h | h
        · have := ih j h; omega
        · simp at h; omega
      · split at h
        · have := ih j (List.dropLast_subset _ h); omega
        · have := ih j h; omega
    · have := ih j h; omega
theorem stkI_len {l : List Ev} : ∀ n, (stkI l n).length ≤ n
  | 0 => Nat.le_refl _
  | n + 1 => by
    have ih := stkI_len (l := l) n
    rw [stkI]
    split
    · unfold stepI
      split
      · simp; omega
      · split
        · simp; omega
        · omega
    · omega
set_option maxHeartbeats 2000000 in
theorem stack_R (l : List Ev) (n : Nat) (hn : n ≤ l.length) (hl : l.length ≤ 1000000000) : CallsA Tryz.prog 48 [.d (.u (evs l)), di n] [] (Is (.d (.u (.sl 1 ((stkI l n).map ixR))))) := by
  refine callsA_of_vc (T := tt) Tryz.func48 rfl rfl rfl rfl rfl ?_
  repeat' ((conv => whnf); first | refine Gs.id ?_ | fail)
  all_goals (conv => whnf)
  refine ⟨⟨Nat, fun i => i ≤ n, fun i => n - i, fun i => ⟨[(0, .d (.u (evs l))), (1, di n), (5, .d (.ow 900 (stkI l i).length)), (6, di i)], [(900, .ar 3 1 ((stkI l i).map ixR))]⟩, 0, Nat.zero_le _, ⟨[(900, .n 1)], ⟨by (try dsimp only); (repeat (refine LeT.cons rfl (by first | exact LeS.d (by first | exact LeD.u rfl | exact LeD.no rfl rfl | fail) | fail) ?_)); exact LeT.nil, by (try dsimp only); repeat (first | exact LeO.nil | refine LeO.no rfl rfl ?_)⟩⟩, fun i hi => ?_⟩⟩
  dsimp only at hi ⊢
  by_cases h9 : i < n
  · have hil : i < l.length := by omega
    have hev : l[i]? = some l[i] := List.getElem?_eq_getElem hil
    have hst := stkI_succ hev
    have hlen := stkI_len (l := l) i
    have hrow : ∀ {K : List V → Prop} {j : Int}, j = (i : Int) → K (l[i]).row → Ix (l.map Ev.row) j K := fun h k => by subst h; exact Ix.map rfl hil k
    generalize l[i] = e at *
    by_cases h2 : e.kind = 2
    · rw [stepI, if_pos h2] at hst
      repeat' ((conv => whnf); first | refine hrow rfl ?_ | refine Gs.id ?_ | refine Brn.T (by (try simp only [smT]); first | rfl | assumption | omega | fail) ?_ | refine Rng.mk (by (try simp only [smT]); omega) ?_ | refine Apd.mk (by first | rfl | fail) (by first | rfl | simp) (by (try simp only [smT]); first | omega | fail) (by unfold maxLen; first | (simp; omega) | fail) ?_ | fail)
      all_goals (conv => whnf)
      all_goals exact ⟨i + 1, by omega, by omega, [(900, .k 23)], by rw [hst]; exact ⟨by (try dsimp only); (repeat (refine LeT.cons rfl (by first | exact LeS.d (by first | exact LeD.u rfl | exact LeD.ow rfl (by simp) | fail) | fail) ?_)); exact LeT.nil, by (try dsimp only); repeat (first | exact LeO.nil | refine LeO.ar rfl rfl (by first | simp) ?_ | fail)⟩⟩
    · rw [stepI, if_neg h2] at hst
      by_cases h1 : e.kind = 1
      · rw [if_neg (by simpa using h1)] at hst
        repeat' ((conv => whnf); first | refine hrow rfl ?_ | refine Gs.id ?_ | with_reducible refine Brn.F rfl ?_ | refine Brn.T (by (try simp only [smT]); first | rfl | omega | fail) ?_ | refine Brn.F (by (try simp only [smT]); first | rfl | assumption | fail) ?_ | refine Rng.mk (by (try simp only [smT]); omega) ?_ | fail)
        all_goals (conv => whnf)
        all_goals exact ⟨i + 1, by omega, by omega, [(900, .k 900)], by rw [hst]; exact ⟨by (try dsimp only); (repeat (refine LeT.cons rfl (by first | exact LeS.d (by first | exact LeD.u rfl | exact LeD.ow rfl rfl | fail) | fail) ?_)); exact LeT.nil, by (try dsimp only); repeat (first | exact LeO.nil | refine LeO.ar rfl rfl (by first | rfl | fail) ?_ | fail)⟩⟩
      · rw [if_pos h1] at hst
        generalize stkI l i = s at *
        rcases List.eq_nil_or_concat s with rfl | ⟨L, j, rfl⟩
        · repeat' ((conv => whnf); first | refine hrow rfl ?_ | refine Gs.id ?_ | with_reducible refine Brn.F rfl ?_ | refine Brn.T (by (try simp only [smT]); first | rfl | assumption | omega | fail) ?_ | refine Brn.F (by (try simp only [smT]); first | rfl | assumption | fail) ?_ | (refine Bnd.mk (fun hm => ?_); (try simp only [smT] at hm)) | refine Rng.mk (by (try simp only [smT]); omega) ?_ | fail)
          all_goals (conv => whnf)
          all_goals exact ⟨i + 1, by omega, by omega, [(900, .k 900)], by rw [hst]; exact ⟨by (try dsimp only); (repeat (refine LeT.cons rfl (by first | exact LeS.d (by first | exact LeD.u rfl | exact LeD.ow rfl rfl | fail) | fail) ?_)); exact LeT.nil, by (try dsimp only); repeat (first | exact LeO.nil | refine LeO.ar rfl rfl (by first | rfl | fail) ?_ | fail)⟩⟩
        · rw [List.concat_eq_append] at *
          have hsn : (((L ++ [j]).length : Nat) : Int) = (L.length : Int) + 1 := by simp
          rw [List.dropLast_concat] at hst
          repeat' ((conv => whnf); first | refine hrow rfl ?_ | refine Slc.mk ⟨0, L.length, rfl, by simp, by omega, by simp, ?_⟩ | refine Gs.id ?_ | refine Brn.T (by (try simp only [smT]); first | rfl | assumption | omega | fail) ?_ | refine Brn.F (by (try simp only [smT]); first | rfl | assumption | fail) ?_ | (refine Bnd.mk (fun hm => ?_); (try simp only [smT] at hm)) | refine Rng.mk (by (try simp only [smT]); omega) ?_ | fail)
          all_goals (conv => whnf)
          all_goals exact ⟨i + 1, by omega, by omega, [(900, .k 900)], by rw [hst]; exact ⟨(by (try dsimp only); (repeat (refine LeT.cons rfl (by first | exact LeS.d (by first | exact LeD.u rfl | exact LeD.ow rfl rfl | fail) | fail) ?_)); exact LeT.nil), .tr (m := L.length) rfl rfl (by simp) (by simp) .nil⟩⟩
  · obtain rfl : i = n := by omega
    repeat' ((conv => whnf); first | refine Gs.id ?_ | refine Brn.F (by (try simp only [smT]); first | rfl | omega | fail) ?_ | refine Len.mk (by first | rfl | (simp; done) | fail) ?_ | fail)
    all_goals (conv => whnf)
    all_goals first | exact Ret.is rfl | exact Ret.nl (by repeat (fail))
end Go.Proofs.YtabmcfnefjipbaaGreatDoor
namespace Go.Proofs.YtabmcfnefjipbaaGreatDoor
open Go.RowKit
/-- The line of the activation that event e began, behind the first n events; j: its number. -/
def lineM (l : List Ev) (e : Ev) (j : Nat) : Nat → Int
  | 0 => e.line
  | n + 1 => if n ≤ j then e.line else match l[n]? with
    | some x => if x.kind = 1 ∧ x.depth = e.depth then x.line else lineM l e j n
    | none => lineM l e j n
theorem lineM_le {l : List Ev} {e : Ev} {j n : Nat} (h : n ≤ j + 1) : lineM l e j n = e.line := by
  cases n with
  | zero => rfl
  | succ n => rw [lineM, if_pos (by omega)]
theorem lineM_succ {l : List Ev} {e x : Ev} {j n : Nat} (h : j < n) (hx : l[n]? = some x) : lineM l e j (n + 1) = if x.kind = 1 ∧ x.depth = e.depth then x.line else lineM l e j n := by
  rw [lineM, if_neg (by omega), hx]
set_option maxHeartbeats 2000000 in
theorem lineOf_R (l : List Ev) (j n : Nat) (e : Ev) (he : l[j]? = some e) (hjn : j < n) (hn : n ≤ l.length) (hl : l.length ≤ 1000000000) : CallsA Tryz.prog 62 [.d (.u (evs l)), di j, di n] [] (Is (di (lineM l e j n))) := by
  have hjl := (List.getElem?_eq_some_iff.1 he).1
  have hrowj : ∀ {K : List V → Prop} {m : Int}, m = (j : Int) → K e.row → Ix (l.map Ev.row) m K := fun h k => ⟨⟨j, e.row, h, by rw [List.getElem?_map, he]; rfl, k⟩⟩
  refine callsA_of_vc (T := tt) Tryz.func62 rfl rfl rfl rfl rfl ?_
  repeat' ((conv => whnf); first | refine hrowj rfl ?_ | refine Gs.id ?_ | refine Rng.mk (by (try simp only [smT]); omega) ?_ | fail)
  all_goals (conv => whnf)
  refine ⟨⟨Nat, fun i => j + 1 ≤ i ∧ i ≤ n, fun i => n - i, fun i => ⟨[(0, .d (.u (evs l))), (2, di n), (7, di (lineM l e j i)), (8, di e.depth), (9, di i)], []⟩, j + 1, ⟨Nat.le_refl _, by omega⟩, ⟨[], by (dsimp only; rw [lineM_le (Nat.le_refl _)]; exact ⟨by (try dsimp only); (repeat (refine LeT.cons rfl (by first | exact LeS.d (by first | exact LeD.u rfl | fail) | fail) ?_)); exact LeT.nil, by (try dsimp only); repeat (first | exact LeO.nil | fail)⟩)⟩, fun i hi => ?_⟩⟩
  obtain ⟨hi1, hi2⟩ := hi
  dsimp only
  by_cases h9 : i < n
  · obtain ⟨x, hx⟩ : ∃ x, l[i]? = some x := ⟨_, List.getElem?_eq_getElem (by omega)⟩
    have hrow : ∀ {K : List V → Prop} {m : Int}, m = (i : Int) → K x.row → Ix (l.map Ev.row) m K := fun h k => ⟨⟨i, x.row, h, by rw [List.getElem?_map, hx]; rfl, k⟩⟩
    have hst := lineM_succ (e := e) (show j < i by omega) hx
    by_cases hk : x.kind = 1
    · by_cases hd : x.depth = e.depth
      · rw [if_pos ⟨hk, hd⟩] at hst
        repeat' ((conv => whnf); first | refine hrow rfl ?_ | refine Gs.id ?_ | refine Brn.T (by (try simp only [smT]); first | rfl | assumption | omega | fail) ?_ | refine Rng.mk (by (try simp only [smT]); omega) ?_ | fail)
        all_goals (conv => whnf)
        all_goals exact ⟨i + 1, ⟨by omega, by omega⟩, by omega, [], by rw [hst]; exact ⟨by (try dsimp only); (repeat (refine LeT.cons rfl (by first | exact LeS.d (by first | exact LeD.u rfl | fail) | fail) ?_)); exact LeT.nil, by (try dsimp only); repeat (first | exact LeO.nil | fail)⟩⟩
      · rw [if_neg (fun h => hd h.2)] at hst
        generalize lineM l e j i = L at *
        repeat' ((conv => whnf); first | refine hrow rfl ?_ | refine Gs.id ?_ | refine Brn.T (by (try simp only [smT]); first | rfl | assumption | omega | fail) ?_ | refine Brn.F (by (try simp only [smT]); first | rfl | assumption | fail) ?_ | refine Rng.mk (by (try simp only [smT]); omega) ?_ | fail)
        all_goals (conv => whnf)
        all_goals exact ⟨i + 1, ⟨by omega, by omega⟩, by omega, [], by rw [hst]; exact ⟨by (try dsimp only); (repeat (refine LeT.cons rfl (by first | exact LeS.d (by first | exact LeD.u rfl | fail) | fail) ?_)); exact LeT.nil, by (try dsimp only); repeat (first | exact LeO.nil | fail)⟩⟩
    · rw [if_neg (fun h => hk h.1)] at hst
      generalize lineM l e j i = L at *
      repeat' ((conv => whnf); first | refine hrow rfl ?_ | refine Gs.id ?_ | with_reducible refine Brn.F rfl ?_ | refine Brn.T (by (try simp only [smT]); first | rfl | omega | fail) ?_ | refine Brn.F (by (try simp only [smT]); first | rfl | assumption | fail) ?_ | refine Rng.mk (by (try simp only [smT]); omega) ?_ | fail)
      all_goals (conv => whnf)
      all_goals exact ⟨i + 1, ⟨by omega, by omega⟩, by omega, [], by rw [hst]; exact ⟨by (try dsimp only); (repeat (refine LeT.cons rfl (by first | exact LeS.d (by first | exact LeD.u rfl | fail) | fail) ?_)); exact LeT.nil, by (try dsimp only); repeat (first | exact LeO.nil | fail)⟩⟩
  · obtain rfl : i = n := by omega
    repeat' ((conv => whnf); first | refine Gs.id ?_ | refine Brn.F (by (try simp only [smT]); first | rfl | omega | fail) ?_ | fail)
    all_goals (conv => whnf)
    all_goals exact Ret.is rfl
end Go.Proofs.YtabmcfnefjipbaaGreatDoor
namespace Go.Proofs.YtabmcfnefjipbaaGreatDoor
open Go.RowKit
/-- The stack's functions are the active ones. -/
theorem stkI_fu {l : List Ev} (hv : Vd l) : ∀ n, n ≤ l.length → fuI l (stkI l n) = actAt l n
  | 0, _ => rfl
  | i + 1, hi => by
    have he : l[i]? = some l[i] := List.getElem?_eq_getElem (by omega)
    have ok := hv.ok he
    have ih := stkI_fu hv i (by omega)
    have hact : actI l[i] i (stkI l i) = stkI l (i + 1) := by
      rw [stkI_succ he, actI, pushI, stepI]
      have := ok.k1
      by_cases h2 : l[i].kind = 2
      · rw [if_pos h2, if_pos h2, if_neg (by omega)]
      · rw [if_neg h2, if_neg h2]
        by_cases h1 : l[i].kind = 1
        · rw [if_neg (by omega), if_neg (by simpa using h1)]
        · rw [if_pos (by omega), if_pos h1]
    rw [← hact, fuI_act he, ih, actAt_succ he]
end Go.Proofs.YtabmcfnefjipbaaGreatDoor
namespace Go.Proofs.YtabmcfnefjipbaaGreatDoor
open Go.RowKit
/-- The activation that event j began, behind n events. -/
def acOf (l : List Ev) (n j : Nat) : Ac := match l[j]? with
  | some e => ⟨e.md, e.fn, lineM l e j n⟩
  | none => ⟨ByteArray.mk #[], ByteArray.mk #[], 0⟩
/-- The calls on the stack, by their depths. -/
def DepI (l : List Ev) (ix : List Nat) : Prop := ∀ (k j : Nat), ix[k]? = some j → ∃ e, l[j]? = some e ∧ e.depth = (k : Int) + 1
theorem stk_line {l : List Ev} (hv : Vd l) : ∀ n, n ≤ l.length → stackAt l n = (stkI l n).map (acOf l n) ∧ DepI l (stkI l n)
  | 0, _ => ⟨rfl, fun k j h => by simp [stkI] at h⟩
  | n + 1, hn => by
    have he : l[n]? = some l[n] := List.getElem?_eq_getElem (by omega)
    obtain ⟨ih1, ih2⟩ := stk_line hv n (by omega)
    have ok := hv.ok he
    have hlt := stkI_lt (l := l) n
    have hlen := congrArg List.length (stkI_fu hv n (by omega))
    simp only [fuI, List.length_map] at hlen
    have hdep := ok.depth
    have k1 := ok.k1
    rw [stackAt_succ he, stkI_succ he, ih1]
    generalize hx : l[n] = x at *
    have hacs : ∀ j ∈ stkI l n, ¬ (x.kind = 1 ∧ ∃ e, l[j]? = some e ∧ x.depth = e.depth) → acOf l (n + 1) j = acOf l n j := fun j hj hno => by
      obtain ⟨j1, j2⟩ := hlt j hj
      have hje : l[j]? = some l[j] := List.getElem?_eq_getElem j2
      unfold acOf
      rw [hje]
      dsimp only
      rw [lineM_succ j1 he, if_neg (fun h => hno ⟨h.1, l[j], hje, h.2⟩)]
    unfold stepL stepI
    unfold pushM at hdep
    generalize stkI l n = ix at *
    by_cases h2 : x.kind = 2
    · rw [if_pos h2, if_pos h2]
      rw [if_pos h2] at hdep
      refine ⟨?_, fun k j hk => ?_⟩
      · rw [List.map_append, List.map_congr_left fun j hj => hacs j hj (by rintro ⟨h, _⟩; omega)]
        congr 1
        simp only [List.map_cons, List.map_nil, acOf, he]
        rw [lineM_le (Nat.le_refl _)]
      · rcases Nat.lt_or_ge k ix.length with hkl | hkl
        · rw [List.getElem?_append_left hkl] at hk
          exact ih2 k j hk
        · rw [List.getElem?_append_right hkl] at hk
          rcases h0 : k - ix.length with _ | m
          · rw [h0] at hk
            simp at hk
            subst hk
            refine ⟨x, he, ?_⟩
            rw [hdep, List.length_append, ← hlen]
            simp; omega
          · rw [h0] at hk; simp at hk
    · rw [if_neg h2, if_neg h2]
      rw [if_neg h2] at hdep
      by_cases h1 : x.kind = 1
      · rw [if_pos h1, if_neg (by simpa using h1)]
        refine ⟨?_, ih2⟩
        rcases List.eq_nil_or_concat ix with rfl | ⟨L, j, rfl⟩
        · rfl
        · rw [List.concat_eq_append] at *
          have hL : ∀ i ∈ L, acOf l (n + 1) i = acOf l n i := fun i hi => hacs i (by simp [hi]) (by
            rintro ⟨_, e, hie, hde⟩
            obtain ⟨m, hm⟩ := List.mem_iff_getElem?.1 hi
            have hml := (List.getElem?_eq_some_iff.1 hm).1
            obtain ⟨e', he', hd'⟩ := ih2 m i (by rw [List.getElem?_append_left hml]; exact hm)
            rw [hie] at he'
            injection he' with he'
            subst he'
            rw [hdep, ← hlen, List.length_append] at hde
            simp at hde
            omega)
          obtain ⟨e, hje, hd⟩ := ih2 L.length j (by simp)
          obtain ⟨j1, _⟩ := hlt j (by simp)
          have hj : acOf l (n + 1) j = ⟨(acOf l n j).md, (acOf l n j).fn, x.line⟩ := by
            unfold acOf
            rw [hje]
            dsimp only
            rw [lineM_succ j1 he, if_pos ⟨h1, by rw [hdep, ← hlen, hd]; simp⟩]
          simp only [setLn, List.map_append, List.map_cons, List.map_nil, List.getLast?_append, List.getLast?_singleton, Option.some_or, List.dropLast_concat]
          rw [List.map_congr_left hL, hj]
      · rw [if_neg h1, if_pos h1]
        refine ⟨?_, fun k j hk => ?_⟩
        · rw [List.map_congr_left fun j hj => hacs j (List.dropLast_subset _ hj) (by rintro ⟨h, _⟩; exact h1 h), List.map_dropLast]
        · rw [List.getElem?_dropLast] at hk
          split at hk
          · exact ih2 k j hk
          · cases hk
end Go.Proofs.YtabmcfnefjipbaaGreatDoor
