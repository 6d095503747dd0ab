/-
  Part 10 of the proofs of dchanges_holds, dshown_holds: laws and contracts that they need.
-/
import Derived.Test.YtabmcfnefjipbaaGreatDoorU9
import Derived.Test.YtabmcfnefjipbaaGreatDoorRows
import Derived.ProofKit
import Derived.Carry
import Derived.SizedLaws
import Derived.Deep.Slices
import Derived.Deep.Fields
import Derived.ChangeSame
import Derived.Lib.SmallJoins
import Derived.Deep.DeepHandedRow
import Derived.Stop.LaidErr
import Derived.LaidLaws
import Derived.Test.YtabmcfnefjipbaaGreatDoorChecked
import Derived.Lay
set_option linter.unusedVariables false
set_option linter.unusedSimpArgs false
namespace Go.Proofs.YtabmcfnefjipbaaGreatDoor
open Go.RowKit
/-- What is known of a variable in each active function. -/
def stepK' (n : ByteArray) (s : List (Option ByteArray)) (e : Ev) : List (Option ByteArray) := if e.kind = 2 then s ++ [none] else if e.kind = 1 then s.dropLast ++ [varM n e.locs] else s.dropLast
def knAt (l : List Ev) (n : ByteArray) : Nat → List (Option ByteArray)
  | 0 => []
  | i + 1 => match l[i]? with
    | some e => stepK' n (knAt l n i) e
    | none => knAt l n i
theorem knAt_succ {l : List Ev} {n : ByteArray} {i : Nat} {e : Ev} (h : l[i]? = some e) : knAt l n (i + 1) = stepK' n (knAt l n i) e := by rw [knAt, h]
theorem act_len {l : List Ev} (hv : Vd l) {i : Nat} {e : Ev} (h : l[i]? = some e) : e.depth = ((if e.kind = 2 then (actAt l i).length + 1 else (actAt l i).length : Nat) : Int) ∧ (e.kind ≠ 2 → 1 ≤ (actAt l i).length) ∧ (actAt l (i + 1)).length = (if e.kind = 2 then (actAt l i).length + 1 else if e.kind = 1 then (actAt l i).length else (actAt l i).length - 1) := by
  have ok := hv.ok h
  have hd := ok.depth
  have hl := ok.last
  have k1 := ok.k1
  rw [actAt_succ h, actM]
  unfold pushM at *
  by_cases h2 : e.kind = 2
  · simp only [if_pos h2] at hd hl ⊢
    refine ⟨by rw [hd, List.length_append]; rfl, fun h => absurd h2 h, ?_⟩
    rw [if_neg (by omega), List.length_append]; rfl
  · simp only [if_neg h2] at hd hl ⊢
    refine ⟨hd, fun _ => ?_, ?_⟩
    · cases ha : actAt l i with
      | nil => rw [ha] at hl; cases hl
      | cons x r => simp
    · by_cases h1 : e.kind = 1
      · rw [if_neg (by omega), if_pos h1]
      · rw [if_pos (by omega), if_neg h1, List.length_dropLast]
theorem knAt_len {l : List Ev} (hv : Vd l) (n : ByteArray) : ∀ i, i ≤ l.length → (knAt l n i).length = (actAt l i).length
  | 0, _ => rfl
  | i + 1, hi => by
    have he : l[i]? = some l[i] := List.getElem?_eq_getElem (by omega)
    have ih := knAt_len hv n i (by omega)
    obtain ⟨_, h2, h3⟩ := act_len hv he
    rw [h3, knAt_succ he, stepK']
    split
    · rw [List.length_append, ih]; rfl
    · rename_i hk2
      have := h2 hk2
      split
      · rw [List.length_append, List.length_dropLast, ih]
        simp only [List.length_cons, List.length_nil]
        omega
      · rw [List.length_dropLast, ih]
theorem knAt_shown {l : List Ev} (hv : Vd l) (n : ByteArray) : ∀ i, i ≤ l.length → ∀ (k : Nat) o, (knAt l n i)[k]? = some o → o = shownM l ((k : Int) + 1) n i
  | 0, _, k, o, h => by simp [knAt] at h
  | i + 1, hi, k, o, h => by
    have he : l[i]? = some l[i] := List.getElem?_eq_getElem (by omega)
    have ih := knAt_shown hv n i (by omega)
    have hl := knAt_len hv n i (by omega)
    obtain ⟨d1, d2, _⟩ := act_len hv he
    rw [← hl] at d1 d2
    rw [knAt_succ he, stepK'] at h
    rw [shownM_succ he]
    generalize hx : l[i] = x at *
    by_cases h2 : x.kind = 2
    · rw [if_pos h2] at h d1
      rw [if_neg (by omega)]
      rcases Nat.lt_or_ge k (knAt l n i).length with hk | hk
      · rw [List.getElem?_append_left hk] at h
        rw [if_neg (by omega)]
        exact ih k o h
      · rw [List.getElem?_append_right hk] at h
        rcases h0 : k - (knAt l n i).length with _ | m
        · rw [h0] at h
          simp at h
          rw [if_pos (by omega), h]
        · rw [h0] at h; simp at h
    · rw [if_neg h2] at h d1
      have d3 := d2 h2
      rw [if_neg (c := x.depth = _ ∧ x.kind = 2) (fun h => h2 h.2)]
      by_cases h1 : x.kind = 1
      · rw [if_pos h1] at h
        rcases Nat.lt_or_ge k (knAt l n i).dropLast.length with hk | hk
        · rw [List.getElem?_append_left hk, List.getElem?_dropLast] at h
          rw [List.length_dropLast] at hk
          rw [if_pos hk] at h
          rw [if_neg (by omega)]
          exact ih k o h
        · rw [List.getElem?_append_right hk] at h
          rw [List.length_dropLast] at hk h
          rcases h0 : k - ((knAt l n i).length - 1) with _ | m
          · rw [h0] at h
            simp at h
            rw [if_pos ⟨by omega, h1⟩, h]
          · rw [h0] at h; simp at h
      · rw [if_neg h1] at h
        rw [if_neg (fun h => h1 h.2)]
        rw [List.getElem?_dropLast] at h
        split at h
        · exact ih k o h
        · cases h
/-- At a stop: what was known of the variable. -/
theorem kn_last {l : List Ev} (hv : Vd l) (n : ByteArray) {i : Nat} {e : Ev} (h : l[i]? = some e) (hk : e.kind ≠ 2) : ∃ L, knAt l n i = L ++ [shownM l e.depth n i] := by
  have hi := (List.getElem?_eq_some_iff.1 h).1
  have hl := knAt_len hv n i (by omega)
  obtain ⟨d1, d2, _⟩ := act_len hv h
  have d3 := d2 hk
  rw [if_neg hk] at d1
  rcases List.eq_nil_or_concat (knAt l n i) with h0 | ⟨L, o, h0⟩
  · rw [h0] at hl; simp at hl; omega
  · rw [List.concat_eq_append] at h0
    have ho := knAt_shown hv n i (by omega) L.length o (by rw [h0]; simp)
    rw [h0, List.length_append] at hl
    simp only [List.length_cons, List.length_nil] at hl
    rw [show ((L.length : Int) + 1) = e.depth by omega] at ho
    exact ⟨L, by rw [h0, ho]⟩
/-- The reference looks at the event before in the same depth. -/
def prevM (l : List Ev) (d : Int) (n : ByteArray) : Nat → Option ByteArray
  | 0 => none
  | i + 1 => match l[i]? with
    | some e => if e.depth = d then (if e.kind = 1 then varM n e.locs else none) else prevM l d n i
    | none => prevM l d n i
theorem prevM_succ {l : List Ev} {d : Int} {n : ByteArray} {i : Nat} {e : Ev} (h : l[i]? = some e) : prevM l d n (i + 1) = if e.depth = d then (if e.kind = 1 then varM n e.locs else none) else prevM l d n i := by rw [prevM, h]
theorem prev_agree {l : List Ev} (hv : Vd l) (n : ByteArray) : ∀ i, i ≤ l.length → ∀ k : Nat, k < (actAt l i).length → prevM l ((k : Int) + 1) n i = shownM l ((k : Int) + 1) n i
  | 0, _, k, h => by simp [actAt] at h
  | i + 1, hi, k, h => by
    have he : l[i]? = some l[i] := List.getElem?_eq_getElem (by omega)
    have ih := prev_agree hv n i (by omega)
    obtain ⟨d1, d2, d3⟩ := act_len hv he
    rw [d3] at h
    rw [prevM_succ he, shownM_succ he]
    generalize hx : l[i] = x at *
    by_cases h2 : x.kind = 2
    · rw [if_pos h2] at h d1
      by_cases hd : x.depth = (k : Int) + 1
      · rw [if_pos hd, if_neg (by omega), if_neg (by omega), if_pos ⟨hd, h2⟩]
      · rw [if_neg hd, if_neg (fun h => hd h.1), if_neg (fun h => hd h.1)]
        exact ih k (by omega)
    · rw [if_neg h2] at h d1
      rw [if_neg (c := x.depth = _ ∧ x.kind = 2) (fun h => h2 h.2)]
      by_cases h1 : x.kind = 1
      · rw [if_pos h1] at h
        by_cases hd : x.depth = (k : Int) + 1
        · rw [if_pos hd, if_pos h1, if_pos ⟨hd, h1⟩]
        · rw [if_neg hd, if_neg (fun h => hd h.1)]
          exact ih k h
      · rw [if_neg h1] at h
        have hd : ¬ x.depth = (k : Int) + 1 := by omega
        rw [if_neg hd, if_neg (fun h => hd h.1)]
        exact ih k (by omega)
theorem prev_at {l : List Ev} (hv : Vd l) (n : ByteArray) {i : Nat} {e : Ev} (h : l[i]? = some e) (hk : e.kind ≠ 2) : prevM l e.depth n i = shownM l e.depth n i := by
  have hi := (List.getElem?_eq_some_iff.1 h).1
  obtain ⟨d1, d2, _⟩ := act_len hv h
  have d3 := d2 hk
  rw [if_neg hk] at d1
  have := prev_agree hv n i (by omega) ((actAt l i).length - 1) (by omega)
  rw [show (((actAt l i).length - 1 : Nat) : Int) + 1 = e.depth by omega] at this
  exact this
/-- A change. -/
abbrev Ch := Nat × ByteArray
abbrev chR (c : Ch) : List V := [.int .i64 (c.1 : Int), .str c.2]
/-- Which events are changes. -/
def isCh (l : List Ev) (md fn n : ByteArray) (i : Nat) (e : Ev) : Prop := e.kind = 1 ∧ e.md = md ∧ e.fn = fn ∧ varM n e.locs ≠ shownM l e.depth n i
instance (l : List Ev) (md fn n : ByteArray) (i : Nat) (e : Ev) : Decidable (isCh l md fn n i e) := by unfold isCh; infer_instance
def chM (l : List Ev) (md fn n : ByteArray) : Nat → List Ch
  | 0 => []
  | i + 1 => match l[i]? with
    | some e => if isCh l md fn n i e then chM l md fn n i ++ [(i, (varM n e.locs).getD emB)] else chM l md fn n i
    | none => chM l md fn n i
theorem chM_succ {l : List Ev} {md fn n : ByteArray} {i : Nat} {e : Ev} (h : l[i]? = some e) : chM l md fn n (i + 1) = if isCh l md fn n i e then chM l md fn n i ++ [(i, (varM n e.locs).getD emB)] else chM l md fn n i := by rw [chM, h]
theorem chM_len {l : List Ev} {md fn n : ByteArray} : ∀ i, (chM l md fn n i).length ≤ i
  | 0 => Nat.le_refl _
  | i + 1 => by
    have ih := chM_len (l := l) (md := md) (fn := fn) (n := n) i
    rw [chM]
    split
    · split
      · simp; omega
      · omega
    · omega
theorem chM_mem {l : List Ev} {md fn n : ByteArray} : ∀ i, i ≤ l.length → ∀ c ∈ chM l md fn n i, c.1 < i ∧ ∃ e, l[c.1]? = some e ∧ isCh l md fn n c.1 e ∧ c.2 = (varM n e.locs).getD emB
  | 0, _, c, h => by simp [chM] at h
  | i + 1, hi, c, h => by
    have he : l[i]? = some l[i] := List.getElem?_eq_getElem (by omega)
    have ih := chM_mem (l := l) (md := md) (fn := fn) (n := n) i (by omega)
    rw [chM_succ he] at h
    split at h
    · rename_i hc
      rcases List.mem_append.1 h with h | h
      · obtain ⟨h1, h2⟩ := ih c h
        exact ⟨by omega, h2⟩
      · simp at h
        subst h
        exact ⟨by dsimp only; omega, _, he, hc, rfl⟩
    · obtain ⟨h1, h2⟩ := ih c h
      exact ⟨by omega, h2⟩
theorem chM_has {l : List Ev} {md fn n : ByteArray} : ∀ i, i ≤ l.length → ∀ (j : Nat) e, j < i → l[j]? = some e → isCh l md fn n j e → (j, (varM n e.locs).getD emB) ∈ chM l md fn n i
  | 0, _, j, e, h, _, _ => by omega
  | i + 1, hi, j, e, h, hj, hc => by
    have he : l[i]? = some l[i] := List.getElem?_eq_getElem (by omega)
    have ih := chM_has (l := l) (md := md) (fn := fn) (n := n) i (by omega)
    rw [chM_succ he]
    by_cases hji : j = i
    · subst hji
      rw [he] at hj
      injection hj with hj
      subst hj
      rw [if_pos hc]
      simp
    · have := ih j e (by omega) hj hc
      split
      · exact List.mem_append_left _ this
      · exact this
theorem chM_sorted {l : List Ev} {md fn n : ByteArray} : ∀ i, i ≤ l.length → (chM l md fn n i).Pairwise fun a b => a.1 < b.1
  | 0, _ => .nil
  | i + 1, hi => by
    have he : l[i]? = some l[i] := List.getElem?_eq_getElem (by omega)
    have ih := chM_sorted (l := l) (md := md) (fn := fn) (n := n) i (by omega)
    rw [chM_succ he]
    split
    · rw [List.pairwise_append]
      refine ⟨ih, by simp, fun a ha b hb => ?_⟩
      simp at hb
      subst hb
      exact (chM_mem i (by omega) a ha).1
    · exact ih
/-- Behind the k-th change and ahead of the next one there is none. -/
theorem ch_between {l : List Ev} {md fn n : ByteArray} {k j : Nat} {c : Ch} {e : Ev} (hk : (chM l md fn n l.length)[k]? = some c) (hj : l[j]? = some e) (h1 : c.1 < j) (h2 : ∀ d, (chM l md fn n l.length)[k + 1]? = some d → j < d.1) : ¬ isCh l md fn n j e := by
  intro hc
  have hjl := (List.getElem?_eq_some_iff.1 hj).1
  have hm := chM_has l.length (Nat.le_refl _) j e hjl hj hc
  have hs := chM_sorted (l := l) (md := md) (fn := fn) (n := n) l.length (Nat.le_refl _)
  generalize chM l md fn n l.length = cs at *
  obtain ⟨m, hm⟩ := List.mem_iff_getElem?.1 hm
  obtain ⟨hm1, hm2⟩ := List.getElem?_eq_some_iff.1 hm
  obtain ⟨hk1, hk2⟩ := List.getElem?_eq_some_iff.1 hk
  rw [List.pairwise_iff_getElem] at hs
  have e1 : cs[m].1 = j := by rw [hm2]
  have e2 : cs[k].1 = c.1 := by rw [hk2]
  rcases Nat.lt_trichotomy m k with h | h | h
  · have := hs m k hm1 hk1 h
    omega
  · subst h; omega
  · have h3 := h2 _ (List.getElem?_eq_getElem (show k + 1 < cs.length by omega))
    rcases Nat.lt_or_ge (k + 1) m with h4 | h4
    · have := hs (k + 1) m (by omega) hm1 h4
      omega
    · obtain rfl : m = k + 1 := by omega
      omega
/-- Within an activation, behind a stop of it: the function and its text stay the same. -/
structure Wi (l : List Ev) (n : ByteArray) (e : Ev) (i : Nat) : Prop where
  fu : ∃ k : Nat, e.depth = (k : Int) + 1 ∧ (actAt l i)[k]? = some e.fu
  tx : shownM l e.depth n i = varM n e.locs
theorem Wi.first {l : List Ev} (hv : Vd l) (n : ByteArray) {i : Nat} {e : Ev} (h : l[i]? = some e) (hk : e.kind = 1) : Wi l n e (i + 1) := by
  obtain ⟨d1, d2, d3⟩ := act_len hv h
  have d4 := d2 (by omega)
  rw [if_neg (by omega)] at d1
  rw [if_neg (by omega), if_pos hk] at d3
  have hl := (hv.ok h).last
  rw [pushM, if_neg (by omega)] at hl
  have ha : actAt l (i + 1) = actAt l i := by rw [actAt_succ h, actM, pushM, if_neg (by omega), if_neg (by omega)]
  refine ⟨⟨(actAt l i).length - 1, by omega, ?_⟩, ?_⟩
  · rw [ha, ← hl, List.getLast?_eq_getElem?]
  · rw [shownM_succ h, if_pos ⟨rfl, hk⟩]
/-- One event further: deeper. -/
theorem Wi.deep {l : List Ev} (hv : Vd l) {n : ByteArray} {e x : Ev} {i : Nat} (w : Wi l n e i) (h : l[i]? = some x) (hd : e.depth < x.depth) : Wi l n e (i + 1) := by
  obtain ⟨⟨k, k1, k2⟩, k3⟩ := w
  obtain ⟨d1, d2, d3⟩ := act_len hv h
  have hx : shownM l e.depth n (i + 1) = shownM l e.depth n i := by rw [shownM_succ h, if_neg (by omega), if_neg (by omega)]
  refine ⟨⟨k, k1, ?_⟩, by rw [hx, k3]⟩
  have hkl := (List.getElem?_eq_some_iff.1 k2).1
  rw [actAt_succ h, actM, pushM]
  by_cases h2 : x.kind = 2
  · rw [if_pos h2, if_neg (by omega), List.getElem?_append_left hkl]
    exact k2
  · rw [if_neg h2] at d1 ⊢
    split
    · rw [List.getElem?_dropLast, if_pos (by omega)]
      exact k2
    · exact k2
/-- An event of the activation itself. -/
theorem Wi.same {l : List Ev} (hv : Vd l) {n : ByteArray} {e x : Ev} {i : Nat} (w : Wi l n e i) (h : l[i]? = some x) (hd : x.depth = e.depth) : x.kind ≠ 2 ∧ x.fu = e.fu := by
  obtain ⟨⟨k, k1, k2⟩, k3⟩ := w
  obtain ⟨d1, d2, d3⟩ := act_len hv h
  have hkl := (List.getElem?_eq_some_iff.1 k2).1
  have h2 : x.kind ≠ 2 := fun h2 => by
    rw [if_pos h2] at d1
    omega
  rw [if_neg h2] at d1
  have hl := (hv.ok h).last
  rw [pushM, if_neg h2, List.getLast?_eq_getElem?, show (actAt l i).length - 1 = k by omega, k2] at hl
  injection hl with hl
  exact ⟨h2, hl.symm⟩
/-- A stop of it that is no change. -/
theorem Wi.line {l : List Ev} (hv : Vd l) {n : ByteArray} {e x : Ev} {i : Nat} (w : Wi l n e i) (h : l[i]? = some x) (hd : x.depth = e.depth) (hk : x.kind = 1) (hc : ¬ isCh l e.md e.fn n i x) : varM n x.locs = varM n e.locs ∧ Wi l n e (i + 1) := by
  obtain ⟨h1, h2⟩ := w.same hv h hd
  have h3 : varM n x.locs = shownM l x.depth n i := by
    by_cases h4 : varM n x.locs = shownM l x.depth n i
    · exact h4
    · exfalso
      refine hc ⟨hk, ?_, ?_, h4⟩
      · exact congrArg Prod.fst h2
      · exact congrArg Prod.snd h2
  have h5 : varM n x.locs = varM n e.locs := by rw [h3, hd, w.tx]
  obtain ⟨⟨k, k1, k2⟩, k3⟩ := w
  refine ⟨h5, ⟨k, k1, ?_⟩, ?_⟩
  · rw [actAt_succ h, actM, pushM, if_neg h1, if_neg (by omega)]
    exact k2
  · rw [shownM_succ h, if_pos ⟨hd, hk⟩, h5]
/-- What Show finds at such an event. -/
theorem Wi.shown {l : List Ev} (hv : Vd l) {n : ByteArray} {e x : Ev} {i : Nat} (w : Wi l n e i) (h : l[i]? = some x) (hd : x.depth = e.depth) (hc : x.kind = 1 → ¬ isCh l e.md e.fn n i x) : showM l i n = varM n e.locs := by
  rw [shown_agree hv n h, shownM_succ h]
  obtain ⟨h1, h2⟩ := w.same hv h hd
  by_cases hk : x.kind = 1
  · rw [if_pos ⟨rfl, hk⟩]
    exact (w.line hv h hd hk (hc hk)).1
  · rw [if_neg (fun h => hk h.2), if_neg (fun h => h1 h.2), hd, w.tx]
end Go.Proofs.YtabmcfnefjipbaaGreatDoor
namespace Go.Proofs.YtabmcfnefjipbaaGreatDoor
open Go.RowKit
set_option maxHeartbeats 1000000 in
theorem variable_R (e : Ev) (n : ByteArray) (hl : e.locs.length ≤ 9000000000) : CallsA Tryz.prog 64 [.a e.ds, dsr n] [] (Is (varS (varM n e.locs))) := by
  refine callsA_of_vc (T := tt) Tryz.func64 rfl rfl rfl rfl rfl ?_
  repeat' ((conv => whnf); first | refine Gs.id ?_ | fail)
  all_goals (conv => whnf)
  refine ⟨⟨Nat, fun i => i ≤ e.locs.length ∧ varM n e.locs = varM n (e.locs.drop i), fun i => e.locs.length - i, fun i => ⟨[(1, dsr n), (2, .d (.p 2 0)), (6, di i)], [(2, .bx 58 e.ds)]⟩, 0, ⟨Nat.zero_le _, rfl⟩, ⟨[(2, .k 2)], ⟨by (try dsimp only); (repeat (refine LeT.cons rfl (by first | exact LeS.d (by first | exact LeD.u rfl | exact LeD.p rfl | fail) | fail) ?_)); exact LeT.nil, by (try dsimp only); repeat (first | exact LeO.nil | refine LeO.bx rfl rfl (by repeat (first | exact LeL.nil | refine LeL.cons (by first | exact LeD.u rfl | fail) ?_)) ?_ | fail)⟩⟩, fun i hi => ?_⟩⟩
  obtain ⟨hi, he⟩ := hi
  dsimp only
  rw [he]
  by_cases h9 : i < e.locs.length
  · rw [List.drop_eq_getElem_cons h9, varM]
    have hrow : ∀ {K : List V → Prop}, K (locR e.locs[i]) → Ix (e.locs.map locR) (i : Int) K := fun k => Ix.map rfl h9 k
    generalize e.locs[i] = p at *
    have hq := toList_beq p.1 n
    by_cases hp : p.1 = n
    · rw [decide_eq_true hp] at hq
      rw [if_pos hp]
      repeat' ((conv => whnf); first | refine hrow ?_ | rw [hq] | refine Gs.id ?_ | with_reducible refine Brn.T rfl ?_ | refine Brn.T (by (try simp only [smT]); first | rfl | omega | fail) ?_ | (refine Bnd.mk (fun hm => ?_); (try simp only [smT] at hm)) | fail)
      all_goals (conv => whnf)
      all_goals exact Ret.is rfl
    · rw [decide_eq_false hp] at hq
      rw [if_neg hp]
      repeat' ((conv => whnf); first | refine hrow ?_ | rw [hq] | refine Gs.id ?_ | with_reducible refine Brn.F rfl ?_ | refine Brn.T (by (try simp only [smT]); first | rfl | omega | fail) ?_ | (refine Bnd.mk (fun hm => ?_); (try simp only [smT] at hm)) | refine Rng.mk (by (try simp only [smT]); omega) ?_ | fail)
      all_goals (conv => whnf)
      all_goals exact ⟨i + 1, ⟨by omega, rfl⟩, by omega, [(2, .k 2)], ⟨by (try dsimp only); (repeat (refine LeT.cons rfl (by first | exact LeS.d (by first | exact LeD.u rfl | exact LeD.p rfl | fail) | fail) ?_)); exact LeT.nil, by (try dsimp only); repeat (first | exact LeO.nil | refine LeO.bx rfl rfl (by repeat (first | exact LeL.nil | refine LeL.cons (by first | exact LeD.u rfl | fail) ?_)) ?_ | fail)⟩⟩
  · obtain rfl : i = e.locs.length := by omega
    rw [List.drop_length, varM]
    repeat' ((conv => whnf); first | refine Gs.id ?_ | refine Brn.F (by (try simp only [smT]); first | rfl | omega | fail) ?_ | (refine Bnd.mk (fun hm => ?_); (try simp only [smT] at hm)) | fail)
    all_goals (conv => whnf)
    all_goals exact Ret.is rfl
end Go.Proofs.YtabmcfnefjipbaaGreatDoor
namespace Go.Proofs.YtabmcfnefjipbaaGreatDoor
open Go.RowKit
end Go.Proofs.YtabmcfnefjipbaaGreatDoor
namespace Go.Proofs.YtabmcfnefjipbaaGreatDoor
open Go.RowKit
/-- Which stops a command looks for. -/
def gB (b2 b3 b4 b6 b7 : Bool) (D : Int) (bs : List Bp) (e : Ev) : Bool := cond (b2 || b6) (decide (e.depth ≤ D)) (cond b3 (decide (e.depth < D)) (cond (b4 || b7) (bs.any (hitB e)) true))
/-- The best position so far. -/
def bestM (fw : Bool) (p : Int) (g : Ev → Bool) : List Ev → Nat → Int → Int
  | [], _, b => b
  | e :: r, i, b => bestM fw p g r (i + 1) (if e.kind = 1 ∧ g e = true ∧ cond fw (decide (p < (i : Int)) && decide ((i : Int) < b)) (decide ((i : Int) < p)) = true then (i : Int) else b)
def depR (l : List Ev) (p : Int) : Int := if 0 ≤ p ∧ p ≤ (l.length : Int) - 1 then (match l[p.toNat]? with | some e => e.depth | none => 0) else 100000
end Go.Proofs.YtabmcfnefjipbaaGreatDoor
namespace Go.Proofs.YtabmcfnefjipbaaGreatDoor
open Go.RowKit
/-- What the reference's Moved answers. -/
def movedM (l : List Ev) (bs : List Bp) (p : Int) (c : ByteArray) : Int × Bool :=
  if c = stepK then (bestM true p (gB false false false false false (depR l p) bs) l 0 (l.length : Int), true)
  else if c = overK then (bestM true p (gB true false false false false (depR l p) bs) l 0 (l.length : Int), true)
  else if c = outK' then (bestM true p (gB false true false false false (depR l p) bs) l 0 (l.length : Int), true)
  else if c = goK then (bestM true p (gB false false true false false (depR l p) bs) l 0 (l.length : Int), true)
  else if c = backK then (bestM false p (gB false false false false false (depR l p) bs) l 0 (-1), true)
  else if c = underK then (bestM false p (gB false false false true false (depR l p) bs) l 0 (-1), true)
  else if c = rewindK then (bestM false p (gB false false false false true (depR l p) bs) l 0 (-1), true) else (0, false)
theorem actAt_len {l : List Ev} : ∀ i, i ≤ l.length → (actAt l i).length ≤ i
  | 0, _ => by simp [actAt]
  | i + 1, h => by
    have he : l[i]? = some l[i] := List.getElem?_eq_getElem (by omega)
    have ih := actAt_len (l := l) i (by omega)
    rw [actAt_succ he]
    unfold actM pushM
    split <;> split <;> simp <;> omega
end Go.Proofs.YtabmcfnefjipbaaGreatDoor
namespace Go.Proofs.YtabmcfnefjipbaaGreatDoor
open Go.RowKit
abbrev knR (o : Option ByteArray) : List V := [.str (o.getD emB), .bool o.isSome]
abbrev chs (s : List Ch) : V := .sl 2 (s.map chR)
/-- What is wrong with the arguments of Changes. -/
def chF (l : List Ev) (md fn n : ByteArray) : Int × Int := if (validM l).1 ≠ 0 then validM l else if dottedM md = false then (7, -2) else if nameB fn = false then (7, -3) else if nameB n = false then (7, -4) else (0, 0)
def chP (l : List Ev) (md fn n : ByteArray) : List Ch := if (chF l md fn n).1 ≠ 0 then [] else chM l md fn n l.length
abbrev chS (l : List Ev) (md fn n : ByteArray) : SV := .t [.d (.u (chs (chP l md fn n))), .a [.u (.int .i64 (chF l md fn n).1), .u (.int .i64 (chF l md fn n).2)]]
theorem opt_eq {a b : Option ByteArray} : a = b ↔ a.getD emB = b.getD emB ∧ a.isSome = b.isSome := by
  cases a <;> cases b <;> simp
theorem valid_zero {l : List Ev} (h : (validM l).1 = 0) : validM l = (0, 0) := by
  have q := posM_zero (l := l) (p := -1) (by unfold posM; rw [if_neg (by simpa using h), if_neg (by omega)])
  unfold posM at q
  rw [if_neg (by simpa using h)] at q
  have : ∀ (r : List Ev) (i f : Int) (a : List Fu), (vFrom i f a r).1 = 0 → (vFrom i f a r).2 = 0 := by
    intro r
    induction r with
    | nil => intro i f a _; rfl
    | cons x r ih =>
      intro i f a h
      rw [vFrom] at h ⊢
      split at h
      · rename_i h2; exact absurd h h2
      · rename_i h2; rw [if_neg h2]; exact ih _ _ _ h
  have e1 : (validM l).2 = 0 := by
    unfold validM at h ⊢
    split at h
    · cases h
    · rename_i h2; rw [if_neg h2]; exact this _ _ _ _ h
  exact Prod.ext h e1
set_option maxHeartbeats 8000000 in
theorem changes_T (l : List Ev) (md fn n : ByteArray) (hl : ∀ e ∈ l, e.locs.length ≤ 9000000000) : CallsA Tryz.prog 35 [.d (.u (evs l)), dsr md, dsr fn, dsr n] [] (Is (chS l md fn n)) := by
  have h1 := validate_T l
  unfold chS
  by_cases v1 : (validM l).1 = 0
  · obtain ⟨hv, hL⟩ := valid_Vd v1
    have hd := dotted_T_d md
    have hn1 := isName_T' fn
    have hn2 := isName_T' n
    rw [valid_zero v1] at h1
    have hF : chF l md fn n = if dottedM md = false then (7, -2) else if nameB fn = false then (7, -3) else if nameB n = false then (7, -4) else (0, 0) := by rw [chF, if_neg (by simpa using v1)]
    have hP : chP l md fn n = if (chF l md fn n).1 ≠ 0 then [] else chM l md fn n l.length := rfl
    generalize chP l md fn n = cp at *
    rw [hF] at hP ⊢
    clear hF v1
    generalize dottedM md = b1 at *
    generalize nameB fn = b2 at *
    generalize nameB n = b3 at *
    generalize hq : (if b1 = false then ((7 : Int), (-2 : Int)) else if b2 = false then (7, -3) else if b3 = false then (7, -4) else (0, 0)) = q at *
    refine callsA_of_vc (T := tt) Tryz.func35 rfl rfl rfl rfl rfl ?_
    repeat' ((conv => whnf); first | refine Gs.id ?_ | with_reducible refine Brn.F rfl ?_ | (refine Bnd.mk (fun hm => ?_); (try simp only [smT] at hm)) | (refine CL.mk (Or.inl ?_); (conv => whnf); first | refine Cl.is (h1) rfl (by first | exact fun _ => rfl | fail) ?_ | refine Cl.is (hd) rfl (by first | exact fun _ => rfl | fail) ?_ | refine Cl.is (hn1) rfl (by first | exact fun _ => rfl | fail) ?_ | refine Cl.is (hn2) rfl (by first | exact fun _ => rfl | fail) ?_) | fail)
    all_goals (conv => whnf)
    all_goals try (exfalso; simp at *; done)
    clear h1 hd hn1 hn2
    refine ⟨⟨Nat, fun i => i ≤ 3 ∧ (0 < i → b1 = true) ∧ (1 < i → b2 = true) ∧ (2 < i → b3 = true), fun i => 3 - i, fun i => ⟨[(0, .d (.u (evs l))), (1, dsr md), (2, dsr fn), (3, dsr n), (9, .d (.p 9 0)), (33, .d (.ow 933 3)), (34, di 3), (35, di i)], [(9, .bx 25 [.u (.int .i64 0), .u (.int .i64 0)]), (933, .ar 4 1 [[.bool b1], [.bool b2], [.bool b3]])]⟩, 0, ⟨by omega, by omega, by omega, by omega⟩, ⟨[(9, .k 9), (933, .k 33)], ⟨by (try dsimp only); (repeat (refine LeT.cons rfl (by first | exact LeS.d (by first | exact LeD.u rfl | exact LeD.p rfl | exact LeD.ow rfl rfl | fail) | fail) ?_)); exact LeT.nil, by (try dsimp only); repeat (first | exact LeO.nil | refine LeO.bx rfl rfl (by repeat (first | exact LeL.nil | refine LeL.cons (by first | exact LeD.u rfl | fail) ?_)) ?_ | refine LeO.ar rfl rfl (by first | rfl | fail) ?_ | fail)⟩⟩, fun i hi => ?_⟩⟩
    obtain ⟨hi, i1, i2, i3⟩ := hi
    dsimp only
    have hz1 : q.1 ≠ 0 → cp = [] := fun h0 => by rw [hP, if_pos h0]
    rcases (show i = 0 ∨ i = 1 ∨ i = 2 ∨ i = 3 by omega) with rfl | rfl | rfl | rfl
    · cases b1
      · obtain rfl : q = (7, -2) := by simpa using hq.symm
        have hc0 := hz1 (by decide)
        subst hc0
        repeat' ((conv => whnf); first | refine Ixo.mk ⟨0, rfl, by omega, ?_⟩ | refine Gs.id ?_ | with_reducible refine Brn.T rfl ?_ | refine Rng.mk (by (try simp only [smT]); omega) ?_ | refine Rw.lit rfl ?_ | fail)
        all_goals (conv => whnf)
        all_goals first | exact Ret.nl (by repeat (first | exact NlL.nil | exact NlCs.nil | exact NlD.refl | exact NlD.u (NlV.nl (by first | rfl | fail)) | refine NlL.cons ?_ ?_ | refine NlCs.cons ?_ ?_ | refine NlS.t ?_ | refine NlC.a ?_ | refine NlC.d ?_)) | (exfalso; simp at *; done)
      · repeat' ((conv => whnf); first | refine Ixo.mk ⟨0, rfl, by omega, ?_⟩ | refine Gs.id ?_ | with_reducible refine Brn.T rfl ?_ | with_reducible refine Brn.F rfl ?_ | refine Rng.mk (by (try simp only [smT]); omega) ?_ | refine Rw.lit rfl ?_ | fail)
        all_goals (conv => whnf)
        all_goals first | (exfalso; simp at *; done) | exact ⟨1, ⟨by omega, fun _ => rfl, fun h => by omega, fun h => by omega⟩, by omega, [(9, .k 9), (933, .k 933)], ⟨by (try dsimp only); (repeat (refine LeT.cons rfl (by first | exact LeS.d (by first | exact LeD.u rfl | exact LeD.p rfl | exact LeD.ow rfl rfl | fail) | fail) ?_)); exact LeT.nil, by (try dsimp only); repeat (first | exact LeO.nil | refine LeO.bx rfl rfl (by repeat (first | exact LeL.nil | refine LeL.cons (by first | exact LeD.u rfl | fail) ?_)) ?_ | refine LeO.ar rfl rfl (by first | rfl | fail) ?_ | fail)⟩⟩
    · obtain rfl := i1 (by omega)
      cases b2
      · obtain rfl : q = (7, -3) := by simpa using hq.symm
        have hc0 := hz1 (by decide)
        subst hc0
        repeat' ((conv => whnf); first | refine Ixo.mk ⟨1, rfl, by omega, ?_⟩ | refine Gs.id ?_ | with_reducible refine Brn.T rfl ?_ | refine Rng.mk (by (try simp only [smT]); omega) ?_ | refine Rw.lit rfl ?_ | fail)
        all_goals (conv => whnf)
        all_goals first | exact Ret.nl (by repeat (first | exact NlL.nil | exact NlCs.nil | exact NlD.refl | exact NlD.u (NlV.nl (by first | rfl | fail)) | refine NlL.cons ?_ ?_ | refine NlCs.cons ?_ ?_ | refine NlS.t ?_ | refine NlC.a ?_ | refine NlC.d ?_)) | (exfalso; simp at *; done)
      · repeat' ((conv => whnf); first | refine Ixo.mk ⟨1, rfl, by omega, ?_⟩ | refine Gs.id ?_ | with_reducible refine Brn.T rfl ?_ | with_reducible refine Brn.F rfl ?_ | refine Rng.mk (by (try simp only [smT]); omega) ?_ | refine Rw.lit rfl ?_ | fail)
        all_goals (conv => whnf)
        all_goals first | (exfalso; simp at *; done) | exact ⟨2, ⟨by omega, fun _ => rfl, fun _ => rfl, fun h => by omega⟩, by omega, [(9, .k 9), (933, .k 933)], ⟨by (try dsimp only); (repeat (refine LeT.cons rfl (by first | exact LeS.d (by first | exact LeD.u rfl | exact LeD.p rfl | exact LeD.ow rfl rfl | fail) | fail) ?_)); exact LeT.nil, by (try dsimp only); repeat (first | exact LeO.nil | refine LeO.bx rfl rfl (by repeat (first | exact LeL.nil | refine LeL.cons (by first | exact LeD.u rfl | fail) ?_)) ?_ | refine LeO.ar rfl rfl (by first | rfl | fail) ?_ | fail)⟩⟩
    · obtain rfl := i1 (by omega)
      obtain rfl := i2 (by omega)
      cases b3
      · obtain rfl : q = (7, -4) := by simpa using hq.symm
        have hc0 := hz1 (by decide)
        subst hc0
        repeat' ((conv => whnf); first | refine Ixo.mk ⟨2, rfl, by omega, ?_⟩ | refine Gs.id ?_ | with_reducible refine Brn.T rfl ?_ | refine Rng.mk (by (try simp only [smT]); omega) ?_ | refine Rw.lit rfl ?_ | fail)
        all_goals (conv => whnf)
        all_goals first | exact Ret.nl (by repeat (first | exact NlL.nil | exact NlCs.nil | exact NlD.refl | exact NlD.u (NlV.nl (by first | rfl | fail)) | refine NlL.cons ?_ ?_ | refine NlCs.cons ?_ ?_ | refine NlS.t ?_ | refine NlC.a ?_ | refine NlC.d ?_)) | (exfalso; simp at *; done)
      · repeat' ((conv => whnf); first | refine Ixo.mk ⟨2, rfl, by omega, ?_⟩ | refine Gs.id ?_ | with_reducible refine Brn.T rfl ?_ | with_reducible refine Brn.F rfl ?_ | refine Rng.mk (by (try simp only [smT]); omega) ?_ | refine Rw.lit rfl ?_ | fail)
        all_goals (conv => whnf)
        all_goals first | (exfalso; simp at *; done) | exact ⟨3, ⟨by omega, fun _ => rfl, fun _ => rfl, fun _ => rfl⟩, by omega, [(9, .k 9), (933, .k 933)], ⟨by (try dsimp only); (repeat (refine LeT.cons rfl (by first | exact LeS.d (by first | exact LeD.u rfl | exact LeD.p rfl | exact LeD.ow rfl rfl | fail) | fail) ?_)); exact LeT.nil, by (try dsimp only); repeat (first | exact LeO.nil | refine LeO.bx rfl rfl (by repeat (first | exact LeL.nil | refine LeL.cons (by first | exact LeD.u rfl | fail) ?_)) ?_ | refine LeO.ar rfl rfl (by first | rfl | fail) ?_ | fail)⟩⟩
    · obtain rfl := i1 (by omega)
      obtain rfl := i2 (by omega)
      obtain rfl := i3 (by omega)
      obtain rfl : q = (0, 0) := by simpa using hq.symm
      have hcp : cp = chM l md fn n l.length := by rw [hP, if_neg (by decide)]
      clear hz1 hP hq
      subst hcp
      repeat' ((conv => whnf); first | refine Gs.id ?_ | with_reducible refine Brn.F rfl ?_ | (refine Bnd.mk (fun hm => ?_); (try simp only [smT] at hm)) | fail)
      all_goals (conv => whnf)
      refine ⟨⟨Nat, fun i => i ≤ l.length, fun i => l.length - i, fun i => ⟨[(1, dsr md), (2, dsr fn), (3, dsr n), (9, .d (.p 9 0)), (13, .d (.ow 900 (knAt l n i).length)), (14, .d (.ow 901 (chM l md fn n i).length)), (46, .d (.u (evs l))), (47, di l.length), (48, di i)], [(9, .bx 25 [.u (.int .i64 0), .u (.int .i64 0)]), (900, .ar 128 2 ((knAt l n i).map knR)), (901, .ar 72 2 ((chM l md fn n i).map chR))]⟩, 0, Nat.zero_le _, ⟨[(9, .k 9), (900, .n 2), (901, .n 2)], ⟨by (try dsimp only); (repeat (refine LeT.cons rfl (by first | exact LeS.d (by first | exact LeD.u rfl | exact LeD.p rfl | exact LeD.no rfl rfl | exact LeD.u (by simp; done) | fail) | fail) ?_)); exact LeT.nil, by (try dsimp only); repeat (first | exact LeO.nil | refine LeO.bx rfl rfl (by repeat (first | exact LeL.nil | refine LeL.cons (by first | exact LeD.u rfl | fail) ?_)) ?_ | refine LeO.no rfl rfl ?_)⟩⟩, fun i hi => ?_⟩⟩
      dsimp only at hi ⊢
      by_cases h9 : i < l.length
      · obtain ⟨e, hje⟩ : ∃ e, l[i]? = some e := ⟨_, List.getElem?_eq_getElem h9⟩
        have hrow : ∀ {K : List V → Prop} {m : Int}, m = (i : Int) → K e.row → Ix (l.map Ev.row) m K := fun h k => ⟨⟨i, e.row, h, by rw [List.getElem?_map, hje]; rfl, k⟩⟩
        have hst := knAt_succ (n := n) hje
        have hch := chM_succ (md := md) (fn := fn) (n := n) hje
        have hkl := knAt_len hv n i hi
        have hcl := chM_len (l := l) (md := md) (fn := fn) (n := n) i
        have hva := value_T e n (hl _ (List.mem_of_getElem? hje))
        have k1 := (hv.ok hje).k1
        have hac : (actAt l i).length ≤ i := by have := actAt_len (l := l) i hi; omega
        unfold stepK' at hst
        by_cases hk2 : e.kind = 2
        · rw [if_pos hk2] at hst
          rw [if_neg (fun h => by have := h.1; omega)] at hch
          clear hva
          generalize knAt l n i = s at *
          generalize chM l md fn n i = c at *
          repeat' ((conv => whnf); first | refine hrow rfl ?_ | refine Gs.id ?_ | refine Brn.T (by (try simp only [smT]); first | rfl | assumption | omega | fail) ?_ | (refine Bnd.mk (fun hm => ?_); (try simp only [smT] at hm)) | refine Rng.mk (by (try simp only [smT]); omega) ?_ | refine Apd.mk (by first | rfl | simp) (by first | rfl | fail) (by (try simp only [smT]); first | omega | fail) (by unfold maxLen; first | (simp; omega) | fail) ?_ | fail)
          all_goals (conv => whnf)
          all_goals first | (exfalso; simp_all; done) | exact ⟨i + 1, by omega, by omega, [(9, .k 9), (900, .k 66), (901, .k 901)], by (rw [hst, hch]; exact ⟨by (try dsimp only); (repeat (refine LeT.cons rfl (by first | exact LeS.d (by first | exact LeD.u rfl | exact LeD.p rfl | exact LeD.ow rfl rfl | exact LeD.ow rfl (by simp) | fail) | fail) ?_)); exact LeT.nil, by (try dsimp only); repeat (first | exact LeO.nil | refine LeO.bx rfl rfl (by repeat (first | exact LeL.nil | refine LeL.cons (by first | exact LeD.u rfl | fail) ?_)) ?_ | refine LeO.ar rfl rfl (by first | rfl | simp) ?_ | fail)⟩)⟩
        · rw [if_neg hk2] at hst
          obtain ⟨L, hL2⟩ := kn_last hv n hje hk2
          have hlen : (((L ++ [shownM l e.depth n i]).length : Nat) : Int) = (L.length : Int) + 1 := by simp
          by_cases hk1 : e.kind = 1
          · rw [if_pos hk1] at hst
            have hic : isCh l md fn n i e ↔ ¬ ((varM n e.locs).getD emB = (shownM l e.depth n i).getD emB ∧ (varM n e.locs).isSome = (shownM l e.depth n i).isSome) ∧ e.md = md ∧ e.fn = fn := by
              rw [← opt_eq]
              unfold isCh
              exact ⟨fun h => ⟨h.2.2.2, h.2.1, h.2.2.1⟩, fun h => ⟨hk1, h.2.1, h.2.2, h.1⟩⟩
            rw [hL2] at hst hkl ⊢
            rw [List.dropLast_concat] at hst
            clear hL2
            generalize shownM l e.depth n i = o2 at *
            have hget : ((L ++ [o2]).map knR)[L.length]? = some (knR o2) := by simp
            have hrows : ((L ++ [o2]).map knR).set L.length [.str ((varM n e.locs).getD emB), .bool (varM n e.locs).isSome] = (L ++ [varM n e.locs]).map knR := by simp
            have q1 := toList_beq ((varM n e.locs).getD emB) (o2.getD emB)
            have q2 := toList_beq e.md md
            have q3 := toList_beq e.fn fn
            generalize hx1 : decide ((varM n e.locs).getD emB = o2.getD emB) = x1 at *
            generalize hx2 : decide (e.md = md) = x2 at *
            generalize hx3 : decide (e.fn = fn) = x3 at *
            have y1 : ((varM n e.locs).getD emB = o2.getD emB) ↔ x1 = true := by rw [← hx1]; simp
            have y2 : e.md = md ↔ x2 = true := by rw [← hx2]; simp
            have y3 : e.fn = fn ↔ x3 = true := by rw [← hx3]; simp
            rw [y1, y2, y3] at hic
            clear y1 y2 y3 hx1 hx2 hx3
            generalize varM n e.locs = o1 at *
            clear hkl
            by_cases hc : isCh l md fn n i e
            · rw [if_pos hc] at hch
              have hic := hic.1 hc
              clear hc
              generalize chM l md fn n i = c at *
              obtain ⟨g1, rfl, rfl⟩ := hic
              repeat' ((conv => whnf); first | refine hrow rfl ?_ | refine Ixo.mk ⟨L.length, by simp, by simp, ?_⟩ | refine Rw.get hget ?_ | rw [q1] | rw [q2] | rw [q3] | refine Gs.id ?_ | with_reducible refine Brn.T rfl ?_ | with_reducible refine Brn.F rfl ?_ | refine Brn.T (by (try simp only [smT]); first | rfl | assumption | omega | fail) ?_ | refine Brn.F (by (try simp only [smT]); first | rfl | assumption | fail) ?_ | (refine Brn.mk (fun hb => ?_) (fun hb => ?_) <;> (try simp only [smT] at hb) <;> (try (exact absurd trivial hb)) <;> (try (exfalso; omega))) | (refine Bnd.mk (fun hm => ?_); (try simp only [smT] at hm)) | refine Rng.mk (by (try simp only [smT]); omega) ?_ | refine Eqv.mk (by kernel_rfl) ?_ | refine Apd.mk (by first | rfl | simp) (by first | rfl | fail) (by (try simp only [smT]); first | omega | fail) (by unfold maxLen; first | (simp; omega) | fail) ?_ | refine Drw.of (T := tt) (i := 23) [] [] [(0, true), (1, true), (2, true), (3, true), (4, true), (5, true), (6, true), (7, true), (8, true), (9, true), (10, true), (11, true), (12, true), (13, true), (14, true), (15, true), (16, true), (17, true), (18, true)] (by kernel_rfl) ?_ | (refine CL.mk (Or.inl ?_); (conv => whnf); refine Cl.is (hva) rfl (by first | exact fun _ => rfl | fail) ?_) | fail)
              all_goals (conv => whnf)
              all_goals first | (exfalso; clear hva hrow hrows hget q1 q2 q3 hst hch; simp_all; done) | (exfalso; clear hva hrow hrows hget q1 q2 q3 hst hch; grind) | exact ⟨i + 1, by omega, by omega, [(9, .k 9), (900, .k 900), (901, .k 102)], by (rw [hst, hch, ← hrows]; exact ⟨by (try dsimp only); (repeat (refine LeT.cons rfl (by first | exact LeS.d (by first | exact LeD.u rfl | exact LeD.p rfl | exact LeD.ow rfl (by simp) | fail) | fail) ?_)); exact LeT.nil, by (try dsimp only); repeat (first | exact LeO.nil | refine LeO.bx rfl rfl (by repeat (first | exact LeL.nil | refine LeL.cons (by first | exact LeD.u rfl | fail) ?_)) ?_ | refine LeO.ar rfl rfl (by first | rfl | simp) ?_ | fail)⟩)⟩
            · rw [if_neg hc] at hch
              have hic := fun h => hc (hic.2 h)
              clear hc
              generalize chM l md fn n i = c at *
              repeat' ((conv => whnf); first | refine hrow rfl ?_ | refine Ixo.mk ⟨L.length, by simp, by simp, ?_⟩ | refine Rw.get hget ?_ | rw [q1] | rw [q2] | rw [q3] | refine Gs.id ?_ | with_reducible refine Brn.F rfl ?_ | refine Brn.T (by (try simp only [smT]); first | rfl | assumption | omega | fail) ?_ | refine Brn.F (by (try simp only [smT]); first | rfl | assumption | fail) ?_ | (refine Brn.mk (fun hb => ?_) (fun hb => ?_) <;> (try simp only [smT] at hb) <;> (try (exact absurd trivial hb)) <;> (try (exfalso; omega))) | (refine Bnd.mk (fun hm => ?_); (try simp only [smT] at hm)) | refine Rng.mk (by (try simp only [smT]); omega) ?_ | refine Eqv.mk (by kernel_rfl) ?_ | refine Apd.mk (by first | rfl | simp) (by first | rfl | fail) (by (try simp only [smT]); first | omega | fail) (by unfold maxLen; first | (simp; omega) | fail) ?_ | refine Drw.of (T := tt) (i := 23) [] [] [(0, true), (1, true), (2, true), (3, true), (4, true), (5, true), (6, true), (7, true), (8, true), (9, true), (10, true), (11, true), (12, true), (13, true), (14, true), (15, true), (16, true), (17, true), (18, true)] (by kernel_rfl) ?_ | (refine CL.mk (Or.inl ?_); (conv => whnf); refine Cl.is (hva) rfl (by first | exact fun _ => rfl | fail) ?_) | fail)
              all_goals (conv => whnf)
              all_goals first | (exfalso; clear hva hrow hrows hget q1 q2 q3 hst hch; simp_all; done) | (exfalso; clear hva hrow hrows hget q1 q2 q3 hst hch; grind) | exact ⟨i + 1, by omega, by omega, [(9, .k 9), (900, .k 900), (901, .k 901)], by (rw [hst, hch, ← hrows]; exact ⟨by (try dsimp only); (repeat (refine LeT.cons rfl (by first | exact LeS.d (by first | exact LeD.u rfl | exact LeD.p rfl | exact LeD.ow rfl rfl | exact LeD.ow rfl (by simp) | fail) | fail) ?_)); exact LeT.nil, by (try dsimp only); repeat (first | exact LeO.nil | refine LeO.bx rfl rfl (by repeat (first | exact LeL.nil | refine LeL.cons (by first | exact LeD.u rfl | fail) ?_)) ?_ | refine LeO.ar rfl rfl (by first | rfl | fail) ?_ | fail)⟩)⟩
          · rw [if_neg hk1] at hst
            rw [if_neg (fun h => hk1 h.1)] at hch
            rw [hL2] at hst hkl ⊢
            rw [List.dropLast_concat] at hst
            clear hL2 hva hkl
            generalize shownM l e.depth n i = o2 at *
            generalize chM l md fn n i = c at *
            repeat' ((conv => whnf); first | refine hrow rfl ?_ | refine Slc.mk ⟨0, L.length, rfl, by simp, by omega, by simp, ?_⟩ | refine Gs.go (i := 26) (Ghost.trunc 900 L.length rfl (by simp) (show _ = L.map knR by simp)) ?_ | refine Gs.id ?_ | refine Brn.T (by (try simp only [smT]); first | rfl | omega | fail) ?_ | refine Brn.F (by (try simp only [smT]); first | rfl | assumption | fail) ?_ | (refine Bnd.mk (fun hm => ?_); (try simp only [smT] at hm)) | refine Rng.mk (by (try simp only [smT]); omega) ?_ | fail)
            all_goals (conv => whnf)
            all_goals first | (exfalso; simp_all; done) | exact ⟨i + 1, by omega, by omega, [(9, .k 9), (900, .k 900), (901, .k 901)], by (rw [hst, hch]; exact ⟨by (try dsimp only); (repeat (refine LeT.cons rfl (by first | exact LeS.d (by first | exact LeD.u rfl | exact LeD.p rfl | exact LeD.ow rfl rfl | fail) | fail) ?_)); exact LeT.nil, by (try dsimp only); repeat (first | exact LeO.nil | refine LeO.bx rfl rfl (by repeat (first | exact LeL.nil | refine LeL.cons (by first | exact LeD.u rfl | fail) ?_)) ?_ | refine LeO.ar rfl rfl (by first | rfl | fail) ?_ | fail)⟩)⟩
      · obtain rfl : i = l.length := by omega
        repeat' ((conv => whnf); first | refine Gs.id ?_ | refine Brn.F (by (try simp only [smT]); first | rfl | omega | fail) ?_ | refine Len.mk (by first | rfl | (simp; done) | fail) ?_ | fail)
        all_goals (conv => whnf)
        all_goals first | exact Ret.is rfl | exact Ret.nl (by repeat (fail))
  · have hF : chF l md fn n = validM l := by rw [chF, if_pos v1]
    have hP : chP l md fn n = [] := by rw [chP, hF, if_pos v1]
    rw [hP, hF]
    generalize validM l = a1 at *
    obtain ⟨a1, c1⟩ := a1
    dsimp only at *
    refine callsA_of_vc (T := tt) Tryz.func35 rfl rfl rfl rfl rfl ?_
    repeat' ((conv => whnf); first | refine Gs.id ?_ | refine Brn.T (by (try simp only [smT]); first | rfl | assumption | fail) ?_ | refine Drw.of (T := tt) (i := 3) [2] [] [(0, true), (1, true), (2, false)] (by kernel_rfl) ?_ | (refine CL.mk (Or.inl ?_); (conv => whnf); refine Cl.is (h1) rfl (by first | exact fun _ => rfl | fail) ?_) | fail)
    all_goals (conv => whnf)
    all_goals first | exact Ret.nl (by repeat (first | exact NlL.nil | exact NlCs.nil | exact NlD.refl | exact NlD.u (NlV.nl (by first | rfl | fail)) | refine NlL.cons ?_ ?_ | refine NlCs.cons ?_ ?_ | refine NlS.t ?_ | refine NlC.a ?_ | refine NlC.d ?_)) | (exfalso; simp at *; omega)
end Go.Proofs.YtabmcfnefjipbaaGreatDoor
namespace Go.Proofs.YtabmcfnefjipbaaGreatDoor
open Go.RowKit
set_option maxHeartbeats 2000000 in
theorem sameCh_R (a : List Ch) (ha : a.length ≤ 9000000000) : CallsA Tryz.prog 37 [.d (.u (chs a)), .d (.u (chs a))] [] (Is (db true)) := by
  refine callsA_of_vc (T := tt) Tryz.func37 rfl rfl rfl rfl rfl ?_
  repeat' ((conv => whnf); first | refine Gs.id ?_ | (refine Brn.mk (fun hb => ?_) (fun hb => ?_) <;> (try simp only [smT] at hb) <;> (try (exact absurd trivial hb)) <;> (try (exfalso; omega))) | (refine Bnd.mk (fun hm => ?_); (try simp only [smT] at hm)) | fail)
  all_goals (conv => whnf)
  all_goals try (exfalso; simp at *; done)
  refine ⟨⟨Nat, fun i => i ≤ a.length, fun i => a.length - i, fun i => ⟨[(0, .d (.u (chs a))), (1, .d (.u (chs a))), (5, di i)], []⟩, 0, Nat.zero_le _, ⟨[], ⟨by (try dsimp only); (repeat (refine LeT.cons rfl (by first | exact LeS.d (by first | exact LeD.u rfl | fail) | fail) ?_)); exact LeT.nil, by (try dsimp only); repeat (first | exact LeO.nil | fail)⟩⟩, fun i hi => ?_⟩⟩
  dsimp only at hi ⊢
  by_cases h9 : i < a.length
  · have hrow : ∀ {K : List V → Prop}, K (chR a[i]) → Ix (a.map chR) (i : Int) K := fun k => Ix.map rfl h9 k
    generalize a[i] = x at *
    have h1 := toList_beq x.2 x.2
    rw [decide_eq_true rfl] at h1
    repeat' ((conv => whnf); first | refine hrow ?_ | rw [h1] | refine Gs.id ?_ | refine Brn.T (by (try simp only [smT]); first | rfl | omega | fail) ?_ | refine Brn.F (by (try simp only [smT]); first | rfl | (simp [*]; done) | fail) ?_ | (refine Bnd.mk (fun hm => ?_); (try simp only [smT] at hm)) | refine Rng.mk (by (try simp only [smT]); omega) ?_ | refine Eqv.mk (by kernel_rfl) ?_ | refine Drw.of (T := tt) (i := 6) [] [] [(0, true), (1, true), (2, true), (3, true), (4, true), (5, true), (6, true), (7, true), (8, true)] (by kernel_rfl) ?_)
    all_goals (conv => whnf)
    all_goals first | exact ⟨i + 1, by omega, by omega, [], ⟨by (try dsimp only); (repeat (refine LeT.cons rfl (by first | exact LeS.d (by first | exact LeD.u rfl | fail) | fail) ?_)); exact LeT.nil, by (try dsimp only); repeat (first | exact LeO.nil | fail)⟩⟩ | (exfalso; simp at *; done)
  · obtain rfl : i = a.length := by omega
    repeat' ((conv => whnf); first | refine Gs.id ?_ | refine Brn.F (by (try simp only [smT]); first | rfl | omega | fail) ?_ | (refine Bnd.mk (fun hm => ?_); (try simp only [smT] at hm)) | fail)
    all_goals (conv => whnf)
    all_goals exact Ret.is rfl
set_option maxHeartbeats 8000000 in
theorem changed_R {l : List Ev} (hv : Vd l) (hL : l.length ≤ 20000) (md fn n : ByteArray) (hl : ∀ e ∈ l, e.locs.length ≤ 9000000000) : CallsA Tryz.prog 38 [.d (.u (evs l)), dsr md, dsr fn, dsr n] [] (Is (.d (.u (chs (chM l md fn n l.length))))) := by
  refine callsA_of_vc (T := tt) Tryz.func38 rfl rfl rfl rfl rfl ?_
  repeat' ((conv => whnf); first | refine Gs.id ?_ | fail)
  all_goals (conv => whnf)
  refine ⟨⟨Nat, fun i => i ≤ l.length, fun i => l.length - i, fun i => ⟨[(0, .d (.u (evs l))), (1, dsr md), (2, dsr fn), (3, dsr n), (9, .d (.ow 901 (chM l md fn n i).length)), (10, di i)], [(901, .ar 72 2 ((chM l md fn n i).map chR))]⟩, 0, Nat.zero_le _, ⟨[(901, .n 2)], ⟨by (try dsimp only); (repeat (refine LeT.cons rfl (by first | exact LeS.d (by first | exact LeD.u rfl | exact LeD.no rfl rfl | fail) | fail) ?_)); exact LeT.nil, by (try dsimp only); repeat (first | exact LeO.nil | refine LeO.no rfl rfl ?_)⟩⟩, fun i hi => ?_⟩⟩
  dsimp only at hi ⊢
  by_cases h9 : i < l.length
  · obtain ⟨e, hje⟩ : ∃ e, l[i]? = some e := ⟨_, List.getElem?_eq_getElem h9⟩
    have hrow : ∀ {K : List V → Prop} {m : Int}, m = (i : Int) → K e.row → Ix (l.map Ev.row) m K := fun h k => ⟨⟨i, e.row, h, by rw [List.getElem?_map, hje]; rfl, k⟩⟩
    have hch := chM_succ (md := md) (fn := fn) (n := n) hje
    have hcl := chM_len (l := l) (md := md) (fn := fn) (n := n) i
    have hva := variable_R e n (hl _ (List.mem_of_getElem? hje))
    have q2 := toList_beq e.md md
    have q3 := toList_beq e.fn fn
    by_cases hA : e.kind = 1 ∧ e.md = md ∧ e.fn = fn
    · obtain ⟨hk, hmd, hfn⟩ := hA
      rw [decide_eq_true hmd] at q2
      rw [decide_eq_true hfn] at q3
      have hpv := prev_at hv n hje (by omega)
      have hic : isCh l md fn n i e ↔ ¬ ((varM n e.locs).getD emB = (prevM l e.depth n i).getD emB ∧ (varM n e.locs).isSome = (prevM l e.depth n i).isSome) := by
        rw [← opt_eq, hpv]
        unfold isCh
        exact ⟨fun h => h.2.2.2, fun h => ⟨hk, hmd, hfn, h⟩⟩
      generalize varM n e.locs = o1 at *
      clear hpv
      have hfin : ∀ o : Option ByteArray, prevM l e.depth n i = o → (chM l md fn n (i + 1) = if ((decide (o1.getD emB = o.getD emB)) && (o1.isSome == o.isSome)) = true then chM l md fn n i else chM l md fn n i ++ [(i, o1.getD emB)]) := by
        intro o ho
        rw [ho] at hic
        rw [hch]
        by_cases hc : isCh l md fn n i e
        · rw [if_pos hc, if_neg]
          have := hic.1 hc
          simpa using this
        · rw [if_neg hc, if_pos]
          have : ¬ ¬ _ := fun h => hc (hic.2 h)
          simpa using this
      clear hic hch
      repeat' ((conv => whnf); first | refine hrow rfl ?_ | rw [q2] | rw [q3] | refine Gs.id ?_ | with_reducible refine Brn.F rfl ?_ | refine Brn.T (by (try simp only [smT]); first | rfl | omega | fail) ?_ | refine Brn.F (by (try simp only [smT]); first | rfl | assumption | fail) ?_ | (refine Bnd.mk (fun hm => ?_); (try simp only [smT] at hm)) | refine Rng.mk (by (try simp only [smT]); omega) ?_ | (refine CL.mk (Or.inl ?_); (conv => whnf); refine Cl.is (hva) rfl (by first | exact fun _ => rfl | fail) ?_) | fail)
      all_goals (conv => whnf)
      all_goals try (exfalso; clear hva hrow hfin; simp_all; done)
      refine ⟨⟨Nat, fun k => k ≤ i ∧ prevM l e.depth n i = prevM l e.depth n k, fun k => k, fun k => ⟨[(0, .d (.u (evs l))), (1, dsr md), (2, dsr fn), (3, dsr n), (9, .d (.ow 901 (chM l md fn n i).length)), (10, di i), (11, .d (.p 11 0)), (12, dsr (o1.getD emB)), (13, db o1.isSome), (14, dsr emB), (15, db false), (16, di ((k : Int) - 1))], [(11, .bx 58 e.ds), (901, .ar 72 2 ((chM l md fn n i).map chR))]⟩, i, ⟨Nat.le_refl _, rfl⟩, ⟨[(11, .k 11), (901, .k 901)], ⟨by (try dsimp only); (repeat (refine LeT.cons rfl (by first | exact LeS.d (by first | exact LeD.u rfl | exact LeD.p rfl | exact LeD.ow rfl rfl | fail) | fail) ?_)); exact LeT.nil, by (try dsimp only); repeat (first | exact LeO.nil | refine LeO.bx rfl rfl (by repeat (first | exact LeL.nil | refine LeL.cons (by first | exact LeD.u rfl | fail) ?_)) ?_ | refine LeO.ar rfl rfl (by first | rfl | fail) ?_ | fail)⟩⟩, fun k hk2 => ?_⟩⟩
      obtain ⟨hki, hpk⟩ := hk2
      dsimp only
      cases k with
      | zero =>
        have hf : chM l md fn n (i + 1) = if ((decide (o1.getD emB = emB)) && (o1.isSome == false)) = true then chM l md fn n i else chM l md fn n i ++ [(i, o1.getD emB)] := hfin none hpk
        have qo := toList_beq (o1.getD emB) emB
        generalize decide (o1.getD emB = emB) = x1 at *
        clear hfin hva hpk
        generalize chM l md fn n i = c at *
        repeat' ((conv => whnf); first | rw [qo] | refine Gs.id ?_ | with_reducible refine Brn.T rfl ?_ | with_reducible refine Brn.F rfl ?_ | refine Brn.T (by (try simp only [smT]); first | rfl | assumption | fail) ?_ | refine Brn.F (by (try simp only [smT]); first | rfl | assumption | fail) ?_ | (refine Brn.mk (fun hb => ?_) (fun hb => ?_) <;> (try simp only [smT] at hb) <;> (try (exact absurd trivial hb)) <;> (try (exfalso; omega))) | refine Rng.mk (by (try simp only [smT]); omega) ?_ | refine Apd.mk (by first | rfl | simp) (by first | rfl | fail) (by (try simp only [smT]); first | omega | fail) (by unfold maxLen; first | (simp; omega) | fail) ?_ | fail)
        all_goals (conv => whnf)
        all_goals first | (exfalso; clear hrow qo hf; simp_all; done) | skip
        all_goals first | exact ⟨i + 1, by omega, by omega, [(901, .k 901)], by (rw [hf, if_pos (by clear hrow qo hf; simp_all; done)]; exact ⟨by (try dsimp only); (repeat (refine LeT.cons rfl (by first | exact LeS.d (by first | exact LeD.u rfl | exact LeD.ow rfl rfl | fail) | fail) ?_)); exact LeT.nil, by (try dsimp only); repeat (first | exact LeO.nil | refine LeO.ar rfl rfl (by first | rfl | fail) ?_ | fail)⟩)⟩ | exact ⟨i + 1, by omega, by omega, [(901, .k 90)], by (rw [hf, if_neg (by clear hrow qo hf; simp_all; done)]; exact ⟨by (try dsimp only); (repeat (refine LeT.cons rfl (by first | exact LeS.d (by first | exact LeD.u rfl | exact LeD.ow rfl (by simp) | fail) | fail) ?_)); exact LeT.nil, by (try dsimp only); repeat (first | exact LeO.nil | refine LeO.ar rfl rfl (by first | simp) ?_ | fail)⟩)⟩
      | succ k =>
        obtain ⟨x, hx⟩ : ∃ x, l[k]? = some x := ⟨_, List.getElem?_eq_getElem (by omega)⟩
        have hrx : ∀ {K : List V → Prop} {m : Int}, m = (k : Int) → K x.row → Ix (l.map Ev.row) m K := fun h r => ⟨⟨k, x.row, h, by rw [List.getElem?_map, hx]; rfl, r⟩⟩
        have hvx := variable_R x n (hl _ (List.mem_of_getElem? hx))
        have hck : ((k + 1 : Nat) : Int) = (k : Int) + 1 := by omega
        rw [prevM_succ hx] at hpk
        by_cases hd : x.depth = e.depth
        · rw [if_pos hd] at hpk
          by_cases hkx : x.kind = 1
          · rw [if_pos hkx] at hpk
            have hf := hfin _ hpk
            generalize varM n x.locs = o at *
            have qo := toList_beq (o1.getD emB) (o.getD emB)
            generalize decide (o1.getD emB = o.getD emB) = x1 at *
            clear hfin hva hpk
            generalize chM l md fn n i = c at *
            repeat' ((conv => whnf); first | refine hrx (by omega) ?_ | rw [qo] | refine Gs.id ?_ | with_reducible refine Brn.T rfl ?_ | refine Brn.T (by (try simp only [smT]); first | rfl | assumption | omega | fail) ?_ | refine Brn.F (by (try simp only [smT]); first | rfl | assumption | fail) ?_ | (refine Brn.mk (fun hb => ?_) (fun hb => ?_) <;> (try simp only [smT] at hb) <;> (try (exact absurd trivial hb)) <;> (try (exfalso; omega))) | refine Rng.mk (by (try simp only [smT]); omega) ?_ | refine Apd.mk (by first | rfl | simp) (by first | rfl | fail) (by (try simp only [smT]); first | omega | fail) (by unfold maxLen; first | (simp; omega) | fail) ?_ | refine Drw.of (T := tt) (i := 12) [] [] [(0, true), (1, true), (2, true), (3, true), (4, true), (5, true), (6, true), (7, true)] (by kernel_rfl) ?_ | (refine CL.mk (Or.inl ?_); (conv => whnf); refine Cl.is (hvx) rfl (by first | exact fun _ => rfl | fail) ?_) | fail)
            all_goals (conv => whnf)
            all_goals first | (exfalso; clear hrow hrx hvx qo hf; simp_all; done) | skip
            all_goals first | exact ⟨i + 1, by omega, by omega, [(901, .k 901)], by (rw [hf, if_pos (by clear hrow hrx hvx qo hf; simp_all; done)]; exact ⟨by (try dsimp only); (repeat (refine LeT.cons rfl (by first | exact LeS.d (by first | exact LeD.u rfl | exact LeD.ow rfl rfl | fail) | fail) ?_)); exact LeT.nil, by (try dsimp only); repeat (first | exact LeO.nil | refine LeO.ar rfl rfl (by first | rfl | fail) ?_ | fail)⟩)⟩ | exact ⟨i + 1, by omega, by omega, [(901, .k 90)], by (rw [hf, if_neg (by clear hrow hrx hvx qo hf; simp_all; done)]; exact ⟨by (try dsimp only); (repeat (refine LeT.cons rfl (by first | exact LeS.d (by first | exact LeD.u rfl | exact LeD.ow rfl (by simp) | fail) | fail) ?_)); exact LeT.nil, by (try dsimp only); repeat (first | exact LeO.nil | refine LeO.ar rfl rfl (by first | simp) ?_ | fail)⟩)⟩
          · rw [if_neg hkx] at hpk
            have hf : chM l md fn n (i + 1) = if ((decide (o1.getD emB = emB)) && (o1.isSome == false)) = true then chM l md fn n i else chM l md fn n i ++ [(i, o1.getD emB)] := hfin none hpk
            have qo := toList_beq (o1.getD emB) emB
            generalize decide (o1.getD emB = emB) = x1 at *
            clear hfin hva hpk hvx
            generalize chM l md fn n i = c at *
            repeat' ((conv => whnf); first | refine hrx (by omega) ?_ | rw [qo] | refine Gs.id ?_ | with_reducible refine Brn.T rfl ?_ | refine Brn.T (by (try simp only [smT]); first | rfl | assumption | omega | fail) ?_ | refine Brn.F (by (try simp only [smT]); first | rfl | assumption | fail) ?_ | (refine Brn.mk (fun hb => ?_) (fun hb => ?_) <;> (try simp only [smT] at hb) <;> (try (exact absurd trivial hb)) <;> (try (exfalso; omega))) | refine Rng.mk (by (try simp only [smT]); omega) ?_ | refine Apd.mk (by first | rfl | simp) (by first | rfl | fail) (by (try simp only [smT]); first | omega | fail) (by unfold maxLen; first | (simp; omega) | fail) ?_ | refine Drw.of (T := tt) (i := 12) [] [] [(0, true), (1, true), (2, true), (3, true), (4, true), (5, true), (6, true), (7, true)] (by kernel_rfl) ?_)
            all_goals (conv => whnf)
            all_goals first | (exfalso; clear hrow hrx qo hf; simp_all; done) | skip
            all_goals first | exact ⟨i + 1, by omega, by omega, [(901, .k 901)], by (rw [hf, if_pos (by clear hrow hrx qo hf; simp_all; done)]; exact ⟨by (try dsimp only); (repeat (refine LeT.cons rfl (by first | exact LeS.d (by first | exact LeD.u rfl | exact LeD.ow rfl rfl | fail) | fail) ?_)); exact LeT.nil, by (try dsimp only); repeat (first | exact LeO.nil | refine LeO.ar rfl rfl (by first | rfl | fail) ?_ | fail)⟩)⟩ | exact ⟨i + 1, by omega, by omega, [(901, .k 90)], by (rw [hf, if_neg (by clear hrow hrx qo hf; simp_all; done)]; exact ⟨by (try dsimp only); (repeat (refine LeT.cons rfl (by first | exact LeS.d (by first | exact LeD.u rfl | exact LeD.ow rfl (by simp) | fail) | fail) ?_)); exact LeT.nil, by (try dsimp only); repeat (first | exact LeO.nil | refine LeO.ar rfl rfl (by first | simp) ?_ | fail)⟩)⟩
        · rw [if_neg hd] at hpk
          clear hfin hva hvx
          generalize chM l md fn n i = c at *
          repeat' ((conv => whnf); first | refine hrx (by omega) ?_ | refine Gs.id ?_ | refine Brn.T (by (try simp only [smT]); first | rfl | assumption | omega | fail) ?_ | refine Rng.mk (by (try simp only [smT]); omega) ?_ | refine Drw.of (T := tt) (i := 12) [] [] [(0, true), (1, true), (2, true), (3, true), (4, true), (5, true), (6, true), (7, true)] (by kernel_rfl) ?_)
          all_goals (conv => whnf)
          all_goals first | exact ⟨k, ⟨by omega, hpk⟩, by omega, [(11, .k 11), (901, .k 901)], ⟨by (try dsimp only); (repeat (refine LeT.cons rfl (by first | exact LeS.d (by first | exact LeD.u rfl | exact LeD.p rfl | exact LeD.ow rfl rfl | exact LeD.u (by simp; done) | fail) | fail) ?_)); exact LeT.nil, by (try dsimp only); repeat (first | exact LeO.nil | refine LeO.bx rfl rfl (by repeat (first | exact LeL.nil | refine LeL.cons (by first | exact LeD.u rfl | fail) ?_)) ?_ | refine LeO.ar rfl rfl (by first | rfl | fail) ?_ | fail)⟩⟩ | (exfalso; clear hrow hrx; simp_all; done)
    · have hch2 : chM l md fn n (i + 1) = chM l md fn n i := by rw [hch, if_neg (fun h => hA ⟨h.1, h.2.1, h.2.2.1⟩)]
      clear hch hva
      have hA2 : ¬ (e.kind = 1 ∧ decide (e.md = md) = true ∧ decide (e.fn = fn) = true) := by simpa using hA
      generalize decide (e.md = md) = x2 at *
      generalize decide (e.fn = fn) = x3 at *
      clear hA
      generalize chM l md fn n i = c at *
      repeat' ((conv => whnf); first | refine hrow rfl ?_ | rw [q2] | rw [q3] | refine Gs.id ?_ | with_reducible refine Brn.T rfl ?_ | refine Brn.T (by (try simp only [smT]); first | rfl | assumption | omega | fail) ?_ | refine Brn.F (by (try simp only [smT]); first | rfl | assumption | fail) ?_ | (refine Brn.mk (fun hb => ?_) (fun hb => ?_) <;> (try simp only [smT] at hb) <;> (try (exact absurd trivial hb)) <;> (try (exfalso; omega))) | (refine Bnd.mk (fun hm => ?_); (try simp only [smT] at hm)) | refine Rng.mk (by (try simp only [smT]); omega) ?_ | fail)
      all_goals (conv => whnf)
      all_goals first | (exfalso; clear hrow q2 q3 hch2; simp_all; done) | exact ⟨i + 1, by omega, by omega, [(901, .k 901)], by (rw [hch2]; exact ⟨by (try dsimp only); (repeat (refine LeT.cons rfl (by first | exact LeS.d (by first | exact LeD.u rfl | exact LeD.ow rfl rfl | fail) | fail) ?_)); exact LeT.nil, by (try dsimp only); repeat (first | exact LeO.nil | refine LeO.ar rfl rfl (by first | rfl | fail) ?_ | fail)⟩)⟩
  · obtain rfl : i = l.length := by omega
    repeat' ((conv => whnf); first | refine Gs.id ?_ | refine Brn.F (by (try simp only [smT]); first | rfl | omega | fail) ?_ | (refine Bnd.mk (fun hm => ?_); (try simp only [smT] at hm)) | refine Len.mk (by first | rfl | (simp; done) | fail) ?_ | fail)
    all_goals (conv => whnf)
    all_goals first | exact Ret.is rfl | exact Ret.nl (by repeat (fail))
end Go.Proofs.YtabmcfnefjipbaaGreatDoor
namespace Go.Proofs.YtabmcfnefjipbaaGreatDoor
open Go.RowKit
set_option maxHeartbeats 4000000 in
theorem law_changes_T (l : List Ev) (md fn n : ByteArray) (he : ∀ e ∈ l, e.locs.length ≤ 9000000000) (hsz : ∀ e ∈ l, e.md.size ≤ 1000000000000) (hmd : md.size ≤ 1000000000000) (zt : Fz) (hz : Tab zt) :
    CallsA Tryz.prog 10 [.d (.u (evs l)), dsr md, dsr fn, dsr n] [(907, tbOb zt)] (Iso (db true) [(907, tbOb zt)]) := by
  have h1 := changes_T l md fn n he
  have h2 := trace_R l hsz
  have h3 := dotted_R md hmd
  rw [← dottedM_eq] at h3
  have h4 := name_R fn
  have h5 := name_R n
  have h6 := at_R 7 (-2)
  have h7 := at_R 7 (-3)
  have h8 := at_R 7 (-4)
  have hst := stopped_T zt hz
  unfold chS chP chF at h1
  by_cases v1 : (validM l).1 = 0
  · obtain ⟨hv, hL⟩ := valid_Vd v1
    have h9 := changed_R hv hL md fn n he
    have hcl := chM_len (l := l) (md := md) (fn := fn) (n := n) l.length
    have h10 := sameCh_R (chM l md fn n l.length) (by omega)
    rw [valid_zero v1] at h1 h2
    clear v1 he hsz hv hL
    generalize chM l md fn n l.length = c at *
    generalize dottedM md = b1 at *
    generalize nameB fn = b2 at *
    generalize nameB n = b3 at *
    cases b1
    · replace h1 : CallsA Tryz.prog 35 [.d (.u (evs l)), dsr md, dsr fn, dsr n] [] (Is (.t [.d (.u (chs [])), .a [.u (.int .i64 7), .u (.int .i64 (-2))]])) := by simpa using h1
      refine callsA_of_vcO (T := tt) Tryz.func10 rfl rfl rfl rfl rfl ?_
      repeat' ((conv => whnf); first | refine Gs.id ?_ | with_reducible refine Brn.T rfl ?_ | with_reducible refine Brn.F rfl ?_ | (refine Bnd.mk (fun hm => ?_); (try simp only [smT] at hm)) | refine Eqv.mk (by kernel_rfl) ?_ | (refine CL.mk (Or.inl ?_); (conv => whnf); first | refine Cl.is (h1) rfl (by first | (intro e; cases e; done) | fail) ?_ | refine Cl.is (h2) rfl (by first | exact fun _ => rfl | fail) ?_ | refine Cl.is (h3) rfl (by first | exact fun _ => rfl | fail) ?_ | refine Cl.is (h6) rfl (by first | exact fun _ => rfl | fail) ?_) | (refine CL.mk (Or.inr (Raw.callI [907] [907] rfl rfl rfl rfl rfl rfl rfl (hst) ?_)); rintro _ _ ⟨rfl, rfl⟩; refine Bk.mk rfl rfl ?_))
      all_goals (conv => whnf)
      all_goals refine RetO.mk ⟨[(907, .k 907)], _, _, (by first | exact LeS.d (by first | exact LeD.u rfl | fail) | fail), (by repeat (first | exact LeO.nil | refine LeO.ab rfl rfl (by repeat (first | exact LeL.nil | fail)) (by first | rfl | fail) ?_ | fail)), rfl, rfl⟩
    · cases b2
      · replace h1 : CallsA Tryz.prog 35 [.d (.u (evs l)), dsr md, dsr fn, dsr n] [] (Is (.t [.d (.u (chs [])), .a [.u (.int .i64 7), .u (.int .i64 (-3))]])) := by simpa using h1
        refine callsA_of_vcO (T := tt) Tryz.func10 rfl rfl rfl rfl rfl ?_
        repeat' ((conv => whnf); first | refine Gs.id ?_ | with_reducible refine Brn.T rfl ?_ | with_reducible refine Brn.F rfl ?_ | (refine Bnd.mk (fun hm => ?_); (try simp only [smT] at hm)) | refine Eqv.mk (by kernel_rfl) ?_ | (refine CL.mk (Or.inl ?_); (conv => whnf); first | refine Cl.is (h1) rfl (by first | (intro e; cases e; done) | fail) ?_ | refine Cl.is (h2) rfl (by first | exact fun _ => rfl | fail) ?_ | refine Cl.is (h3) rfl (by first | exact fun _ => rfl | fail) ?_ | refine Cl.is (h4) rfl (by first | exact fun _ => rfl | fail) ?_ | refine Cl.is (h7) rfl (by first | exact fun _ => rfl | fail) ?_) | (refine CL.mk (Or.inr (Raw.callI [907] [907] rfl rfl rfl rfl rfl rfl rfl (hst) ?_)); rintro _ _ ⟨rfl, rfl⟩; refine Bk.mk rfl rfl ?_))
        all_goals (conv => whnf)
        all_goals refine RetO.mk ⟨[(907, .k 907)], _, _, (by first | exact LeS.d (by first | exact LeD.u rfl | fail) | fail), (by repeat (first | exact LeO.nil | refine LeO.ab rfl rfl (by repeat (first | exact LeL.nil | fail)) (by first | rfl | fail) ?_ | fail)), rfl, rfl⟩
      · cases b3
        · replace h1 : CallsA Tryz.prog 35 [.d (.u (evs l)), dsr md, dsr fn, dsr n] [] (Is (.t [.d (.u (chs [])), .a [.u (.int .i64 7), .u (.int .i64 (-4))]])) := by simpa using h1
          refine callsA_of_vcO (T := tt) Tryz.func10 rfl rfl rfl rfl rfl ?_
          repeat' ((conv => whnf); first | refine Gs.id ?_ | with_reducible refine Brn.T rfl ?_ | with_reducible refine Brn.F rfl ?_ | (refine Bnd.mk (fun hm => ?_); (try simp only [smT] at hm)) | refine Eqv.mk (by kernel_rfl) ?_ | (refine CL.mk (Or.inl ?_); (conv => whnf); first | refine Cl.is (h1) rfl (by first | (intro e; cases e; done) | fail) ?_ | refine Cl.is (h2) rfl (by first | exact fun _ => rfl | fail) ?_ | refine Cl.is (h3) rfl (by first | exact fun _ => rfl | fail) ?_ | refine Cl.is (h4) rfl (by first | exact fun _ => rfl | fail) ?_ | refine Cl.is (h5) rfl (by first | exact fun _ => rfl | fail) ?_ | refine Cl.is (h8) rfl (by first | exact fun _ => rfl | fail) ?_) | (refine CL.mk (Or.inr (Raw.callI [907] [907] rfl rfl rfl rfl rfl rfl rfl (hst) ?_)); rintro _ _ ⟨rfl, rfl⟩; refine Bk.mk rfl rfl ?_))
          all_goals (conv => whnf)
          all_goals refine RetO.mk ⟨[(907, .k 907)], _, _, (by first | exact LeS.d (by first | exact LeD.u rfl | fail) | fail), (by repeat (first | exact LeO.nil | refine LeO.ab rfl rfl (by repeat (first | exact LeL.nil | fail)) (by first | rfl | fail) ?_ | fail)), rfl, rfl⟩
        · replace h1 : CallsA Tryz.prog 35 [.d (.u (evs l)), dsr md, dsr fn, dsr n] [] (Is (.t [.d (.u (chs c)), .a [.u (.int .i64 0), .u (.int .i64 0)]])) := by simpa using h1
          refine callsA_of_vcO (T := tt) Tryz.func10 rfl rfl rfl rfl rfl ?_
          repeat' ((conv => whnf); first | refine Gs.id ?_ | with_reducible refine Brn.T rfl ?_ | with_reducible refine Brn.F rfl ?_ | (refine CL.mk (Or.inl ?_); (conv => whnf); first | refine Cl.is (h1) rfl (by first | (intro e; cases e; done) | fail) ?_ | refine Cl.is (h2) rfl (by first | exact fun _ => rfl | fail) ?_ | refine Cl.is (h3) rfl (by first | exact fun _ => rfl | fail) ?_ | refine Cl.is (h4) rfl (by first | exact fun _ => rfl | fail) ?_ | refine Cl.is (h5) rfl (by first | exact fun _ => rfl | fail) ?_ | refine Cl.is (h9) rfl (by first | (intro e; cases e; done) | fail) ?_ | refine Cl.is (h10) rfl (by first | exact fun _ => rfl | fail) ?_) | (refine CL.mk (Or.inr (Raw.callI [907] [907] rfl rfl rfl rfl rfl rfl rfl (hst) ?_)); rintro _ _ ⟨rfl, rfl⟩; refine Bk.mk rfl rfl ?_))
          all_goals (conv => whnf)
          all_goals refine RetO.mk ⟨[(907, .k 907)], _, _, (by first | exact LeS.d (by first | exact LeD.u rfl | fail) | fail), (by repeat (first | exact LeO.nil | refine LeO.ab rfl rfl (by repeat (first | exact LeL.nil | fail)) (by first | rfl | fail) ?_ | fail)), rfl, rfl⟩
  · rw [if_pos v1] at h1
    generalize validM l = a1 at *
    obtain ⟨a1, c1⟩ := a1
    dsimp only at v1 h1 h2
    rw [if_pos v1] at h1
    clear he hsz h3 h4 h5
    refine callsA_of_vcO (T := tt) Tryz.func10 rfl rfl rfl rfl rfl ?_
    repeat' ((conv => whnf); first | refine Gs.id ?_ | with_reducible refine Brn.T rfl ?_ | with_reducible refine Brn.F rfl ?_ | refine Brn.T (by (try simp only [smT]); first | rfl | assumption | (simp [*]; done) | fail) ?_ | refine Brn.F (by (try simp only [smT]); first | rfl | assumption | fail) ?_ | (refine Bnd.mk (fun hm => ?_); (try simp only [smT] at hm)) | refine Eqv.mk (by kernel_rfl) ?_ | (refine CL.mk (Or.inl ?_); (conv => whnf); first | refine Cl.is (h1) rfl (by first | (intro e; cases e; done) | fail) ?_ | refine Cl.is (h2) rfl (by first | exact fun _ => rfl | fail) ?_) | (refine CL.mk (Or.inr (Raw.callI [907] [907] rfl rfl rfl rfl rfl rfl rfl (hst) ?_)); rintro _ _ ⟨rfl, rfl⟩; refine Bk.mk rfl rfl ?_))
    all_goals (conv => whnf)
    all_goals refine RetO.mk ⟨[(907, .k 907)], _, _, (by first | exact LeS.d (by first | exact LeD.u rfl | fail) | fail), (by repeat (first | exact LeO.nil | refine LeO.ab rfl rfl (by repeat (first | exact LeL.nil | fail)) (by first | rfl | fail) ?_ | fail)), rfl, rfl⟩
end Go.Proofs.YtabmcfnefjipbaaGreatDoor
namespace Go.Proofs.YtabmcfnefjipbaaGreatDoor
open Go.ChangeShapes Go.WideShapes Go.ChangeAt Go.RowKit

section
variable {H : Type} {enc : TypeId × Value → H} {P : Program}

theorem trodAll_stays (hl : laidOutB P = true) {W W' : World} {sp' : Nat → Bool} : ∀ {ts : List TypeId} {vs : List Value} {ds : List (DataW H)} {ps : List MemPlace}, (∀ t ∈ ts, P.readableRec t = true ∧ t < P.types.size) →
    DataW.TrodAll enc P W 0 (fun _ => true) true ts vs ds ps → (∀ p ∈ ps, W.sameAt W' p) → (∀ p ∈ ps, sp' p.block = true) → DataW.TrodAll enc P W' 0 sp' true ts vs ds ps
  | [], [], [], _, _, h, _, _ => h
  | _ :: _, _ :: _, _ :: _, _, hT, ⟨p, q, h1, h2, e⟩, hm, hs =>
    ⟨p, q, WideElems.Trod_stays hl (hT _ (List.mem_cons.2 (Or.inl rfl))).1 (hT _ (List.mem_cons.2 (Or.inl rfl))).2 h1 (fun x hx => hm x (by rw [e]; exact List.mem_append_left _ hx)) (fun x hx => hs x (by rw [e]; exact List.mem_append_left _ hx)),
      trodAll_stays hl (fun t ht => hT t (List.mem_cons.2 (Or.inr ht))) h2 (fun x hx => hm x (by rw [e]; exact List.mem_append_right _ hx)) (fun x hx => hs x (by rw [e]; exact List.mem_append_right _ hx)), e⟩
  | [], [], _ :: _, _, _, h, _, _ => h.elim
  | [], _ :: _, _, _, _, h, _, _ => h.elim
  | _ :: _, [], _, _, _, h, _, _ => h.elim
  | _ :: _, _ :: _, [], _, _, h, _, _ => h.elim

/-- One closed fact: each parameter's type can be read and is a row of the table. -/
def paramsRead (P : Program) (fn : Func) : Bool := fn.params.toList.all fun t => P.readableRec t && decide (t < P.types.size)

theorem post_of_below {f : Func} {s : ChangeSpec} {apart fresh handsOn again : Bool} {W W' : World} {args : Array Value} {ds : List (DataW H)} {before : List MemPlace} {tb : TypeId}
    (hl : laidOutB P = true) (hT : paramsRead P f = true) (hres : f.resultTypes = #[tb]) (htb : P.underlying tb = some .bool) (hvars : s.vars = [])
    (hsp : s.fn H ds = { results := [.lit (.bool true)], args := ds })
    (hW : DataW.Whole enc P f.params.toList s.vars apart W args.toList ds [] before) (hb : Below W.heap.size W W') :
    s.post enc P f apart fresh handsOn again W args (.bool true) W' := by
  have hT' : ∀ t ∈ f.params.toList, P.readableRec t = true ∧ t < P.types.size := fun t ht => by
    have := List.all_eq_true.1 hT t ht
    simpa using this
  have hlt := hW.lt
  have hW' := hW
  obtain ⟨p, q, hA, hV, he, hz, hn⟩ := hW
  have hq : q = [] := by
    rw [hvars] at hV
    exact (trodVars_none hV).2
  subst hq
  rw [List.append_nil] at he
  subst he
  have hR : ∀ (b : Nat) (sp : Nat → Bool) (hd : Bool), DataW.TrodAll enc P W' b sp hd f.resultTypes.toList ((Value.bool true).resultList f.resultTypes.size) (s.fn H (ds ++ [])).results [] := by
    intro b sp hd
    rw [List.append_nil, hsp, hres]
    exact trodAll_mk1 (shut_bool htb _)
  have hG : ∀ sp : Nat → Bool, (∀ p' ∈ before, sp p'.block = true) → DataW.TrodAll enc P W' 0 sp true f.params.toList args.toList (s.fn H (ds ++ [])).args before := by
    intro sp h
    rw [List.append_nil, hsp]
    exact trodAll_stays hl hT' hA (fun x hx => hb.same (hlt x hx)) h
  have hU : ∀ sp : Nat → Bool, DataW.TrodVars enc P W' sp s.vars (s.fn H (ds ++ [])).vars [] := by
    intro sp
    rw [hvars, List.append_nil, hsp]
    rfl
  refine ⟨ds, [], before, [], before, [], hW', hR _ _ _, hG _ (fun x hx => by simpa using hlt x hx), hU _, hb.frame _, fun _ => ?_⟩
  refine ⟨ok_one hres rfl (okWide_bool_mk htb _), _, _, ([] ++ before) ++ [], ⟨[] ++ before, [], trodAll_append (hG _ (fun _ _ => rfl)) (hR _ _ _), hU _, rfl, ?_, ?_⟩, ?_⟩
  · intro b off hp
    have hp' := by simpa using hp
    rw [hb.frozen (hlt _ hp')]
    exact hz b off hp'
  · intro ha
    simpa using hn ha
  · intro x hx _
    simpa using hx
end

end Go.Proofs.YtabmcfnefjipbaaGreatDoor
namespace Go.Proofs.YtabmcfnefjipbaaGreatDoor
theorem bulk_one {H : Type} (d : DataW H) : 1 ≤ Rows.uptoBulk d := by
  cases d with
  | lit l => cases l <;> simp [Rows.uptoBulk]
  | nil => simp [Rows.uptoBulk]
  | ptr d => simp [Rows.uptoBulk]
  | slice elems spare => simp [Rows.uptoBulk]
  | agg parts => simp [Rows.uptoBulk]
  | iface t d => simp [Rows.uptoBulk]
  | map entries => simp [Rows.uptoBulk]
  | held h => simp [Rows.uptoBulk]
theorem bulk_len {H : Type} : ∀ (l : List (DataW H)), l.length ≤ Rows.uptoBulkAll l
  | [] => by simp [Rows.uptoBulkAll]
  | x :: r => by have := bulk_one x; have := bulk_len r; simp only [Rows.uptoBulkAll, List.length_cons]; omega
theorem bulk_entry {H : Type} (x : Lit × DataW H) : Rows.uptoBulk x.2 + 1 ≤ Rows.uptoBulkEntry x := by
  obtain ⟨l, d⟩ := x
  cases l <;> simp [Rows.uptoBulkEntry] <;> omega
theorem bulk_entries {H : Type} : ∀ (l : List (Lit × DataW H)), l.length ≤ Rows.uptoBulkEntries l
  | [] => by simp [Rows.uptoBulkEntries]
  | x :: r => by have := bulk_entry x; have := bulk_entries r; simp only [Rows.uptoBulkEntries, List.length_cons]; omega
theorem bulk_mem {H : Type} {d : DataW H} {l : List (DataW H)} (h : d ∈ l) : Rows.uptoBulk d ≤ Rows.uptoBulkAll l := by
  induction l with
  | nil => cases h
  | cons x r ih =>
    simp only [Rows.uptoBulkAll]
    rcases List.mem_cons.1 h with rfl | h
    · omega
    · have := ih h; omega
theorem le_of_mul {m a b C : Nat} (h : m ≤ a * C) (hab : a ≤ b) : m ≤ b * C := Nat.le_trans h (Nat.mul_le_mul_right C hab)
/-- The types of a type's parts are in the table; what they weigh. -/
def closedT (P : Program) : Bool := (List.range P.types.size).all fun t => decide (P.bytesOf t ≤ 4096) && match P.underlying t with
  | some (.slice e) => decide (e < P.types.size)
  | some (.pointer e) => decide (e < P.types.size)
  | some (.array _ e) => decide (e < P.types.size)
  | some (.map k e) => decide (k < P.types.size) && decide (e < P.types.size)
  | some (.struct fs) => (fs.toList.map (·.type)).all fun e => decide (e < P.types.size)
  | _ => true
theorem closed_at {P : Program} (hP : closedT P = true) {t : TypeId} (h : t < P.types.size) : P.bytesOf t ≤ 4096 ∧ (∀ e, P.underlying t = some (.slice e) → e < P.types.size) ∧ (∀ e, P.underlying t = some (.pointer e) → e < P.types.size) ∧ (∀ n e, P.underlying t = some (.array n e) → e < P.types.size) ∧ (∀ k e, P.underlying t = some (.map k e) → k < P.types.size ∧ e < P.types.size) ∧ (∀ fs, P.underlying t = some (.struct fs) → ∀ e ∈ fs.toList.map (·.type), e < P.types.size) := by
  have h1 := List.all_eq_true.1 hP t (List.mem_range.2 h)
  rw [Bool.and_eq_true] at h1
  obtain ⟨h1, h2⟩ := h1
  refine ⟨of_decide_eq_true h1, fun e q => ?_, fun e q => ?_, fun n e q => ?_, fun k e q => ?_, fun fs q => ?_⟩
  · rw [q] at h2; exact of_decide_eq_true h2
  · rw [q] at h2; exact of_decide_eq_true h2
  · rw [q] at h2; exact of_decide_eq_true h2
  · rw [q] at h2
    rw [Bool.and_eq_true] at h2
    exact ⟨of_decide_eq_true h2.1, of_decide_eq_true h2.2⟩
  · rw [q] at h2
    exact fun e he => of_decide_eq_true (List.all_eq_true.1 h2 e he)
theorem one_C {C : Nat} (hC : C = 8192) : 1 ≤ C := by rw [hC]; decide
theorem two_C {P : Program} {C : Nat} (hC : C = 8192) (hP : closedT P = true) {e k : TypeId} (h : e < P.types.size) (h' : k < P.types.size) : P.bytesOf e + P.bytesOf k ≤ C := by
  have h1 := (closed_at hP h).1
  have h2 := (closed_at hP h').1
  rw [hC]
  exact Nat.add_le_add h1 h2
mutual
theorem wb {H : Type} {P : Program} {C : Nat} (hC : C = 8192) (hP : closedT P = true) : ∀ (d : DataW H) (t : TypeId), t < P.types.size → ∀ m ∈ d.weights P t, m ≤ Rows.uptoBulk d * C
  | .lit l, t, hlt, m, h => by
    cases l with
    | string b =>
      simp only [DataW.weights, List.mem_singleton] at h
      subst h
      simp only [Rows.uptoBulk]
      exact Nat.le_trans (Nat.le_succ _) (Nat.le_trans (Nat.le_of_eq (Nat.mul_one _).symm) (Nat.mul_le_mul_left _ (one_C hC)))
    | _ => simp [DataW.weights] at h
  | .nil, t, hlt, m, h => by simp [DataW.weights] at h
  | .ptr d, t, hlt, m, h => by
    simp only [DataW.weights] at h
    simp only [Rows.uptoBulk]
    split at h
    · rename_i e q; exact le_of_mul (wb hC hP d _ ((closed_at hP hlt).2.2.1 e q) m h) (by omega)
    · cases h
  | .slice es sp, t, hlt, m, h => by
    simp only [DataW.weights] at h
    simp only [Rows.uptoBulk]
    split at h
    · rename_i e q
      have he := (closed_at hP hlt).2.1 e q
      rcases List.mem_cons.1 h with rfl | h
      · have h1 := bulk_len es
        have h2 := bulk_len sp
        exact le_of_mul (Nat.mul_le_mul (show es.length + sp.length ≤ Rows.uptoBulkAll es + Rows.uptoBulkAll sp by omega) (Nat.le_trans (Nat.le_add_right _ _) (two_C hC hP he he))) (by omega)
      · rcases List.mem_append.1 h with h | h
        · exact le_of_mul (wbAll hC hP es e he m h) (by omega)
        · exact le_of_mul (wbAll hC hP sp e he m h) (by omega)
    · cases h
  | .agg ps, t, hlt, m, h => by
    simp only [DataW.weights] at h
    simp only [Rows.uptoBulk]
    split at h
    · rename_i fs q; exact le_of_mul (wbEach hC hP ps _ ((closed_at hP hlt).2.2.2.2.2 fs q) m h) (by omega)
    · rename_i n e q; exact le_of_mul (wbAll hC hP ps _ ((closed_at hP hlt).2.2.2.1 n e q) m h) (by omega)
    · cases h
  | .iface n d, t, hlt, m, h => by simp [DataW.weights] at h
  | .map es, t, hlt, m, h => by
    simp only [DataW.weights] at h
    simp only [Rows.uptoBulk]
    split at h
    · rename_i k e q
      obtain ⟨hk, he⟩ := (closed_at hP hlt).2.2.2.2.1 k e q
      rcases List.mem_cons.1 h with rfl | h
      · exact le_of_mul (Nat.mul_le_mul (bulk_entries es) (two_C hC hP hk he)) (by omega)
      · exact le_of_mul (wbEntries hC hP es e he m h) (by omega)
    · cases h
  | .held x, t, hlt, m, h => by simp [DataW.weights] at h
theorem wbAll {H : Type} {P : Program} {C : Nat} (hC : C = 8192) (hP : closedT P = true) : ∀ (l : List (DataW H)) (t : TypeId), t < P.types.size → ∀ m ∈ DataW.weightsAll P t l, m ≤ Rows.uptoBulkAll l * C
  | [], t, hlt, m, h => by simp [DataW.weightsAll] at h
  | d :: r, t, hlt, m, h => by
    simp only [DataW.weightsAll, List.mem_append] at h
    simp only [Rows.uptoBulkAll]
    rcases h with h | h
    · exact le_of_mul (wb hC hP d t (by first | exact hlt | exact hlt _ (by simp)) m h) (by omega)
    · exact le_of_mul (wbAll hC hP r t hlt m h) (by omega)
theorem wbEach {H : Type} {P : Program} {C : Nat} (hC : C = 8192) (hP : closedT P = true) : ∀ (l : List (DataW H)) (ts : List TypeId), (∀ t ∈ ts, t < P.types.size) → ∀ m ∈ DataW.weightsEach P ts l, m ≤ Rows.uptoBulkAll l * C
  | [], ts, hlt, m, h => by cases ts <;> simp [DataW.weightsEach] at h
  | d :: r, [], hlt, m, h => by simp [DataW.weightsEach] at h
  | d :: r, t :: ts, hlt, m, h => by
    simp only [DataW.weightsEach, List.mem_append] at h
    simp only [Rows.uptoBulkAll]
    rcases h with h | h
    · exact le_of_mul (wb hC hP d t (by first | exact hlt | exact hlt _ (by simp)) m h) (by omega)
    · exact le_of_mul (wbEach hC hP r ts (fun t ht => hlt t (by simp [ht])) m h) (by omega)
theorem wbEntries {H : Type} {P : Program} {C : Nat} (hC : C = 8192) (hP : closedT P = true) : ∀ (l : List (Lit × DataW H)) (t : TypeId), t < P.types.size → ∀ m ∈ DataW.weightsEntries P t l, m ≤ Rows.uptoBulkEntries l * C
  | [], t, hlt, m, h => by simp [DataW.weightsEntries] at h
  | x :: r, t, hlt, m, h => by
    simp only [DataW.weightsEntries, List.mem_append] at h
    simp only [Rows.uptoBulkEntries]
    rcases h with h | h
    · exact le_of_mul (wbEntry hC hP x t hlt m h) (by omega)
    · exact le_of_mul (wbEntries hC hP r t hlt m h) (by omega)
theorem wbEntry {H : Type} {P : Program} {C : Nat} (hC : C = 8192) (hP : closedT P = true) : ∀ (x : Lit × DataW H) (t : TypeId), t < P.types.size → ∀ m ∈ DataW.weightsEntry P t x, m ≤ Rows.uptoBulkEntry x * C
  | (l, d), t, hlt, m, h => by
    have hb := wb hC hP d t hlt
    cases l with
    | string b =>
      simp only [DataW.weightsEntry, List.mem_cons] at h
      simp only [Rows.uptoBulkEntry]
      rcases h with rfl | h
      · exact le_of_mul (a := b.length) (Nat.le_trans (Nat.le_of_eq (Nat.mul_one _).symm) (Nat.mul_le_mul_left _ (one_C hC))) (by omega)
      · exact le_of_mul (hb m h) (by omega)
    | _ =>
      simp only [DataW.weightsEntry] at h
      simp only [Rows.uptoBulkEntry]
      exact le_of_mul (hb m h) (by omega)
end
/-- What an argument weighs. -/
theorem bulk_weights {H : Type} {P : Program} {C : Nat} (hC : C = 8192) (hP : closedT P = true) {ds : List (DataW H)} {d : DataW H} {t : TypeId} (h : Rows.uptoBulkAll ds ≤ 1048576) (hlt : t < P.types.size) (hd : d ∈ ds) {m : Nat} (hm : m ∈ d.weights P t) : m ≤ 9000000000 :=
  Nat.le_trans (wb hC hP d t hlt m hm) (Nat.le_trans (Nat.mul_le_mul (Nat.le_trans (bulk_mem hd) h) (Nat.le_of_eq hC)) (by decide))
end Go.Proofs.YtabmcfnefjipbaaGreatDoor
namespace Go.Proofs.YtabmcfnefjipbaaGreatDoor
open Go.ChangeShapes Go.WideShapes Go.Deep

section
variable {H : Type} {enc : TypeId × Value → H} {P : Program} {w : World} {base : Nat} {spare : Nat → Bool} {held : Bool}

theorem cell_lt {p : Addr} {v : Value} (h : w.cell? p = some v) : p.block < w.heap.size := by
  by_cases hl : p.block < w.heap.size
  · exact hl
  · have : w.heap[p.block]? = none := by simp; omega
    simp [World.cell?, this] at h

end

section
variable {H : Type} {P : Program} {ts : List TypeId} {ds : List (DataW H)}
/-- What a field of a struct weighs is weighed. -/
theorem weights_field {t u : TypeId} {fs : Array Field} {parts : List (DataW H)} {j : Nat} {d : DataW H} (hu : P.underlying t = some (.struct fs)) (hf : (fs.toList.map (·.type))[j]? = some u) (hd : parts[j]? = some d) {n : Nat} (hn : n ∈ d.weights P u) : n ∈ (DataW.agg parts).weights P t := by
  simp only [DataW.weights, hu]
  exact DataW.weights_mem_each hf hd n hn
theorem weights_slice {t e : TypeId} {el sp : List (DataW H)} (hu : P.underlying t = some (.slice e)) : (el.length + sp.length) * P.bytesOf e ∈ (DataW.slice el sp).weights P t := by
  simp [DataW.weights, hu]
end
end Go.Proofs.YtabmcfnefjipbaaGreatDoor
namespace Go.Proofs.YtabmcfnefjipbaaGreatDoor
open Go.ChangeShapes Go.WideShapes Go.Deep Go.RowKit
/-- What a cell of an argument is. -/
inductive Sh where
  | int (k : IntKind)
  | bool
  | str
  | sl (by_ : Nat) (e : List Sh)
abbrev bigB : Nat := 9000000000
inductive HasSh : Sh → V → Prop
  | int {k : IntKind} {n : Int} (h : (Lit.int k n).wf = true) : HasSh (.int k) (.int k n)
  | bool {b : Bool} : HasSh .bool (.bool b)
  | str {s : ByteArray} (h : s.size ≤ bigB) : HasSh .str (.str s)
  | sl {by_ sz : Nat} {e : List Sh} {rs : List (List V)} (hl : rs.length * by_ ≤ bigB) (hm : rs.length ≤ maxLen) (hs : sz = e.length) (hr : ∀ r ∈ rs, r.length = sz) (h : ∀ r ∈ rs, ∀ (j : Nat) s x, e[j]? = some s → r[j]? = some x → HasSh s x) : HasSh (.sl by_ e) (.sl sz rs)
/-- Cells. -/
structure HasL (e : List Sh) (r : List V) : Prop where
  len : r.length = e.length
  has : ∀ (j : Nat) s x, e[j]? = some s → r[j]? = some x → HasSh s x
theorem HasL.nil : HasL [] [] := ⟨rfl, fun _ _ _ h => by simp at h⟩
theorem HasL.app {e f : List Sh} {r q : List V} (h : HasL e r) (k : HasL f q) : HasL (e ++ f) (r ++ q) := ⟨by simp [h.len, k.len], fun j s x h1 h2 => by
  by_cases hj : j < e.length
  · rw [List.getElem?_append_left hj] at h1
    rw [List.getElem?_append_left (by rw [h.len]; exact hj)] at h2
    exact h.has j s x h1 h2
  · rw [List.getElem?_append_right (by omega)] at h1
    rw [List.getElem?_append_right (by rw [h.len]; omega), h.len] at h2
    exact k.has _ s x h1 h2⟩
theorem HasL.one {s : Sh} {x : V} (h : HasSh s x) : HasL [s] [x] := ⟨rfl, fun j a b h1 h2 => by
  cases j with
  | zero => simp at h1 h2; subst h1 h2; exact h
  | succ j => simp at h1⟩
theorem HasL.cons_inv {s : Sh} {e : List Sh} {r : List V} (h : HasL (s :: e) r) : ∃ x q, r = x :: q ∧ HasSh s x ∧ HasL e q := by
  cases r with
  | nil => have := h.len; simp at this
  | cons x q => exact ⟨x, q, rfl, h.has 0 s x rfl rfl, by have := h.len; simpa using this, fun j a b h1 h2 => h.has (j + 1) a b (by simpa using h1) (by simpa using h2)⟩
theorem HasL.nil_inv {r : List V} (h : HasL [] r) : r = [] := List.eq_nil_of_length_eq_zero h.len
def shFs (g : Nat → Option (List Sh)) : List (Nat × TypeId) → Nat → Option (List Sh)
  | [], _ => some []
  | (off, t) :: r, o => bif Nat.beq off o then match g t with
      | none => none
      | some l => match shFs g r (o + l.length) with
        | none => none
        | some m => some (l ++ m)
    else none
/-- The shape of a type. -/
def shT (T : List (Nat × Ty)) : Nat → Nat → Option (List Sh)
  | 0, _ => none
  | f + 1, t => match lk t T with
    | none => none
    | some i => match i.k with
      | .in_ k => bif Nat.beq i.size 1 then some [.int k] else none
      | .bo => bif Nat.beq i.size 1 then some [.bool] else none
      | .sr => bif Nat.beq i.size 1 then some [.str] else none
      | .sl e => match lk e T with
        | none => none
        | some j => match shT T f e with
          | none => none
          | some l => bif Nat.beq l.length j.size && (Nat.blt 0 j.size && Nat.beq i.size 1) then some [.sl j.bytes l] else none
      | .st fs => match shFs (shT T f) fs 0 with
        | none => none
        | some l => bif Nat.beq l.length i.size then some l else none
      | _ => none
section
variable {H : Type} {enc : TypeId × Value → H} {P : Program} {T : List (Nat × Ty)} [hT : Tys P T] {w : World} {base : Nat} {spare : Nat → Bool} {held : Bool}
abbrev zW (w : World) : Fz := ⟨⟨fun b => b < w.heap.size, fun _ => [], fun _ => True⟩, w⟩
omit hT in
theorem weightsAll_mem {e : TypeId} : ∀ {ds : List (DataW H)} {d : DataW H}, d ∈ ds → ∀ m ∈ d.weights P e, m ∈ DataW.weightsAll P e ds
  | x :: r, d, h, m, hm => by
    simp only [DataW.weightsAll, List.mem_append]
    rcases List.mem_cons.1 h with rfl | h
    · exact .inl hm
    · exact .inr (weightsAll_mem h m hm)
/-- What a cell reader of type t tells. -/
def Opn (enc : TypeId × Value → H) (P : Program) (w : World) (base : Nat) (spare : Nat → Bool) (held : Bool) (t : TypeId) (sh : List Sh) : Prop :=
  ∀ (n : Nat) (cs : List Value) (y : DataW H × List MemPlace), DataW.trod enc P w base spare held n t cs = some y → (∀ m ∈ y.1.weights P t, m ≤ bigB) → ∃ xs : List V, HasL sh xs ∧ DenVL (zW w) xs cs
theorem opn_slice {t e : TypeId} {l : List Sh} {i j : Ty} (ht : lk t T = some i) (hi : i.k = .sl e) (hj : lk e T = some j) (hl : l.length = j.size) (hp : 0 < j.size) (ih : Opn enc P w base spare held e l) : Opn enc P w base spare held t [.sl j.bytes l] := by
  intro n cs y h hw
  have ku := (hT.ok t i ht).kind
  rw [hi] at ku
  have ku : P.underlying t = some (.slice e) := ku
  obtain ⟨f, z, q1, q2, q3, _⟩ := (hT.ok e j hj).info
  have hC : P.cellsOf e = j.size := by simp [Program.cellsOf, q1, q2]
  have hBy : P.bytesOf e = j.bytes := by simp [Program.bytesOf, q1, q3]
  rcases open_slice ku h with ⟨rfl, rfl⟩ | ⟨a, len, cap, k, n', D, Pl, rfl, hb, hlc, hmx, hk, hx, hcell⟩
  · exact ⟨[.sl j.size []], .one (.sl (by simp) (by simp) (by rw [hl]) (by simp) (by simp)), ⟨rfl, rfl, fun m d u e1 e2 => by
      cases m with
      | zero => simp at e1 e2; subst e1 e2; exact .sl (b := 0) (o := 0) [] rfl (Nat.le_refl _) (Nat.zero_le _) (by simp) (fun h => absurd rfl h) rfl (by simp) rfl (by simp)
      | succ m => simp at e1⟩⟩
  · have hlk : len ≤ k := by rw [hk]; split <;> omega
    have hwt : (((List.range len).map D).length + ((List.range (k - len)).map fun j => D (len + j)).length) * P.bytesOf e ≤ bigB := hw _ (by rw [hx]; exact weights_slice ku)
    have hwe : ∀ i, i < len → ∀ m ∈ (D i).weights P e, m ≤ bigB := fun i hi m hm => hw m (by
      rw [hx]
      simp only [DataW.weights, ku, List.mem_cons, List.mem_append]
      exact .inr (.inl (weightsAll_mem (List.mem_map.2 ⟨i, List.mem_range.2 hi, rfl⟩) m hm)))
    have hE : ∀ i, i < len → ∃ (xs : List V) (cs : List Value), HasL l xs ∧ DenVL (zW w) xs cs ∧ ∀ m, m < j.size → w.cell? (a.add (i * j.size + m)) = cs[m]? := by
      intro i hil
      obtain ⟨cs', hc, ht'⟩ := hcell i (by omega)
      obtain ⟨xs, h1, h2⟩ := ih _ _ _ ht' (hwe i hil)
      rw [hC] at hc
      obtain ⟨_, hcl, hat⟩ := World.cells?_some hc
      exact ⟨xs, cs', h1, h2, fun m hm => by rw [← add_of_add]; exact hat m hm⟩
    have hL : ∀ k, k ≤ len → ∃ (rs : List (List V)) (us : List Value), rs.length = k ∧ (∀ r ∈ rs, HasL l r) ∧ DenVL (zW w) rs.flatten us ∧ us.length = k * j.size ∧ ∀ m u, us[m]? = some u → w.cell? (a.add m) = some u := by
      intro k
      induction k with
      | zero => intro _; exact ⟨[], [], rfl, by simp, .nil, by simp, by simp⟩
      | succ k ihk =>
        intro hk
        obtain ⟨rs, us, h1, h2, h3, h4, h5⟩ := ihk (by omega)
        obtain ⟨xs, cs, g1, g2, g3⟩ := hE k (by omega)
        have gl : cs.length = j.size := by rw [g2.len, g1.len, hl]
        refine ⟨rs ++ [xs], us ++ cs, by simp [h1], fun r hr => ?_, by rw [List.flatten_append]; simpa using h3.app g2, by rw [List.length_append, h4, gl, Nat.add_mul, Nat.one_mul], fun m u hu => ?_⟩
        · rcases List.mem_append.1 hr with hr | hr
          · exact h2 r hr
          · rw [List.mem_singleton.1 hr]; exact g1
        · by_cases hm : m < k * j.size
          · rw [List.getElem?_append_left (by omega)] at hu
            exact h5 m u hu
          · rw [List.getElem?_append_right (by omega), h4] at hu
            have hlt : m - k * j.size < j.size := by have := (List.getElem?_eq_some_iff.1 hu).1; omega
            have := g3 _ hlt
            rw [show k * j.size + (m - k * j.size) = m by omega] at this
            rw [this, hu]
    obtain ⟨rs, us, h1, h2, h3, h4, h5⟩ := hL len (Nat.le_refl _)
    have hlen : len * j.bytes ≤ bigB := by
      simp only [List.length_map, List.length_range, hBy] at hwt
      exact Nat.le_trans (Nat.mul_le_mul_right _ (Nat.le_add_right _ _)) hwt
    have hr : ∀ r ∈ rs, r.length = j.size := fun r hr => by rw [(h2 r hr).len, hl]
    refine ⟨[.sl j.size rs], .one (.sl (by rw [h1]; exact hlen) (by omega) hl.symm hr (fun r hr => (h2 r hr).has)), ⟨rfl, rfl, fun m d u e1 e2 => ?_⟩⟩
    cases m with
    | succ m => simp at e1
    | zero =>
      simp at e1 e2
      subst e1 e2
      by_cases hrs : rs = []
      · subst hrs
        have : len = 0 := by simpa using h1.symm
        subst this
        exact .sl (b := 0) (o := 0) [] rfl (Nat.zero_le _) (Nat.zero_le _) hr (fun h => absurd rfl h) rfl (by simp) rfl (by simp)
      · have hus : 0 < us.length := by
          rw [h4]
          have : 0 < len := by rw [← h1]; exact List.length_pos_iff.2 hrs
          exact Nat.mul_pos this hp
        obtain ⟨b, off, spot⟩ := a
        have hc0 := h5 0 _ (List.getElem?_eq_getElem hus)
        have hspot : spot = none := by simpa [Addr.add] using World.cell?_spot hc0
        subst hspot
        have hlt := cell_lt hc0
        refine .sl (b := b) (o := off) us h1 hlc (by omega) hr (fun _ => ⟨rfl, by simpa [block_of_add] using hlt⟩) h3.len (fun m u hu => ?_) h3.one h3.den
        have := h5 m u hu
        rwa [add_plain] at this
theorem opn_struct {t : TypeId} {g : Nat → Option (List Sh)} {fs : List (Nat × TypeId)} {sh : List Sh} {i : Ty} (ht : lk t T = some i) (hi : i.k = .st fs) (hs : shFs g fs 0 = some sh) (hl : sh.length = i.size) (ih : ∀ u l, g u = some l → Opn enc P w base spare held u l) (hg : ∀ u l, g u = some l → P.cellsOf u = l.length) : Opn enc P w base spare held t sh := by
  intro n cs y h hw
  have ku := (hT.ok t i ht).kind
  rw [hi] at ku
  obtain ⟨fields, k1, k2⟩ := ku
  obtain ⟨f, z, q1, q2, _⟩ := (hT.ok t i ht).info
  have hC : P.cellsOf t = i.size := by simp [Program.cellsOf, q1, q2]
  obtain ⟨xs, n', _, rfl, hcl, hxl, hf⟩ := DataW.trod_struct k1 h
  rw [hC] at hcl
  have hwf : ∀ (m : Nat) (fd : Field) (x : DataW H × List MemPlace), fields[m]? = some fd → xs[m]? = some x → ∀ q ∈ x.1.weights P fd.type, q ≤ bigB := fun m fd x e1 e2 q hq => hw q (weights_field (j := m) k1 (by rw [List.getElem?_map, Array.getElem?_toList, e1]; rfl) (by rw [List.getElem?_map, e2]; rfl) hq)
  have key : ∀ (l : List (Nat × TypeId)) (m o : Nat) (sh : List Sh), (∀ (q : Nat) p, l[q]? = some p → fs[m + q]? = some p) → shFs g l o = some sh → ∃ vs : List V, HasL sh vs ∧ ((o + sh.length ≤ cs.length) → DenVL (zW w) vs ((cs.drop o).take sh.length)) := by
    intro l
    induction l with
    | nil => intro m o sh _ hs; simp [shFs] at hs; subst hs; exact ⟨[], .nil, fun _ => by simpa using DenVL.nil⟩
    | cons p r ihl =>
      intro m o sh hp hs
      obtain ⟨off, u⟩ := p
      simp only [shFs] at hs
      cases hb : Nat.beq off o <;> rw [hb] at hs
      · cases hs
      · simp only [cond_true] at hs
        have := Nat.eq_of_beq_eq_true hb
        subst this
        cases hgu : g u with
        | none => simp only [hgu] at hs; cases hs
        | some l1 =>
          simp only [hgu] at hs
          cases hr : shFs g r (off + l1.length) with
          | none => simp only [hr] at hs; cases hs
          | some l2 =>
            simp only [hr] at hs
            injection hs with hs
            subst hs
            obtain ⟨vs, v1, v2⟩ := ihl (m + 1) _ l2 (fun q p hq => by have := hp (q + 1) p (by simpa using hq); rwa [show m + (q + 1) = m + 1 + q by omega] at this) hr
            have hfs := hp 0 (off, u) rfl
            rw [Nat.add_zero, ← k2, List.getElem?_map] at hfs
            cases hfd : fields.toList[m]? with
            | none => rw [hfd] at hfs; cases hfs
            | some fd =>
              rw [hfd] at hfs
              simp only [Option.map_some, Option.some.injEq, Prod.mk.injEq] at hfs
              obtain ⟨e1, e2⟩ := hfs
              rw [Array.getElem?_toList] at hfd
              have hrd := hf m fd hfd
              rw [e1, e2, hg u l1 hgu] at hrd
              have hmx : m < xs.length := by rw [hxl]; exact (Array.getElem?_eq_some_iff.1 hfd).1
              have hxm := List.getElem?_eq_getElem hmx
              rw [hxm] at hrd
              have hww := hwf m fd _ hfd hxm
              rw [e2] at hww
              obtain ⟨ws, w1, w2⟩ := ih u l1 hgu _ _ _ hrd hww
              refine ⟨ws ++ vs, w1.app v1, fun ho => ?_⟩
              simp only [List.length_append] at ho
              have h2 := v2 (by omega)
              have hsp : (cs.drop off).take (l1 ++ l2).length = (cs.drop off).take l1.length ++ (cs.drop (off + l1.length)).take l2.length := by
                rw [List.length_append, List.take_add, List.drop_drop]
              rw [hsp]
              exact w2.app h2
  obtain ⟨vs, v1, v2⟩ := key fs 0 0 sh (fun q p h => by rwa [Nat.zero_add]) hs
  refine ⟨vs, v1, ?_⟩
  have := v2 (by omega)
  rwa [List.drop_zero, List.take_of_length_le (by omega)] at this
omit hT in
theorem den_one {x : V} {v : Value} (h : DenV (zW w) x v) : DenVL (zW w) [x] [v] := ⟨rfl, by simp [h.one], fun m d u e1 e2 => by
  cases m with
  | zero => simp at e1 e2; subst e1 e2; exact h
  | succ m => simp at e1⟩
theorem shT_cells : ∀ {f t : Nat} {sh : List Sh}, shT T f t = some sh → P.cellsOf t = sh.length
  | 0, t, sh, h => by cases h
  | f + 1, t, sh, h => by
    simp only [shT] at h
    cases ht : lk t T with
    | none => rw [ht] at h; cases h
    | some i =>
      rw [ht] at h
      simp only at h
      obtain ⟨q, z, q1, q2, _⟩ := (hT.ok t i ht).info
      have hC : P.cellsOf t = i.size := by simp [Program.cellsOf, q1, q2]
      rw [hC]
      split at h
      · cases hb : Nat.beq i.size 1 <;> rw [hb] at h
        · cases h
        · injection h with h; subst h; exact Nat.eq_of_beq_eq_true hb
      · cases hb : Nat.beq i.size 1 <;> rw [hb] at h
        · cases h
        · injection h with h; subst h; exact Nat.eq_of_beq_eq_true hb
      · cases hb : Nat.beq i.size 1 <;> rw [hb] at h
        · cases h
        · injection h with h; subst h; exact Nat.eq_of_beq_eq_true hb
      · rename_i e hk
        split at h
        · cases h
        · rename_i j hj
          split at h
          · cases h
          · rename_i l hl
            cases hb : (Nat.beq l.length j.size && (Nat.blt 0 j.size && Nat.beq i.size 1)) <;> rw [hb] at h
            · cases h
            · injection h with h; subst h
              simp only [Bool.and_eq_true] at hb
              exact Nat.eq_of_beq_eq_true hb.2.2
      · split at h
        · cases h
        · rename_i l hl
          cases hb : Nat.beq l.length i.size <;> rw [hb] at h
          · cases h
          · injection h with h; subst h; exact (Nat.eq_of_beq_eq_true hb).symm
      · cases h
/-- An argument of a readable type is a tree of its shape. -/
theorem opn : ∀ {f t : Nat} {sh : List Sh}, shT T f t = some sh → Opn enc P w base spare held t sh
  | 0, t, sh, h => by cases h
  | f + 1, t, sh, h => by
    simp only [shT] at h
    cases ht : lk t T with
    | none => rw [ht] at h; cases h
    | some i =>
      rw [ht] at h
      simp only at h
      split at h
      · rename_i k hk
        cases hb : Nat.beq i.size 1 <;> rw [hb] at h
        · cases h
        · injection h with h; subst h
          have ku := (hT.ok t i ht).kind
          rw [hk] at ku
          have ku : P.underlying t = some (.int k) := ku
          intro n cs y hy _
          obtain ⟨z, rfl, _, hz⟩ := DataW.trod_int ku hy
          exact ⟨[.int k z], .one (.int hz), den_one (.int _ _)⟩
      · rename_i hk
        cases hb : Nat.beq i.size 1 <;> rw [hb] at h
        · cases h
        · injection h with h; subst h
          have ku := (hT.ok t i ht).kind
          rw [hk] at ku
          have ku : P.underlying t = some .bool := ku
          intro n cs y hy _
          obtain ⟨z, rfl, _⟩ := DataW.trod_bool ku hy
          exact ⟨[.bool z], .one .bool, den_one (.bool _)⟩
      · rename_i hk
        cases hb : Nat.beq i.size 1 <;> rw [hb] at h
        · cases h
        · injection h with h; subst h
          have ku := (hT.ok t i ht).kind
          rw [hk] at ku
          have ku : P.underlying t = some .string := ku
          intro n cs y hy hw
          obtain ⟨z, rfl, rfl, hz⟩ := DataW.trod_string ku hy
          have := hw z.data.toList.length (show _ ∈ [z.data.toList.length] from List.mem_singleton.2 rfl)
          have e : z.data.toList.length = z.size := Array.length_toList
          rw [e] at this
          exact ⟨[.str z], .one (.str this), den_one (.str _ hz)⟩
      · rename_i e hk
        split at h
        · cases h
        · rename_i j hj
          split at h
          · cases h
          · rename_i l hl
            cases hb : (Nat.beq l.length j.size && (Nat.blt 0 j.size && Nat.beq i.size 1)) <;> rw [hb] at h
            · cases h
            · injection h with h; subst h
              simp only [Bool.and_eq_true] at hb
              exact opn_slice ht hk hj (Nat.eq_of_beq_eq_true hb.1) (by simpa [Nat.blt_eq] using hb.2.1) (opn hl)
      · rename_i fs hk
        split at h
        · cases h
        · rename_i l hl
          cases hb : Nat.beq l.length i.size <;> rw [hb] at h
          · cases h
          · injection h with h; subst h
            exact opn_struct ht hk hl (Nat.eq_of_beq_eq_true hb) (fun u l hu => opn hu) (fun u l hu => shT_cells hu)
      · cases h
/-- An argument of one cell. -/
theorem arg_open {f t : Nat} {s : Sh} {v : Value} {d : DataW H} {p : List MemPlace} (hs : shT T f t = some [s]) (h : DataW.Trod enc P w base spare held t v d p) (hz : ∀ n ∈ d.weights P t, n ≤ bigB) (hv : v.cells = #[v]) : ∃ x, HasSh s x ∧ ∀ ρ, DenS ρ (zW w) (.d (.u x)) v := by
  obtain ⟨n, hn⟩ := h
  rw [hv] at hn
  obtain ⟨xs, h1, h2⟩ := opn hs n _ _ hn hz
  obtain ⟨x, q, rfl, h3, h4⟩ := h1.cons_inv
  have := h4.nil_inv
  subst this
  exact ⟨x, h3, fun ρ => .d (.u (h2.den 0 x v rfl rfl))⟩
end
end Go.Proofs.YtabmcfnefjipbaaGreatDoor
namespace Go.Proofs.YtabmcfnefjipbaaGreatDoor
open Go.ChangeShapes Go.WideShapes Go.ChangeAt Go.RowKit
theorem law_liftedL {C : Checked} {os : Os} {f : FuncId} {fn : Func} {s : ChangeSpec} {tb : TypeId} {apart fresh : Bool} {conds : List PathCond} {laid : List (String × DataW Unit)} (started : os.Started) (H : Type) (enc : TypeId × Value → H) (F : Stop.Interp)
    (own : ownKnob C.prog.godebug = none) (noInit : C.prog.inits.idxOf? f = none) (hfn : C.prog.funcs[f]? = some fn)
    (witness : ∃ (w : World) (tape : Tape) (i : Input), w.os = os ∧ (w.forCall tape i).Shaped C.prog ∧ i.vars = [] ∧ Input.okWide C.prog (w.forCall tape i) .any w.heap.size f i ∧
      (Rows.OpenSpec.upto s).preRow enc C.prog fn conds apart laid (w.forCall tape i).memory i.args ∧ ({} : Assume).holds C.prog (lone (Frame.enter C.prog f i.args .normal) [] (w.forCall tape i)))
    (hl : laidOutB C.prog = true) (hT : paramsRead C.prog fn = true) (hres : fn.resultTypes = #[tb]) (htb : C.prog.underlying tb = some .bool) (hvars : s.vars = [])
    (hsp : ∀ ds : List (DataW H), ds.length = fn.params.size → s.fn H ds = { results := [.lit (.bool true)], args := ds })
    (walk : ∀ (W : World) (base : Nat) (args : Array Value) (ds : List (DataW H)) (p : List MemPlace),
      (∀ (j : Nat) t v, fn.params[j]? = some t → args[j]? = some v → Value.okWide C.prog W .any base t v) →
      DataW.TrodAll enc C.prog W 0 (fun _ => true) true fn.params.toList args.toList ds p → (∀ x ∈ p, x.block < W.heap.size) →
      Rows.uptoBulkAll ds ≤ 1048576 → laidMetH C.prog laid W →
      Calls C.prog f args W fun e W' => e = .returned (.bool true) ∧ Below W.heap.size W W') :
    ReturnsInHanded {} C os f .any ((Rows.OpenSpec.upto s).preRow enc C.prog fn conds apart laid) (((Rows.OpenSpec.upto s).at F).post enc C.prog fn apart fresh false false) := by
  refine returnsInHanded_of_row (s := Rows.OpenSpec.upto s) own started noInit hfn witness ?_
  intro W base args ds gs before hval hW0 _ hk _ hL _ _
  have hW : DataW.Whole enc C.prog fn.params.toList s.vars apart W args.toList ds gs before := hW0
  have hgs : gs = [] := by
    obtain ⟨p, q, hA, hV, he, _, _⟩ := hW
    rw [hvars] at hV
    exact (trodVars_none hV).1
  subst hgs
  have hlen : ds.length = fn.params.size := by
    obtain ⟨p, q, hA, _⟩ := hW
    have hlt : ∀ {ts : List TypeId} {vs : List Value} {ds : List (DataW H)} {ps : List MemPlace}, DataW.TrodAll enc C.prog W 0 (fun _ => true) true ts vs ds ps → ds.length = ts.length := by
      intro ts
      induction ts with
      | nil => intro vs ds ps h; cases vs <;> cases ds <;> first | rfl | exact h.elim
      | cons t ts ih =>
        intro vs ds ps h
        cases vs with
        | nil => exact h.elim
        | cons v vs =>
          cases ds with
          | nil => exact h.elim
          | cons d ds =>
            obtain ⟨p, q, _, h2, _⟩ := h
            simp [ih h2]
    simpa using hlt hA
  have hb := of_decide_eq_true (hk _ rfl)
  rw [List.append_nil] at hb
  have hlt := hW.lt
  have hp : ∃ p, DataW.TrodAll enc C.prog W 0 (fun _ => true) true fn.params.toList args.toList ds p ∧ ∀ x ∈ p, x.block < W.heap.size := by
    obtain ⟨p, q, hA, hV, he, _, _⟩ := hW
    exact ⟨p, hA, fun x hx => hlt x (by rw [he]; exact List.mem_append_left _ hx)⟩
  obtain ⟨p, hA, hpl⟩ := hp
  refine (walk W base args ds p hval hA hpl hb hL).mono fun e W' ⟨he, hb⟩ => ?_
  exact ⟨_, he, post_of_below hl hT hres htb hvars (hsp ds hlen) hW hb⟩
theorem laid_out : laidOutB Tryz.prog = true := by kernel_rfl
theorem own_knob : ownKnob Tryz.prog.godebug = none := by kernel_rfl
theorem closed_T : closedT Tryz.prog = true := by kernel_rfl
mutual
def cellsD : DataW Unit → List Value
  | .lit (.int k n) => [.int k n]
  | .agg ps => cellsDs ps
  | _ => []
def cellsDs : List (DataW Unit) → List Value
  | [] => []
  | d :: r => cellsD d ++ cellsDs r
end
def setCs (cs : List Value) : Obj → Obj
  | .cells _ t frozen => .cells cs.toArray t frozen
  | o => o
noncomputable def laidWorld (os : Os) : World :=
  { World.holding Tryz.prog os ⟨#[], #[], []⟩ with heap := (((((World.holding Tryz.prog os ⟨#[], #[], []⟩).heap.modify 6 (setCs (cellsD Rows.laid_unicode_utf8_first))).modify 7 (setCs (cellsD Rows.laid_unicode_utf8_acceptRanges))).modify 1 (setCs (cellsD Rows.laid_internal_strconv_uint64pow10))).modify 4 (setCs (cellsD Rows.laid_math_bits_deBruijn32tab))).modify 5 (setCs (cellsD Rows.laid_math_bits_deBruijn64tab)) }
abbrev laidL : List (String × DataW Unit) := [("math/bits.deBruijn32tab", Rows.laid_math_bits_deBruijn32tab), ("math/bits.deBruijn64tab", Rows.laid_math_bits_deBruijn64tab), ("internal/strconv.uint64pow10", Rows.laid_internal_strconv_uint64pow10), ("unicode/utf8.acceptRanges", Rows.laid_unicode_utf8_acceptRanges), ("unicode/utf8.first", Rows.laid_unicode_utf8_first)]
section
variable {P : Program} {f : FuncId} {ss : List SV}
/-- A law's contract as its row asks it, with the tables. -/
theorem calls_of_AT {vs : List Value} {W : World} (h : ∀ zt, Tab zt → CallsA Tryz.prog f ss [(907, tbOb zt)] (Iso (db true) [(907, tbOb zt)])) (ht : Lib.TabIs Tryz.prog W "internal/strconv.uint64pow10" .u64 Lib.pow10Tab) (hv : ArgsAt rho0 (fg0 W) W ss vs) : Calls Tryz.prog f vs.toArray W fun e W' => e = .returned (.bool true) ∧ Below W.heap.size W W' := by
  have hg : Tryz.prog.globalNamed "internal/strconv.uint64pow10" = some 1 := by kernel_rfl
  have hlt : 1 < W.heap.size := by
    have h0 := ht
    unfold Lib.TabIs World.var? at h0
    rw [hg] at h0
    simp only [Option.bind_some] at h0
    rcases Nat.lt_or_ge 1 W.heap.size with h' | h'
    · exact h'
    · rw [Array.getElem?_eq_none h'] at h0; cases h0
  refine ((h ⟨fg0 W, W⟩ ⟨⟨_, hg, hlt, ht⟩⟩).out ⟨(· < W.heap.size), W, fg0 W⟩ rho0 [] vs W (Hp.init W) hv.1 ⟨fun _ h => h, Same.refl _ _, fun _ h => h, fun _ h => .inl h, .refl _, fun k s hk => ?_, ⟨[], [], rfl, ⟨rfl, .refl, .nil⟩, rfl⟩⟩).mono ?_
  · obtain ⟨h1, h2⟩ := lk_slT hk
    have hlt : k - 0 < vs.length := by rw [hv.1]; exact (List.getElem?_eq_some_iff.1 h2).1
    exact ⟨vs[k - 0], lk_slots h1 (List.getElem?_eq_getElem hlt), hv.2.1 _ s _ h2 (List.getElem?_eq_getElem hlt)⟩
  · rintro e w' ⟨v, h', s, ob', ρ', G', rfl, hw', g', rfl, rfl⟩
    obtain ⟨u, u1, u2⟩ := g'.tm 0 _ rfl
    simp only [lk, Nat.beq_refl, cond_true, Option.some.injEq] at u1
    subst u1
    cases u2 with | d u2 => cases u2 with | u u2 => cases u2 with | bool =>
    exact ⟨rfl, (g'.fw.trans (hw'.same.mono g'.fF)).below⟩
end
end Go.Proofs.YtabmcfnefjipbaaGreatDoor
namespace Go.Proofs.YtabmcfnefjipbaaGreatDoor
open Go.ChangeShapes Go.WideShapes Go.Deep Go.RowKit
abbrev shLocs : Sh := .sl 32 [.str, .str]
abbrev shEvs : Sh := .sl 104 [.int .i64, .str, .str, .int .i64, .int .i64, .int .i64, .str, shLocs]
theorem shEvs_eq : shT tt 6 22 = some [shEvs] := by rfl
theorem rows_ofP {α β : Type} {f : α → β} {P : α → Prop} : ∀ {rs : List β}, (∀ r ∈ rs, ∃ a, r = f a ∧ P a) → ∃ l : List α, rs = l.map f ∧ ∀ a ∈ l, P a
  | [], _ => ⟨[], rfl, fun _ h => by cases h⟩
  | r :: rs, h => by
    obtain ⟨a, rfl, ha⟩ := h r (by simp)
    obtain ⟨l, rfl, hl⟩ := rows_ofP (rs := rs) fun q hq => h q (by simp [hq])
    exact ⟨a :: l, rfl, fun b hb => by
      rcases List.mem_cons.1 hb with rfl | hb
      · exact ha
      · exact hl b hb⟩
theorem locs_of {x : V} (h : HasSh shLocs x) : ∃ l : List (ByteArray × ByteArray), x = .sl 2 (l.map locR) := by
  cases h with | sl hl hm hs hr h =>
  rename_i rs
  subst hs
  have : ∀ r ∈ rs, ∃ a : ByteArray × ByteArray, r = locR a ∧ True := fun r hr' => by
    obtain ⟨x0, q, rfl, h0, hq⟩ := HasL.cons_inv ⟨hr r hr', h r hr'⟩
    obtain ⟨x1, q, rfl, h1, hq⟩ := hq.cons_inv
    have := hq.nil_inv
    subst this
    cases h0 with | str h0 =>
    cases h1 with | str h1 =>
    exact ⟨⟨_, _⟩, rfl, trivial⟩
  obtain ⟨l, rfl, _⟩ := rows_ofP this
  exact ⟨l, rfl⟩
end Go.Proofs.YtabmcfnefjipbaaGreatDoor
namespace Go.Proofs.YtabmcfnefjipbaaGreatDoor
open Go.ChangeShapes Go.WideShapes Go.ChangeAt Go.Deep Go.RowKit
abbrev laidDL : List (String × DataW Unit) := [("math/bits.deBruijn32tab", Rows.laid_math_bits_deBruijn32tab), ("math/bits.deBruijn64tab", Rows.laid_math_bits_deBruijn64tab), ("internal/strconv.uint64pow10", Rows.laid_internal_strconv_uint64pow10), ("unicode/utf8.acceptRanges", Rows.laid_unicode_utf8_acceptRanges), ("strconv.ErrRange", Rows.laid_strconv_ErrRange), ("strconv.ErrSyntax", Rows.laid_strconv_ErrSyntax), ("unicode/utf8.first", Rows.laid_unicode_utf8_first)]
noncomputable def laidWorldD (os : Os) : World := World.laidAll Tryz.prog os laidDL
theorem laidD_met (os : Os) (args : Array Value) : laidMet Tryz.prog laidDL ((laidWorldD os).forCall (fun _ _ => 0) ⟨#[], args, []⟩).memory :=
  laidMet_laidAll args (by kernel_rfl) (by kernel_rfl)
theorem laidD_os (os : Os) : (laidWorldD os).os = os := World.laidAll_os _ _ _
/-- The table of powers of ten lies there. -/
theorem tab_ofD {W : World} (h : laidMetH Tryz.prog laidDL W) : Lib.TabIs Tryz.prog W "internal/strconv.uint64pow10" .u64 Lib.pow10Tab := by
  have h1 : laidMet Tryz.prog laidDL W := h
  have h2 := h1.tail.tail
  exact Lib.tabIs_of_head (rest := [("unicode/utf8.acceptRanges", Rows.laid_unicode_utf8_acceptRanges), ("strconv.ErrRange", Rows.laid_strconv_ErrRange), ("strconv.ErrSyntax", Rows.laid_strconv_ErrSyntax), ("unicode/utf8.first", Rows.laid_unicode_utf8_first)]) (g := 1) (t := 208) (e := 189) (n := 20) (by kernel_rfl) (by kernel_rfl) (by kernel_rfl) (by kernel_rfl) (by kernel_rfl) (by kernel_rfl) h2
theorem locs_ofD {x : V} (h : HasSh shLocs x) : ∃ l : List (ByteArray × ByteArray), x = .sl 2 (l.map locR) ∧ l.length ≤ 9000000000 := by
  obtain ⟨l, rfl⟩ := locs_of h
  refine ⟨l, rfl, ?_⟩
  cases h with | sl hl hm hs hr h =>
  have : bigB = 9000000000 := rfl
  rw [List.length_map] at hl
  omega
/-- What holds of each event that is handed in. -/
structure EvIn (e : Ev) : Prop where
  md : e.md.size ≤ 1000000000000
  locs : e.locs.length ≤ 9000000000
  line : e.line ≤ 9223372036854775807
theorem evs_ofD {x : V} (h : HasSh shEvs x) : ∃ l : List Ev, x = evs l ∧ l.length ≤ 9000000000 ∧ ∀ e ∈ l, EvIn e := by
  cases h with | sl hl hm hs hr h =>
  rename_i rs
  subst hs
  have : ∀ r ∈ rs, ∃ a : Ev, r = a.row ∧ EvIn a := fun r hr' => by
    obtain ⟨x0, q, rfl, h0, hq⟩ := HasL.cons_inv ⟨hr r hr', h r hr'⟩
    obtain ⟨x1, q, rfl, h1, hq⟩ := hq.cons_inv
    obtain ⟨x2, q, rfl, h2, hq⟩ := hq.cons_inv
    obtain ⟨x3, q, rfl, h3, hq⟩ := hq.cons_inv
    obtain ⟨x4, q, rfl, h4, hq⟩ := hq.cons_inv
    obtain ⟨x5, q, rfl, h5, hq⟩ := hq.cons_inv
    obtain ⟨x6, q, rfl, h6, hq⟩ := hq.cons_inv
    obtain ⟨x7, q, rfl, h7, hq⟩ := hq.cons_inv
    have := hq.nil_inv
    subst this
    cases h0 with | int =>
    cases h1 with | str h1 =>
    cases h2 with | str h2 =>
    cases h3 with | int hw3 =>
    cases h4 with | int =>
    cases h5 with | int =>
    cases h6 with | str h6 =>
    obtain ⟨b, rfl, hb⟩ := locs_ofD h7
    refine ⟨⟨_, _, _, _, _, _, _, b⟩, rfl, ?_, hb, ?_⟩
    · have : bigB = 9000000000 := rfl
      dsimp only
      omega
    · simp only [Lit.wf, Bool.and_eq_true, decide_eq_true_eq] at hw3
      exact hw3.2
  obtain ⟨l, rfl, hl2⟩ := rows_ofP this
  refine ⟨l, rfl, ?_, hl2⟩
  rw [List.length_map] at hl
  have : bigB = 9000000000 := rfl
  omega
abbrev shBks : Sh := .sl 56 [.str, .int .i64, .str, .str]
theorem shStr_eq : shT tt 6 9 = some [.str] := by rfl
theorem str_of {x : V} (h : HasSh .str x) : ∃ s : ByteArray, x = .str s ∧ s.size ≤ 9000000000 := by
  cases h with | str h =>
  have : bigB = 9000000000 := rfl
  exact ⟨_, rfl, by omega⟩
abbrev shStrs : Sh := .sl 16 [.str]
end Go.Proofs.YtabmcfnefjipbaaGreatDoor
