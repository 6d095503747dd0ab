/-
  Part 11 of the proofs of dmove_holds, dstack_holds, dsteps_holds, dover_holds, dbreaks_holds: laws and contracts that they need.
-/
import Derived.Test.YtabmcfnefjipbaaGreatDoorT10
set_option linter.unusedVariables false
set_option linter.unusedSimpArgs false
namespace Go.Proofs.YtabmcfnefjipbaaGreatDoor
open Go.RowKit
def acP (a : Ac) : Pc := ⟨a.md, a.fn, a.line⟩
/-- The place of the activation that event j began, behind n events. -/
def plOf (l : List Ev) (n j : Nat) : Pc := acP (acOf l n j)
/-- The calls at a position. -/
def posI (l : List Ev) (p : Nat) : List Nat := match l[p]? with
  | some e => if e.kind = 2 then stkI l p ++ [p] else stkI l p
  | none => []
def avA (a : Av) : Ac := ⟨a.md, a.fn, a.line⟩
theorem setAv_ac (s : List Av) (n i : Int) : (setAv s n i).map avA = setLn (s.map avA) n := by
  unfold setAv setLn
  rcases List.eq_nil_or_concat s with rfl | ⟨L, a, rfl⟩
  · rfl
  · simp [avA]
theorem avAt_ac {l : List Ev} {p : Nat} : ∀ i, i ≤ p → i ≤ l.length → (avAt l p i).map avA = stackAt l i
  | 0, _, _ => rfl
  | i + 1, hip, hi => by
    have he : l[i]? = some l[i] := List.getElem?_eq_getElem (by omega)
    have ih := avAt_ac (l := l) (p := p) i (by omega) (by omega)
    rw [avAt_succ he, stackAt_succ he, stepV, stepL]
    by_cases h2 : l[i].kind = 2
    · rw [if_pos h2, if_pos h2, List.map_append, ih]; rfl
    · rw [if_neg h2, if_neg h2]
      by_cases h1 : l[i].kind = 1
      · rw [if_pos h1, if_pos h1, setAv_ac, ih]
      · rw [if_neg h1, if_neg h1, if_pos (by omega), List.map_dropLast, ih]
/-- PLAIN LAW: the active functions at a position. -/
theorem places_agree {l : List Ev} (hv : Vd l) {p : Nat} (hp : p < l.length) : (activeM l p).map Av.pc = (posI l p).map (plOf l (p + 1)) := by
  have he : l[p]? = some l[p] := List.getElem?_eq_getElem hp
  have hpc : ∀ s : List Av, s.map Av.pc = (s.map avA).map acP := fun s => by rw [List.map_map]; rfl
  have hpl : ∀ (n : Nat) (s : List Nat), s.map (plOf l n) = (s.map (acOf l n)).map acP := fun n s => by rw [List.map_map]; rfl
  have e : activeM l p = avAt l p (p + 1) := by rw [activeM, if_neg (by omega), Int.toNat_natCast]
  have ih := avAt_ac (l := l) (p := p) p (Nat.le_refl _) (by omega)
  obtain ⟨s1, s2⟩ := stk_line hv (p + 1) (by omega)
  obtain ⟨t1, t2⟩ := stk_line hv p (by omega)
  rw [e, hpc, hpl]
  congr 1
  rw [avAt_succ he, stepV]
  rw [stackAt_succ he, stkI_succ he, stepL, stepI] at s1
  unfold posI
  rw [he]
  dsimp only
  by_cases h2 : l[p].kind = 2
  · rw [if_pos h2, if_pos h2] at s1
    rw [if_pos h2, if_pos h2, List.map_append, ih, ← s1]; rfl
  · rw [if_neg h2, if_neg h2] at s1
    rw [if_neg h2, if_neg h2]
    by_cases h1 : l[p].kind = 1
    · rw [if_pos h1, if_neg (by simpa using h1)] at s1
      rw [if_pos h1, setAv_ac, ih, s1]
    · rw [if_neg h1, if_neg (Nat.lt_irrefl _), ih, t1]
      refine List.map_congr_left fun j hj => ?_
      have hlt := (stkI_lt (l := l) p j hj).1
      unfold acOf
      cases l[j]? with
      | none => rfl
      | some x =>
        dsimp only
        rw [lineM_succ hlt he, if_neg (fun h => h1 h.1)]
/-- What the reference's Shown finds among the first i events, at depth d. -/
def shownM (l : List Ev) (d : Int) (n : ByteArray) : Nat → Option ByteArray
  | 0 => none
  | i + 1 => match l[i]? with
    | some e => if e.depth = d ∧ e.kind = 1 then varM n e.locs else if e.depth = d ∧ e.kind = 2 then none else shownM l d n i
    | none => shownM l d n i
theorem shownM_succ {l : List Ev} {d : Int} {n : ByteArray} {i : Nat} {e : Ev} (h : l[i]? = some e) : shownM l d n (i + 1) = if e.depth = d ∧ e.kind = 1 then varM n e.locs else if e.depth = d ∧ e.kind = 2 then none else shownM l d n i := by rw [shownM, h]
/-- The text at an activation's last stop. -/
def stopT (l : List Ev) (n : ByteArray) (a : Av) : Option ByteArray := if a.stop < 0 then none else match l[a.stop.toNat]? with
  | some e => varM n e.locs
  | none => none
theorem avAt_shown {l : List Ev} (hv : Vd l) (n : ByteArray) {p : Nat} : ∀ i, i ≤ p + 1 → i ≤ l.length → ∀ (k : Nat) (a : Av), (avAt l p i)[k]? = some a → stopT l n a = shownM l ((k : Int) + 1) n i
  | 0, _, _, k, a, h => by simp [avAt] at h
  | i + 1, hip, hi, k, a, h => by
    have he : l[i]? = some l[i] := List.getElem?_eq_getElem (by omega)
    have ih := avAt_shown hv n (p := p) i (by omega) (by omega)
    have ok := hv.ok he
    have hlen := congrArg List.length (avAt_fu hv (p := p) i (by omega) (by omega))
    rw [List.length_map] at hlen
    have hdep := ok.depth
    have hlast := ok.last
    rw [avAt_succ he, stepV] at h
    rw [shownM_succ he]
    unfold pushM at hdep hlast
    generalize hx : l[i] = x at *
    have hkl := (List.getElem?_eq_some_iff.1 h).1
    by_cases h2 : x.kind = 2
    · rw [if_pos h2] at h hdep
      rw [if_neg (by omega)]
      rw [List.length_append, ← hlen] at hdep
      simp only [List.length_cons, List.length_nil] at hdep
      rcases Nat.lt_or_ge k (avAt l p i).length with hk | hk
      · rw [List.getElem?_append_left hk] at h
        rw [if_neg (by omega)]
        exact ih k a h
      · rw [List.getElem?_append_right hk] at h
        rcases h0 : k - (avAt l p i).length with _ | m
        · rw [h0] at h
          simp at h
          subst h
          rw [if_pos (by omega)]
          rfl
        · rw [h0] at h; simp at h
    · rw [if_neg h2] at h hdep hlast
      rw [← hlen] at hdep
      rw [if_neg (c := x.depth = _ ∧ x.kind = 2) (fun h => h2 h.2)]
      by_cases h1 : x.kind = 1
      · rw [if_pos h1] at h
        rcases List.eq_nil_or_concat (avAt l p i) with h0 | ⟨L, b, h0⟩
        · rw [h0] at h; simp [setAv] at h
        · rw [List.concat_eq_append] at h0
          rw [h0] at h hdep
          rw [h0] at ih
          simp only [setAv, List.getLast?_append, List.getLast?_singleton, Option.some_or, List.dropLast_concat] at h
          rw [List.length_append] at hdep
          simp only [List.length_cons, List.length_nil] at hdep
          rcases Nat.lt_or_ge k L.length with hk | hk
          · rw [List.getElem?_append_left hk] at h
            rw [if_neg (by omega)]
            exact ih k a (by rw [List.getElem?_append_left hk]; exact h)
          · rw [List.getElem?_append_right hk] at h
            rcases h00 : k - L.length with _ | m
            · rw [h00] at h
              simp at h
              subst h
              rw [if_pos ⟨by omega, h1⟩]
              unfold stopT
              dsimp only
              rw [if_neg (by omega), Int.toNat_natCast, he]
            · rw [h00] at h; simp at h
      · rw [if_neg h1] at h
        rw [if_neg (fun h => h1 h.2)]
        split at h
        · rw [List.getElem?_dropLast] at h
          split at h
          · exact ih k a h
          · cases h
        · exact ih k a h
theorem showM_eq (l : List Ev) (p : Int) (n : ByteArray) : showM l p n = match (activeM l p).getLast? with
    | none => none
    | some a => stopT l n a := rfl
/-- PLAIN LAW: the text of a variable at a position. -/
theorem shown_agree {l : List Ev} (hv : Vd l) (n : ByteArray) {p : Nat} {e : Ev} (he : l[p]? = some e) : showM l p n = shownM l e.depth n (p + 1) := by
  have hp := (List.getElem?_eq_some_iff.1 he).1
  have ea : activeM l p = avAt l p (p + 1) := by rw [activeM, if_neg (by omega), Int.toNat_natCast]
  have hs := avAt_shown hv n (p := p) (p + 1) (Nat.le_refl _) (by omega)
  have ok := hv.ok he
  have hlen := congrArg List.length (avAt_fu hv (p := p) p (Nat.le_refl _) (by omega))
  rw [List.length_map] at hlen
  have hdep := ok.depth
  have hlast := ok.last
  have hle : ((avAt l p (p + 1)).length : Int) = e.depth ∧ avAt l p (p + 1) ≠ [] := by
    rw [avAt_succ he, stepV]
    unfold pushM at hdep hlast
    by_cases h2 : e.kind = 2
    · rw [if_pos h2] at hdep ⊢
      rw [List.length_append, ← hlen] at hdep
      refine ⟨?_, by simp⟩
      rw [hdep]; simp
    · rw [if_neg h2] at hdep hlast ⊢
      have hne : avAt l p p ≠ [] := fun h0 => by
        rw [h0] at hlen
        rw [List.eq_nil_of_length_eq_zero hlen.symm] at hlast
        cases hlast
      by_cases h1 : e.kind = 1
      · rw [if_pos h1]
        have h3 := congrArg List.length (setAv_fu (avAt l p p) e.line p)
        simp only [List.length_map] at h3
        refine ⟨by rw [h3, hdep, hlen], fun h0 => ?_⟩
        rw [h0] at h3
        exact hne (List.eq_nil_of_length_eq_zero h3.symm)
      · rw [if_neg h1, if_neg (Nat.lt_irrefl _)]
        exact ⟨by rw [hdep, hlen], hne⟩
  rw [showM_eq, ea]
  obtain ⟨h3, h4⟩ := hle
  rcases List.eq_nil_or_concat (avAt l p (p + 1)) with h0 | ⟨L, a, h0⟩
  · exact absurd h0 h4
  · rw [List.concat_eq_append] at h0
    have h5 := hs L.length a (by rw [h0]; simp)
    rw [h0, List.length_append] at h3
    simp only [List.length_cons, List.length_nil] at h3
    rw [h0, List.getLast?_append, List.getLast?_singleton, Option.some_or]
    dsimp only
    rw [h5, show ((L.length : Int) + 1) = e.depth by omega]
theorem active_out {l : List Ev} {p : Int} (h : ¬ (0 ≤ p ∧ p ≤ (l.length : Int) - 1)) (hp : -1 ≤ p ∧ p ≤ (l.length : Int)) : activeM l p = [] := by
  rw [activeM, if_pos (by omega)]
end Go.Proofs.YtabmcfnefjipbaaGreatDoor
namespace Go.Proofs.YtabmcfnefjipbaaGreatDoor
open Go.RowKit
set_option maxHeartbeats 2000000 in
theorem places_R (a : List Pc) (ha : a.length ≤ 9000000000) : CallsA Tryz.prog 27 [.d (.u (pcs a)), .d (.u (pcs a))] [] (Is (db true)) := by
  refine callsA_of_vc (T := tt) Tryz.func27 rfl rfl rfl rfl rfl ?_
  repeat' ((conv => whnf); first | refine Gs.id ?_ | (refine Brn.mk (fun hb => ?_) (fun hb => ?_) <;> (try simp only [smT] at hb) <;> (try (exact absurd trivial hb)) <;> (try (exfalso; omega))) | (refine Bnd.mk (fun hm => ?_); (try simp only [smT] at hm)) | fail)
  all_goals (conv => whnf)
  all_goals try (exfalso; simp at *; done)
  refine ⟨⟨Nat, fun i => i ≤ a.length, fun i => a.length - i, fun i => ⟨[(0, .d (.u (pcs a))), (1, .d (.u (pcs a))), (5, di i)], []⟩, 0, Nat.zero_le _, ⟨[], ⟨by (try dsimp only); (repeat (refine LeT.cons rfl (by first | exact LeS.d (by first | exact LeD.u rfl | fail) | fail) ?_)); exact LeT.nil, by (try dsimp only); repeat (first | exact LeO.nil | fail)⟩⟩, fun i hi => ?_⟩⟩
  dsimp only at hi ⊢
  by_cases h9 : i < a.length
  · have hrow : ∀ {K : List V → Prop}, K (Pc.row a[i]) → Ix (a.map Pc.row) (i : Int) K := fun k => Ix.map rfl h9 k
    generalize a[i] = x at *
    have h1 := toList_beq x.md x.md
    have h2 := toList_beq x.fn x.fn
    rw [decide_eq_true rfl] at h1 h2
    repeat' ((conv => whnf); first | refine hrow ?_ | rw [h1] | rw [h2] | refine Gs.id ?_ | refine Brn.T (by (try simp only [smT]); first | rfl | omega | fail) ?_ | refine Brn.F (by (try simp only [smT]); first | rfl | (simp [*]; done) | fail) ?_ | (refine Bnd.mk (fun hm => ?_); (try simp only [smT] at hm)) | refine Rng.mk (by (try simp only [smT]); omega) ?_ | refine Eqv.mk (by kernel_rfl) ?_ | refine Drw.of (T := tt) (i := 6) [] [] [(0, true), (1, true), (2, true), (3, true), (4, true), (5, true), (6, true), (7, true), (8, true)] (by kernel_rfl) ?_)
    all_goals (conv => whnf)
    all_goals first | exact ⟨i + 1, by omega, by omega, [], ⟨by (try dsimp only); (repeat (refine LeT.cons rfl (by first | exact LeS.d (by first | exact LeD.u rfl | fail) | fail) ?_)); exact LeT.nil, by (try dsimp only); repeat (first | exact LeO.nil | fail)⟩⟩ | (exfalso; simp at *; done)
  · obtain rfl : i = a.length := by omega
    repeat' ((conv => whnf); first | refine Gs.id ?_ | refine Brn.F (by (try simp only [smT]); first | rfl | omega | fail) ?_ | (refine Bnd.mk (fun hm => ?_); (try simp only [smT] at hm)) | fail)
    all_goals (conv => whnf)
    all_goals exact Ret.is rfl
theorem plOf_eq {l : List Ev} {n j : Nat} {e : Ev} (h : l[j]? = some e) : plOf l n j = ⟨e.md, e.fn, lineM l e j n⟩ := by
  unfold plOf acOf
  rw [h]
  rfl
theorem placesAt_T (l : List Ev) (p : Nat) (hp : p < l.length) (hl : l.length ≤ 1000000000) : CallsA Tryz.prog 28 [.d (.u (evs l)), di p] [] (Is (.d (.u (pcs ((posI l p).map (plOf l (p + 1))))))) := by
  have hin := in_R p 0 (((l.map Ev.row).length : Int) - 1)
  rw [decide_eq_true (by rw [List.length_map]; omega)] at hin
  have hst := stack_R l p (by omega) hl
  have he : l[p]? = some l[p] := List.getElem?_eq_getElem hp
  have hlt := fun j hj => stkI_lt (l := l) p j hj
  have hsl := stkI_len (l := l) p
  have hlo := fun (j : Nat) (e : Ev) (h1 : l[j]? = some e) (h2 : j < p + 1) => lineOf_R l j (p + 1) e h1 h2 (by omega) (by omega)
  have hci : (((p + 1 : Nat) : Nat) : Int) = (p : Int) + 1 := by omega
  rw [hci] at hlo
  have hrow : ∀ {K : List V → Prop} {m : Int}, m = (p : Int) → K (l[p]).row → Ix (l.map Ev.row) m K := fun h k => by subst h; exact Ix.map rfl hp k
  have hpi : posI l p = if (l[p]).kind = 2 then stkI l p ++ [p] else stkI l p := by unfold posI; rw [he]
  have hrj : ∀ j, j < l.length → ∃ e, l[j]? = some e ∧ ∀ {K : List V → Prop} {m : Int}, m = (j : Int) → K e.row → Ix (l.map Ev.row) m K := fun j hj => ⟨l[j], List.getElem?_eq_getElem hj, fun h k => by subst h; exact Ix.map rfl hj k⟩
  generalize l[p] = e0 at *
  generalize hs : stkI l p = s at *
  by_cases h2 : e0.kind = 2
  · rw [if_pos h2] at hpi
    rw [hpi]
    clear hpi hs
    have hlt2 : ∀ j ∈ s ++ [p], j < p + 1 := fun j hj => by
      rcases List.mem_append.1 hj with h | h
      · have := hlt j h; omega
      · simp at h; omega
    refine callsA_of_vc (T := tt) Tryz.func28 rfl rfl rfl rfl rfl ?_
    repeat' ((conv => whnf); first | refine hrow rfl ?_ | refine Gs.id ?_ | with_reducible refine Brn.F rfl ?_ | refine Brn.T (by (try simp only [smT]); first | rfl | assumption | fail) ?_ | (refine Bnd.mk (fun hm => ?_); (try simp only [smT] at hm)) | refine Rng.mk (by (try simp only [smT]); omega) ?_ | refine Apd.mk (by first | rfl | fail) (by first | rfl | fail) (by (try simp only [smT]); first | omega | fail) (by unfold maxLen; first | (simp; omega) | fail) ?_ | (refine CL.mk (Or.inl ?_); (conv => whnf); first | refine Cl.is (hin) rfl (by first | exact fun _ => rfl | fail) ?_ | refine Cl.is (hst) rfl (by first | (intro e; cases e; done) | fail) ?_) | fail)
    all_goals (conv => whnf)
    all_goals try (exfalso; simp_all; done)
    have hsl2 : (s ++ [p]).length ≤ p + 1 := by simp; omega
    clear hlt hst hsl
    obtain ⟨s2, hs2⟩ : ∃ s2, s2 = s ++ [p] := ⟨_, rfl⟩
    rw [← hs2] at hlt2 hsl2 ⊢
    refine ⟨⟨Nat, fun i => i ≤ s2.length, fun i => s2.length - i, fun i => ⟨[(0, .d (.u (evs l))), (1, di p), (5, .d (.ow 900 s2.length)), (6, .d (.ow 901 (s2.take i).length)), (7, di i)], [(900, .ar 3 1 (s2.map ixR)), (901, .ar 112 3 (((s2.take i).map (plOf l (p + 1))).map Pc.row))]⟩, 0, Nat.zero_le _, ⟨[(900, .k 28), (901, .n 3)], by (rw [hs2]; exact ⟨by (try dsimp only); (repeat (refine LeT.cons rfl (by first | exact LeS.d (by first | exact LeD.u rfl | exact LeD.ow rfl (by simp) | exact LeD.no rfl rfl | fail) | fail) ?_)); exact LeT.nil, by (try dsimp only); repeat (first | exact LeO.nil | refine LeO.ar rfl rfl (by first | rfl | simp) ?_ | refine LeO.no rfl rfl ?_)⟩)⟩, fun i hi => ?_⟩⟩
    dsimp only at hi ⊢
    by_cases h9 : i < s2.length
    · have hsi : s2[i]? = some s2[i] := List.getElem?_eq_getElem h9
      have hji := hlt2 _ (List.getElem_mem h9)
      obtain ⟨e, hje, hrwj⟩ := hrj s2[i] (by omega)
      have hline := hlo s2[i] e hje hji
      have hpl := plOf_eq (n := p + 1) hje
      have hget : (s2.map ixR)[i]? = some (ixR s2[i]) := by rw [List.getElem?_map, hsi]; rfl
      have hgx : ∀ {K : List V → Prop}, K (ixR s2[i]) → Ix (s2.map ixR) (i : Int) K := fun k => Ix.map rfl h9 k
      have htk : s2.take (i + 1) = s2.take i ++ [s2[i]] := by rw [List.take_add_one, hsi]; rfl
      generalize s2[i] = j at *
      clear hlo hrj hrow
      repeat' ((conv => whnf); first | refine Ixo.mk ⟨i, rfl, by omega, ?_⟩ | refine Rw.get hget ?_ | refine hrwj rfl ?_ | refine Gs.id ?_ | refine Brn.T (by (try simp only [smT]); first | rfl | omega | fail) ?_ | (refine Bnd.mk (fun hm => ?_); (try simp only [smT] at hm)) | refine Rng.mk (by (try simp only [smT]); omega) ?_ | refine Apd.mk (by first | rfl | simp) (by first | rfl | fail) (by (try simp only [smT]); first | omega | fail) (by unfold maxLen; first | (simp; omega) | fail) ?_ | refine Drw.of (T := tt) (i := 10) [27, 28] [] [(0, true), (1, true), (2, true), (3, true), (4, true), (5, true), (6, true), (7, true), (8, true), (9, true), (10, true), (11, true), (12, true), (13, true), (14, true), (15, true), (16, true), (17, true), (18, true), (19, true), (20, true), (21, true), (22, true), (23, true), (24, false), (25, true), (26, false), (27, false), (28, false)] (by kernel_rfl) ?_ | (refine CL.mk (Or.inl ?_); (conv => whnf); refine Cl.is (hline) rfl (by first | exact fun _ => rfl | fail) ?_) | fail)
      all_goals (conv => whnf)
      all_goals exact ⟨i + 1, by omega, by omega, [(900, .k 900), (901, .k 62)], by (rw [htk]; exact ⟨by (try dsimp only); (repeat (refine LeT.cons rfl (by first | exact LeS.d (by first | exact LeD.u rfl | exact LeD.ow rfl rfl | exact LeD.ow rfl (by simp [hpl]) | fail) | fail) ?_)); exact LeT.nil, by (try dsimp only); repeat (first | exact LeO.nil | refine LeO.ar rfl rfl (by first | rfl | simp [hpl]) ?_ | fail)⟩)⟩
    · obtain rfl : i = s2.length := by omega
      rw [List.take_length]
      repeat' ((conv => whnf); first | refine Gs.id ?_ | refine Brn.F (by (try simp only [smT]); first | rfl | omega | fail) ?_ | (refine Bnd.mk (fun hm => ?_); (try simp only [smT] at hm)) | refine Len.mk (by first | rfl | (simp; done) | fail) ?_ | fail)
      all_goals (conv => whnf)
      all_goals first | exact Ret.is rfl | exact Ret.nl (by repeat (fail))
  · rw [if_neg h2] at hpi
    rw [hpi]
    clear hpi hs
    have hlt2 : ∀ j ∈ s, j < p + 1 := fun j hj => by have := hlt j hj; omega
    refine callsA_of_vc (T := tt) Tryz.func28 rfl rfl rfl rfl rfl ?_
    repeat' ((conv => whnf); first | refine hrow rfl ?_ | refine Gs.id ?_ | with_reducible refine Brn.F rfl ?_ | refine Brn.F (by (try simp only [smT]); first | rfl | assumption | fail) ?_ | (refine Bnd.mk (fun hm => ?_); (try simp only [smT] at hm)) | refine Rng.mk (by (try simp only [smT]); omega) ?_ | (refine CL.mk (Or.inl ?_); (conv => whnf); first | refine Cl.is (hin) rfl (by first | exact fun _ => rfl | fail) ?_ | refine Cl.is (hst) rfl (by first | (intro e; cases e; done) | fail) ?_) | fail)
    all_goals (conv => whnf)
    all_goals try (exfalso; simp_all; done)
    clear hlt hst
    refine ⟨⟨Nat, fun i => i ≤ s.length, fun i => s.length - i, fun i => ⟨[(0, .d (.u (evs l))), (1, di p), (5, .d (.u (.sl 1 (s.map ixR)))), (6, .d (.ow 901 (s.take i).length)), (7, di i)], [(901, .ar 112 3 (((s.take i).map (plOf l (p + 1))).map Pc.row))]⟩, 0, Nat.zero_le _, ⟨[(901, .n 3)], ⟨by (try dsimp only); (repeat (refine LeT.cons rfl (by first | exact LeS.d (by first | exact LeD.u rfl | exact LeD.no rfl rfl | fail) | fail) ?_)); exact LeT.nil, by (try dsimp only); repeat (first | exact LeO.nil | refine LeO.no rfl rfl ?_)⟩⟩, fun i hi => ?_⟩⟩
    dsimp only at hi ⊢
    by_cases h9 : i < s.length
    · have hsi : s[i]? = some s[i] := List.getElem?_eq_getElem h9
      have hji := hlt2 _ (List.getElem_mem h9)
      obtain ⟨e, hje, hrwj⟩ := hrj s[i] (by omega)
      have hline := hlo s[i] e hje hji
      have hpl := plOf_eq (n := p + 1) hje
      have hget : (s.map ixR)[i]? = some (ixR s[i]) := by rw [List.getElem?_map, hsi]; rfl
      have hgx : ∀ {K : List V → Prop}, K (ixR s[i]) → Ix (s.map ixR) (i : Int) K := fun k => Ix.map rfl h9 k
      have htk : s.take (i + 1) = s.take i ++ [s[i]] := by rw [List.take_add_one, hsi]; rfl
      generalize s[i] = j at *
      clear hlo hrj hrow
      repeat' ((conv => whnf); first | refine hrwj rfl ?_ | refine hgx ?_ | refine Gs.id ?_ | refine Brn.T (by (try simp only [smT]); first | rfl | omega | fail) ?_ | (refine Bnd.mk (fun hm => ?_); (try simp only [smT] at hm)) | refine Rng.mk (by (try simp only [smT]); omega) ?_ | refine Apd.mk (by first | rfl | simp) (by first | rfl | fail) (by (try simp only [smT]); first | omega | fail) (by unfold maxLen; first | (simp; omega) | fail) ?_ | refine Drw.of (T := tt) (i := 10) [27, 28] [] [(0, true), (1, true), (2, true), (3, true), (4, true), (5, true), (6, true), (7, true), (8, true), (9, true), (10, true), (11, true), (12, true), (13, true), (14, true), (15, true), (16, true), (17, true), (18, true), (19, true), (20, true), (21, true), (22, true), (23, true), (24, false), (25, true), (26, false), (27, false), (28, false)] (by kernel_rfl) ?_ | (refine CL.mk (Or.inl ?_); (conv => whnf); refine Cl.is (hline) rfl (by first | exact fun _ => rfl | fail) ?_) | fail)
      all_goals (conv => whnf)
      all_goals exact ⟨i + 1, by omega, by omega, [(901, .k 62)], by (rw [htk]; exact ⟨by (try dsimp only); (repeat (refine LeT.cons rfl (by first | exact LeS.d (by first | exact LeD.u rfl | exact LeD.ow rfl (by simp [hpl]) | fail) | fail) ?_)); exact LeT.nil, by (try dsimp only); repeat (first | exact LeO.nil | refine LeO.ar rfl rfl (by first | simp [hpl]) ?_ | fail)⟩)⟩
    · obtain rfl : i = s.length := by omega
      rw [List.take_length]
      repeat' ((conv => whnf); first | refine Gs.id ?_ | refine Brn.F (by (try simp only [smT]); first | rfl | omega | fail) ?_ | (refine Bnd.mk (fun hm => ?_); (try simp only [smT] at hm)) | refine Len.mk (by first | rfl | (simp; done) | fail) ?_ | fail)
      all_goals (conv => whnf)
      all_goals first | exact Ret.is rfl | exact Ret.nl (by repeat (fail))
/-- Where nothing is active. -/
theorem placesAt_out (l : List Ev) (p : Int) (hp : ¬ (0 ≤ p ∧ p ≤ (l.length : Int) - 1)) : CallsA Tryz.prog 28 [.d (.u (evs l)), di p] [] (Is (.d (.u (pcs [])))) := by
  have hin := in_R p 0 (((l.map Ev.row).length : Int) - 1)
  rw [decide_eq_false (by rw [List.length_map]; exact hp)] at hin
  refine callsA_of_vc (T := tt) Tryz.func28 rfl rfl rfl rfl rfl ?_
  repeat' ((conv => whnf); first | refine Gs.id ?_ | with_reducible refine Brn.T rfl ?_ | (refine Bnd.mk (fun hm => ?_); (try simp only [smT] at hm)) | refine Rng.mk (by (try simp only [smT]); omega) ?_ | (refine CL.mk (Or.inl ?_); (conv => whnf); refine Cl.is (hin) rfl (by first | exact fun _ => rfl | fail) ?_) | fail)
  all_goals (conv => whnf)
  all_goals exact Ret.nl (by repeat (first | exact NlD.u (NlV.nl (by first | rfl | fail)) | refine NlS.d ?_ | fail))
set_option maxHeartbeats 2000000 in
theorem shown_T (l : List Ev) (hl : ∀ e ∈ l, e.locs.length ≤ 9000000000) (n : ByteArray) (p : Nat) (e0 : Ev) (he0 : l[p]? = some e0) : CallsA Tryz.prog 30 [.d (.u (evs l)), di p, dsr n] [] (Is (varS (shownM l e0.depth n (p + 1)))) := by
  have hp := (List.getElem?_eq_some_iff.1 he0).1
  have hin := in_R p 0 (((l.map Ev.row).length : Int) - 1)
  rw [decide_eq_true (by rw [List.length_map]; omega)] at hin
  have hrow0 : ∀ {K : List V → Prop} {m : Int}, m = (p : Int) → K e0.row → Ix (l.map Ev.row) m K := fun h k => ⟨⟨p, e0.row, h, by rw [List.getElem?_map, he0]; rfl, k⟩⟩
  refine callsA_of_vc (T := tt) Tryz.func30 rfl rfl rfl rfl rfl ?_
  repeat' ((conv => whnf); first | refine Gs.id ?_ | with_reducible refine Brn.F rfl ?_ | (refine Bnd.mk (fun hm => ?_); (try simp only [smT] at hm)) | refine Rng.mk (by (try simp only [smT]); omega) ?_ | (refine CL.mk (Or.inl ?_); (conv => whnf); refine Cl.is (hin) rfl (by first | exact fun _ => rfl | fail) ?_) | fail)
  all_goals (conv => whnf)
  refine ⟨⟨Nat, fun i => i ≤ p + 1 ∧ shownM l e0.depth n (p + 1) = shownM l e0.depth n i, fun i => i, fun i => ⟨[(0, .d (.u (evs l))), (1, di p), (2, dsr n), (8, di ((i : Int) - 1))], []⟩, p + 1, ⟨Nat.le_refl _, rfl⟩, ⟨[], ⟨by (try dsimp only); (repeat (refine LeT.cons rfl (by first | exact LeS.d (by first | exact LeD.u rfl | exact LeD.u (by simp; done) | fail) | fail) ?_)); exact LeT.nil, by (try dsimp only); repeat (first | exact LeO.nil | fail)⟩⟩, fun i hi => ?_⟩⟩
  obtain ⟨hi, hq⟩ := hi
  dsimp only
  rw [hq]
  cases i with
  | zero =>
    rw [shownM]
    repeat' ((conv => whnf); first | refine Gs.id ?_ | with_reducible refine Brn.F rfl ?_ | fail)
    all_goals (conv => whnf)
    all_goals first | exact Ret.is rfl | (exfalso; simp at *; done)
  | succ i =>
    obtain ⟨e, he⟩ : ∃ e, l[i]? = some e := ⟨_, List.getElem?_eq_getElem (by omega)⟩
    have hrow : ∀ {K : List V → Prop} {m : Int}, m = (i : Int) → K e.row → Ix (l.map Ev.row) m K := fun h k => ⟨⟨i, e.row, h, by rw [List.getElem?_map, he]; rfl, k⟩⟩
    have hva := variable_R e n (hl _ (List.mem_of_getElem? he))
    have hci : ((i + 1 : Nat) : Int) = (i : Int) + 1 := by omega
    rw [shownM_succ he]
    clear hin hq
    generalize varM n e.locs = o at *
    by_cases h1 : e.depth = e0.depth ∧ e.kind = 1
    · rw [if_pos h1]
      obtain ⟨h1, h2⟩ := h1
      repeat' ((conv => whnf); first | refine hrow (by omega) ?_ | refine hrow0 (by omega) ?_ | refine Gs.id ?_ | refine Brn.T (by (try simp only [smT]); first | rfl | assumption | omega | fail) ?_ | refine Drw.of (T := tt) (i := 6) [] [] [(0, true), (1, true), (2, true), (3, true), (4, true), (5, true), (6, true), (7, true), (8, true), (9, true), (10, true), (11, true), (12, true), (13, true), (14, true), (15, true), (16, true), (17, true), (18, true)] (by kernel_rfl) ?_ | (refine CL.mk (Or.inl ?_); (conv => whnf); refine Cl.is (hva) rfl (by first | exact fun _ => rfl | fail) ?_) | fail)
      all_goals (conv => whnf)
      all_goals first | exact Ret.is rfl | (exfalso; simp_all; done)
    · rw [if_neg h1]
      by_cases h2 : e.depth = e0.depth ∧ e.kind = 2
      · rw [if_pos h2]
        obtain ⟨h3, h4⟩ := h2
        clear h1
        repeat' ((conv => whnf); first | refine hrow (by omega) ?_ | refine hrow0 (by omega) ?_ | refine Gs.id ?_ | refine Brn.T (by (try simp only [smT]); first | rfl | assumption | omega | fail) ?_ | refine Brn.F (by (try simp only [smT]); first | rfl | omega | fail) ?_ | refine Drw.of (T := tt) (i := 6) [] [] [(0, true), (1, true), (2, true), (3, true), (4, true), (5, true), (6, true), (7, true), (8, true), (9, true), (10, true), (11, true), (12, true), (13, true), (14, true), (15, true), (16, true), (17, true), (18, true)] (by kernel_rfl) ?_ | refine Drw.of (T := tt) (i := 8) [] [] [(0, true), (1, true), (2, true), (3, true), (4, true), (5, true), (6, true), (7, true), (8, true), (9, true), (10, true), (11, true), (12, true), (13, true), (14, true), (15, true), (16, true), (17, true), (18, true)] (by kernel_rfl) ?_ | fail)
        all_goals (conv => whnf)
        all_goals first | exact Ret.is rfl | (exfalso; simp_all; done)
      · rw [if_neg h2]
        generalize hy : shownM l e0.depth n i = y at *
        repeat' ((conv => whnf); first | refine hrow (by omega) ?_ | refine hrow0 (by omega) ?_ | refine Gs.id ?_ | with_reducible refine Brn.F rfl ?_ | refine Brn.T (by (try simp only [smT]); first | rfl | assumption | omega | fail) ?_ | refine Brn.F (by (try simp only [smT]); first | rfl | assumption | omega | fail) ?_ | (refine Brn.mk (fun hb => ?_) (fun hb => ?_) <;> (try simp only [smT] at hb) <;> (try (exact absurd trivial hb)) <;> (try (exfalso; omega))) | refine Rng.mk (by (try simp only [smT]); omega) ?_ | refine Drw.of (T := tt) (i := 6) [] [] [(0, true), (1, true), (2, true), (3, true), (4, true), (5, true), (6, true), (7, true), (8, true), (9, true), (10, true), (11, true), (12, true), (13, true), (14, true), (15, true), (16, true), (17, true), (18, true)] (by kernel_rfl) ?_ | refine Drw.of (T := tt) (i := 8) [] [] [(0, true), (1, true), (2, true), (3, true), (4, true), (5, true), (6, true), (7, true), (8, true), (9, true), (10, true), (11, true), (12, true), (13, true), (14, true), (15, true), (16, true), (17, true), (18, true)] (by kernel_rfl) ?_ | fail)
        all_goals (conv => whnf)
        all_goals try (exfalso; simp_all; done)
        all_goals exact ⟨i, ⟨by omega, hy.symm⟩, by omega, [], ⟨by (try dsimp only); (repeat (refine LeT.cons rfl (by first | exact LeS.d (by first | exact LeD.u rfl | exact LeD.u (by simp; done) | fail) | fail) ?_)); exact LeT.nil, by (try dsimp only); repeat (first | exact LeO.nil | fail)⟩⟩
theorem shown_out (l : List Ev) (n : ByteArray) (p : Int) (hp : ¬ (0 ≤ p ∧ p ≤ (l.length : Int) - 1)) : CallsA Tryz.prog 30 [.d (.u (evs l)), di p, dsr n] [] (Is (varS none)) := by
  have hin := in_R p 0 (((l.map Ev.row).length : Int) - 1)
  rw [decide_eq_false (by rw [List.length_map]; exact hp)] at hin
  refine callsA_of_vc (T := tt) Tryz.func30 rfl rfl rfl rfl rfl ?_
  repeat' ((conv => whnf); first | refine Gs.id ?_ | with_reducible refine Brn.T rfl ?_ | (refine Bnd.mk (fun hm => ?_); (try simp only [smT] at hm)) | refine Rng.mk (by (try simp only [smT]); omega) ?_ | (refine CL.mk (Or.inl ?_); (conv => whnf); refine Cl.is (hin) rfl (by first | exact fun _ => rfl | fail) ?_) | fail)
  all_goals (conv => whnf)
  all_goals exact Ret.is rfl
/-- PLAIN LAW with the walks: places and texts are the program's. -/
theorem placesAt_R {l : List Ev} (hv : Vd l) (hL : l.length ≤ 20000) (p : Int) (hp : -1 ≤ p ∧ p ≤ (l.length : Int)) : CallsA Tryz.prog 28 [.d (.u (evs l)), di p] [] (Is (.d (.u (pcs ((activeM l p).map Av.pc))))) := by
  by_cases h : 0 ≤ p ∧ p ≤ (l.length : Int) - 1
  · obtain ⟨m, rfl⟩ : ∃ m : Nat, p = m := ⟨p.toNat, by omega⟩
    rw [places_agree hv (by omega)]
    exact placesAt_T l m (by omega) (by omega)
  · rw [active_out h hp]
    exact placesAt_out l p h
theorem shown_R {l : List Ev} (hv : Vd l) (hl : ∀ e ∈ l, e.locs.length ≤ 9000000000) (n : ByteArray) (p : Int) (hp : -1 ≤ p ∧ p ≤ (l.length : Int)) : CallsA Tryz.prog 30 [.d (.u (evs l)), di p, dsr n] [] (Is (varS (showM l p n))) := by
  by_cases h : 0 ≤ p ∧ p ≤ (l.length : Int) - 1
  · obtain ⟨m, rfl⟩ : ∃ m : Nat, p = m := ⟨p.toNat, by omega⟩
    have he : l[m]? = some (l[m]'(by omega)) := List.getElem?_eq_getElem (by omega)
    rw [shown_agree hv n he]
    exact shown_T l hl n m _ he
  · have : showM l p n = none := by rw [showM_eq, active_out h hp]; rfl
    rw [this]
    exact shown_out l n p h
end Go.Proofs.YtabmcfnefjipbaaGreatDoor
namespace Go.Proofs.YtabmcfnefjipbaaGreatDoor
open Go.RowKit
set_option maxHeartbeats 4000000 in
theorem law_stack_T (l : List Ev) (p : Int) (n : ByteArray) (he : ∀ e ∈ l, e.locs.length ≤ 9000000000) (hsz : ∀ e ∈ l, e.md.size ≤ 1000000000000) (hL : l.length ≤ 9000000000) (zt : Fz) (hz : Tab zt) :
    CallsA Tryz.prog 5 [.d (.u (evs l)), di p, dsr n] [(907, tbOb zt)] (Iso (db true) [(907, tbOb zt)]) := by
  have h1 := stackD_T l p
  have h2 := showD_T l he p n
  have h3 := posF_R l p hL hsz
  have h6 := name_R n
  have h8 := at_R 7 (-3)
  have hst := stopped_T zt hz
  have hem := toList_beq emB emB
  rw [decide_eq_true rfl] at hem
  by_cases v0 : (posM l p).1 = 0
  · obtain ⟨hp, hv, hL2⟩ := pos_ok v0
    have h4 := placesAt_R hv hL2 p hp
    have hal := activeM_len hp
    have h5 := places_R ((activeM l p).map Av.pc) (by rw [List.length_map]; omega)
    have h7 := shown_R hv he n p hp
    unfold varS at h7
    have e1 : stackP l p = (activeM l p).map Av.pc := by rw [stackP, if_neg (by simpa using v0)]
    have e2 : showP l p n = if nameB n = false then (none, (7, -3)) else (showM l p n, (0, 0)) := by rw [showP, if_neg (by simpa using v0)]
    rw [e1] at h1
    rw [e2] at h2
    rw [posM_zero v0] at h1 h3
    clear e1 e2 v0 he hsz hp hv hal
    generalize (activeM l p).map Av.pc = a at *
    generalize showM l p n = o at *
    generalize nameB n = b at *
    cases b
    · rw [if_pos rfl] at h2
      dsimp only at h1 h2 h3
      refine callsA_of_vcO (T := tt) Tryz.func5 rfl rfl rfl rfl rfl ?_
      repeat' ((conv => whnf); first | refine Gs.id ?_ | with_reducible refine And.intro ?_ ?_ | with_reducible refine Brn.T rfl ?_ | with_reducible refine Brn.F rfl ?_ | refine Brn.T (by (try simp only [smT]); first | rfl | assumption | fail) ?_ | refine Eqv.mk (by kernel_rfl) ?_ | refine Drw.ofT (T := tt) (i := 9) [0, 1, 12] [2, 3, 4, 5, 6, 7, 8, 9, 10, 11, 13, 14] (OF.alt 0 (OF.alt 1 (OF.fst 2 (OF.fst 3 (OF.fst 4 (OF.fst 5 (OF.fst 6 (OF.fst 7 (OF.fst 8 (OF.fst 9 (OF.fst 10 (OF.fst 11 (OF.alt 12 (OF.fst 13 (OF.fst 14 OF.nil)) OF.nil))))))))))) OF.nil) (OF.alt 1 (OF.alt 0 (OF.fst 2 (OF.fst 3 (OF.fst 4 (OF.fst 5 (OF.fst 6 (OF.fst 7 (OF.fst 8 (OF.fst 9 (OF.fst 10 (OF.fst 11 (OF.alt 12 (OF.fst 13 (OF.fst 14 OF.nil)) OF.nil))))))))))) OF.nil) OF.nil)) (by kernel_rfl) ?_ | (refine CL.mk (Or.inl ?_); (conv => whnf); first | refine Cl.is (h1) rfl (by first | (intro e; cases e; done) | fail) ?_ | refine Cl.is (h2) rfl (by first | exact fun _ => rfl | fail) ?_ | refine Cl.is (h3) rfl (by first | exact fun _ => rfl | fail) ?_ | refine Cl.is (h4) rfl (by first | (intro e; cases e; done) | fail) ?_ | refine Cl.is (h5) rfl (by first | exact fun _ => rfl | fail) ?_ | refine Cl.is (h6) rfl (by first | exact fun _ => rfl | fail) ?_ | refine Cl.is (h8) rfl (by first | exact fun _ => rfl | fail) ?_) | (refine CL.mk (Or.inr (Raw.callI [907] [907] rfl rfl rfl rfl rfl rfl rfl (hst) ?_)); rintro _ _ ⟨rfl, rfl⟩; refine Bk.mk rfl rfl ?_))
      all_goals (conv => whnf)
      all_goals refine RetO.mk ⟨[(907, .k 907)], _, _, (by first | exact LeS.d (by first | exact LeD.u rfl | fail) | fail), (by repeat (first | exact LeO.nil | refine LeO.ab rfl rfl (by repeat (first | exact LeL.nil | fail)) (by first | rfl | fail) ?_ | fail)), rfl, rfl⟩
    · rw [if_neg (by simp)] at h2
      dsimp only at h1 h2 h3
      have hto := toList_beq (o.getD emB) (o.getD emB)
      rw [decide_eq_true rfl] at hto
      generalize o.getD emB = t at *
      generalize o.isSome = ob at *
      cases ob
      all_goals
        refine callsA_of_vcO (T := tt) Tryz.func5 rfl rfl rfl rfl rfl ?_
        repeat' ((conv => whnf); first | rw [hto] | refine Gs.id ?_ | with_reducible refine Brn.T rfl ?_ | with_reducible refine Brn.F rfl ?_ | (refine CL.mk (Or.inl ?_); (conv => whnf); first | refine Cl.is (h1) rfl (by first | (intro e; cases e; done) | fail) ?_ | refine Cl.is (h2) rfl (by first | exact fun _ => rfl | fail) ?_ | refine Cl.is (h3) rfl (by first | exact fun _ => rfl | fail) ?_ | refine Cl.is (h4) rfl (by first | (intro e; cases e; done) | fail) ?_ | refine Cl.is (h5) rfl (by first | exact fun _ => rfl | fail) ?_ | refine Cl.is (h6) rfl (by first | exact fun _ => rfl | fail) ?_ | refine Cl.is (h7) rfl (by first | exact fun _ => rfl | fail) ?_ | fail) | (refine CL.mk (Or.inr (Raw.callI [907] [907] rfl rfl rfl rfl rfl rfl rfl (hst) ?_)); rintro _ _ ⟨rfl, rfl⟩; refine Bk.mk rfl rfl ?_))
        all_goals (conv => whnf)
        all_goals refine RetO.mk ⟨[(907, .k 907)], _, _, (by first | exact LeS.d (by first | exact LeD.u rfl | fail) | fail), (by repeat (first | exact LeO.nil | refine LeO.ab rfl rfl (by repeat (first | exact LeL.nil | fail)) (by first | rfl | fail) ?_ | fail)), rfl, rfl⟩
  · have e1 : stackP l p = [] := by rw [stackP, if_pos v0]
    have e2 : showP l p n = (none, posM l p) := by rw [showP, if_pos v0]
    rw [e1] at h1
    rw [e2] at h2
    clear e1 e2 he hsz h6
    generalize posM l p = a1 at *
    obtain ⟨a1, c1⟩ := a1
    dsimp only at v0 h1 h2 h3
    refine callsA_of_vcO (T := tt) Tryz.func5 rfl rfl rfl rfl rfl ?_
    repeat' ((conv => whnf); first | refine Gs.id ?_ | with_reducible refine Brn.T rfl ?_ | refine Brn.T (by (try simp only [smT]); first | rfl | assumption | (simp [*]; done) | fail) ?_ | (refine Bnd.mk (fun hm => ?_); (try simp only [smT] at hm)) | refine Eqv.mk (by kernel_rfl) ?_ | (refine CL.mk (Or.inl ?_); (conv => whnf); first | refine Cl.is (h1) rfl (by first | (intro e; cases e; done) | fail) ?_ | refine Cl.is (h2) rfl (by first | exact fun _ => rfl | fail) ?_ | refine Cl.is (h3) rfl (by first | exact fun _ => rfl | fail) ?_) | (refine CL.mk (Or.inr (Raw.callI [907] [907] rfl rfl rfl rfl rfl rfl rfl (hst) ?_)); rintro _ _ ⟨rfl, rfl⟩; refine Bk.mk rfl rfl ?_))
    all_goals (conv => whnf)
    all_goals refine RetO.mk ⟨[(907, .k 907)], _, _, (by first | exact LeS.d (by first | exact LeD.u rfl | fail) | fail), (by repeat (first | exact LeO.nil | refine LeO.ab rfl rfl (by repeat (first | exact LeL.nil | fail)) (by first | rfl | fail) ?_ | fail)), rfl, rfl⟩
end Go.Proofs.YtabmcfnefjipbaaGreatDoor
namespace Go.Proofs.YtabmcfnefjipbaaGreatDoor
open Go.RowKit
/-- A stop that is looked for. -/
def Gd1 (g : Ev → Bool) (l : List Ev) (k : Nat) : Prop := ∃ e, l[k]? = some e ∧ e.kind = 1 ∧ g e = true
theorem fw_spec {g : Ev → Bool} {l : List Ev} : ∀ (n j : Nat), l.length - j = n → j ≤ l.length → ∃ m : Nat, fwL g (l.drop j) j = (m : Int) ∧ j ≤ m ∧ m ≤ l.length ∧ (∀ k, j ≤ k → k < m → ¬ Gd1 g l k) ∧ (m < l.length → Gd1 g l m)
  | 0, j, hn, hj => ⟨j, by rw [List.drop_eq_nil_of_le (by omega), fwL], Nat.le_refl _, hj, fun k h1 h2 => by omega, fun h => by omega⟩
  | n + 1, j, hn, hj => by
    have hlt : j < l.length := by omega
    have he : l[j]? = some l[j] := List.getElem?_eq_getElem hlt
    rw [List.drop_eq_getElem_cons hlt, fwL]
    by_cases hc : l[j].kind = 1 ∧ g l[j] = true
    · rw [if_pos hc]
      exact ⟨j, rfl, Nat.le_refl _, hj, fun k h1 h2 => by omega, fun _ => ⟨_, he, hc⟩⟩
    · rw [if_neg hc]
      obtain ⟨m, h1, h2, h3, h4, h5⟩ := fw_spec (g := g) (l := l) n (j + 1) (by omega) (by omega)
      refine ⟨m, h1, by omega, h3, fun k hk1 hk2 => ?_, h5⟩
      by_cases hkj : k = j
      · subst hkj
        rintro ⟨e, h6, h7⟩
        rw [he] at h6
        injection h6 with h6
        subst h6
        exact hc h7
      · exact h4 k (by omega) hk2
theorem mvM_fw {g : Ev → Bool} {l : List Ev} {j : Nat} (hj : j ≤ l.length) : mvM g l 1 j = fwL g (l.drop j) j := by
  unfold mvM
  by_cases h : j < l.length
  · rw [if_pos (by omega), if_pos rfl, Int.toNat_natCast]
  · rw [if_neg (by omega), List.drop_eq_nil_of_le (by omega), fwL, clampM]
    omega
/-- Forwards: the first one. -/
theorem mvM_next {g : Ev → Bool} {l : List Ev} {a : Int} {i : Nat} (ha : -1 ≤ a) (hi : a < (i : Int)) (hil : i ≤ l.length) (hno : ∀ k : Nat, a < (k : Int) → k < i → ¬ Gd1 g l k) (hg : i < l.length → Gd1 g l i) : mvM g l 1 (a + 1) = i := by
  obtain ⟨j, hj⟩ : ∃ j : Nat, a + 1 = j := ⟨(a + 1).toNat, by omega⟩
  rw [hj, mvM_fw (by omega)]
  obtain ⟨m, h1, h2, h3, h4, h5⟩ := fw_spec (g := g) (l := l) _ j rfl (by omega)
  rw [h1]
  rcases Nat.lt_trichotomy m i with h | h | h
  · exact absurd (h5 (by omega)) (hno m (by omega) h)
  · rw [h]
  · exact absurd (hg (by omega)) (h4 i (by omega) h)
theorem bw_spec {g : Ev → Bool} {l : List Ev} : ∀ i, i ≤ l.length → -1 ≤ bwL g l i ∧ bwL g l i < (i : Int) ∧ (∀ k : Nat, bwL g l i < (k : Int) → k < i → ¬ Gd1 g l k)
  | 0, _ => ⟨Int.le_refl _, by rw [bwL]; omega, fun k _ h => by omega⟩
  | i + 1, hi => by
    have he : l[i]? = some l[i] := List.getElem?_eq_getElem (by omega)
    obtain ⟨h1, h2, h3⟩ := bw_spec (g := g) (l := l) i (by omega)
    rw [bwL, he]
    dsimp only
    by_cases hc : l[i].kind = 1 ∧ g l[i] = true
    · rw [if_pos hc]
      exact ⟨by omega, by omega, fun k h4 h5 => by omega⟩
    · rw [if_neg hc]
      refine ⟨h1, by omega, fun k h4 h5 => ?_⟩
      by_cases hki : k = i
      · subst hki
        rintro ⟨e, h6, h7⟩
        rw [he] at h6
        injection h6 with h6
        subst h6
        exact hc h7
      · exact h3 k h4 (by omega)
theorem bwL_succ {g : Ev → Bool} {l : List Ev} {i : Nat} {e : Ev} (h : l[i]? = some e) : bwL g l (i + 1) = if e.kind = 1 ∧ g e = true then (i : Int) else bwL g l i := by rw [bwL, h]
/-- Backwards, from the stop behind: these are the events of no interest. -/
theorem bw_skip {g : Ev → Bool} {l : List Ev} : ∀ (n i : Nat), i + n ≤ l.length → (∀ k, i ≤ k → k < i + n → ¬ Gd1 g l k) → bwL g l (i + n) = bwL g l i
  | 0, i, _, _ => rfl
  | n + 1, i, h, hno => by
    have he : l[i + n]? = some l[i + n] := List.getElem?_eq_getElem (by omega)
    rw [← Nat.add_assoc, bwL_succ he, if_neg (fun hc => hno (i + n) (by omega) (by omega) ⟨_, he, hc⟩)]
    exact bw_skip n i (by omega) fun k h1 h2 => hno k h1 (by omega)
theorem mvM_bw {g : Ev → Bool} {l : List Ev} {j : Nat} (hj : j ≤ l.length) : mvM g l (-1) ((j : Int) + -1) = bwL g l j := by
  unfold mvM
  by_cases h : 1 ≤ j
  · rw [if_pos (by omega), if_neg (by omega), show ((j : Int) + -1).toNat + 1 = j by omega]
  · obtain rfl : j = 0 := by omega
    rw [if_neg (by omega), bwL, clampM]
    omega
/-- Backwards from the first stop at i or behind it. -/
theorem mvM_prev {g : Ev → Bool} {l : List Ev} {i : Nat} (hi : i ≤ l.length) : mvM g l (-1) (fwL g (l.drop i) i + -1) = bwL g l i := by
  obtain ⟨m, h1, h2, h3, h4, _⟩ := fw_spec (g := g) (l := l) _ i rfl hi
  rw [h1, mvM_bw h3]
  obtain ⟨n, rfl⟩ : ∃ n, m = i + n := ⟨m - i, by omega⟩
  exact bw_skip n i h3 fun k hk1 hk2 => h4 k hk1 hk2
theorem fwL_at {g : Ev → Bool} {l : List Ev} {i : Nat} {e : Ev} (h : l[i]? = some e) : fwL g (l.drop i) i = if e.kind = 1 ∧ g e = true then (i : Int) else fwL g (l.drop (i + 1)) (i + 1) := by
  obtain ⟨h1, h2⟩ := List.getElem?_eq_some_iff.1 h
  rw [List.drop_eq_getElem_cons h1, fwL, h2]
/-- What Move answers where nothing is wrong. -/
theorem moveM_ok {l : List Ev} {bs : List Bp} {p : Int} {c : ByteArray} (h1 : (validM l).1 = 0) (h2 : (validB bs).1 = 0) (hp : -1 ≤ p ∧ p ≤ (l.length : Int)) : moveM l bs p c = match cmdM (depM l p) bs c with
    | some (s, g) => (mvM g l s (p + s), (0, 0))
    | none => (0, (7, -3)) := by
  unfold moveM
  rw [if_neg (by simpa using h1), if_neg (by simpa using h2), if_neg]
  · rfl
  · unfold posM
    rw [if_neg (by simpa using h1), if_neg (by omega)]
    simp
abbrev tG : Ev → Bool := fun _ => true
abbrev hG (bs : List Bp) : Ev → Bool := fun e => bs.any (hitB e)
theorem move_step {l : List Ev} {p : Int} (h1 : (validM l).1 = 0) (hp : -1 ≤ p ∧ p ≤ (l.length : Int)) : moveM l [] p stepK = (mvM tG l 1 (p + 1), (0, 0)) := by
  rw [moveM_ok h1 rfl hp]; rfl
theorem move_back {l : List Ev} {p : Int} (h1 : (validM l).1 = 0) (hp : -1 ≤ p ∧ p ≤ (l.length : Int)) : moveM l [] p backK = (mvM tG l (-1) (p + -1), (0, 0)) := by
  rw [moveM_ok h1 rfl hp]
  have e : cmdM (depM l p) [] backK = some (-1, tG) := by
    unfold cmdM
    rw [if_neg (by decide), if_neg (by decide), if_neg (by decide), if_neg (by decide), if_pos rfl]
  rw [e]
theorem move_go {l : List Ev} {bs : List Bp} {p : Int} (h1 : (validM l).1 = 0) (h2 : (validB bs).1 = 0) (hp : -1 ≤ p ∧ p ≤ (l.length : Int)) : moveM l bs p goK = (mvM (hG bs) l 1 (p + 1), (0, 0)) := by
  rw [moveM_ok h1 h2 hp]
  have e : cmdM (depM l p) bs goK = some (1, hG bs) := by
    unfold cmdM
    rw [if_neg (by decide), if_neg (by decide), if_neg (by decide), if_pos rfl]
  rw [e]
abbrev lG (d : Int) : Ev → Bool := fun e => decide (d = 0) || decide (e.depth ≤ d)
abbrev aG (d : Int) : Ev → Bool := fun e => decide (d = 0) || decide (e.depth < d)
theorem move_over {l : List Ev} {p : Int} (h1 : (validM l).1 = 0) (hp : -1 ≤ p ∧ p ≤ (l.length : Int)) : moveM l [] p overK = (mvM (lG (depM l p)) l 1 (p + 1), (0, 0)) := by
  rw [moveM_ok h1 rfl hp]
  have e : cmdM (depM l p) [] overK = some (1, lG (depM l p)) := by
    unfold cmdM
    rw [if_neg (by decide), if_pos rfl]
  rw [e]
theorem move_out {l : List Ev} {p : Int} (h1 : (validM l).1 = 0) (hp : -1 ≤ p ∧ p ≤ (l.length : Int)) : moveM l [] p outK' = (mvM (aG (depM l p)) l 1 (p + 1), (0, 0)) := by
  rw [moveM_ok h1 rfl hp]
  have e : cmdM (depM l p) [] outK' = some (1, aG (depM l p)) := by
    unfold cmdM
    rw [if_neg (by decide), if_neg (by decide), if_pos rfl]
  rw [e]
/-- PLAIN LAW 24: over and out. -/
theorem over_spec {l : List Ev} (hv : Vd l) {p : Nat} {e : Ev} (he : l[p]? = some e) : ∃ n m : Nat, mvM (lG (depM l p)) l 1 ((p : Int) + 1) = n ∧ mvM (aG (depM l p)) l 1 ((p : Int) + 1) = m ∧ p < n ∧ n ≤ l.length ∧ n ≤ m ∧
    (∀ (k : Nat) x, p < k → k < n → l[k]? = some x → ¬ (x.kind = 1 ∧ x.depth ≤ e.depth)) ∧ (∀ x, l[n]? = some x → x.depth ≤ e.depth) := by
  have hp := (List.getElem?_eq_some_iff.1 he).1
  have hd : depM l p = e.depth := by
    unfold depM
    rw [if_neg (by omega), Int.toNat_natCast, he]
  have hr := depth_rng hv he
  rw [hd]
  obtain ⟨n, h1, h2, h3, h4, h5⟩ := fw_spec (g := lG e.depth) (l := l) _ (p + 1) rfl (by omega)
  obtain ⟨m, i1, i2, i3, i4, i5⟩ := fw_spec (g := aG e.depth) (l := l) _ (p + 1) rfl (by omega)
  refine ⟨n, m, ?_, ?_, by omega, h3, ?_, ?_, ?_⟩
  · rw [← h1, ← mvM_fw (by omega)]; rfl
  · rw [← i1, ← mvM_fw (by omega)]; rfl
  · by_cases h : m < n
    · obtain ⟨x, x1, x2, x3⟩ := i5 (by omega)
      refine absurd ⟨x, x1, x2, ?_⟩ (h4 m (by omega) h)
      simp only [Bool.or_eq_true, decide_eq_true_eq] at x3 ⊢
      omega
    · omega
  · rintro k x hk1 hk2 hx ⟨hx1, hx2⟩
    exact h4 k (by omega) hk2 ⟨x, hx, hx1, by simp; omega⟩
  · intro x hx
    obtain ⟨y, y1, y2, y3⟩ := h5 (List.getElem?_eq_some_iff.1 hx).1
    rw [hx] at y1
    injection y1 with y1
    subst y1
    simp only [Bool.or_eq_true, decide_eq_true_eq] at y3
    omega
/-- Valid breakpoints, one by one. -/
theorem bFrom_zero : ∀ (r : List Bp) (i : Nat) (bf : List Bp), (bFrom i bf r).1 = 0 ↔ ∀ (k : Nat) b, r[k]? = some b → codeB b (bf ++ r.take k) = 0
  | [], i, bf => by simp [bFrom]
  | x :: r, i, bf => by
    have ih := bFrom_zero r (i + 1) (bf ++ [x])
    rw [bFrom]
    by_cases hc : codeB x bf = 0
    · rw [if_neg (by simpa using hc), ih]
      constructor
      · intro h k b hk
        cases k with
        | zero => simp at hk; subst hk; simpa using hc
        | succ k =>
          have := h k b (by simpa using hk)
          simpa using this
      · intro h k b hk
        have := h (k + 1) b (by simpa using hk)
        simpa using this
    · rw [if_pos hc]
      constructor
      · intro h; exact absurd h hc
      · intro h; exact absurd (by simpa using h 0 x rfl) hc
theorem validB_zero (l : List Bp) : (validB l).1 = 0 ↔ l.length ≤ 50 ∧ ∀ (k : Nat) b, l[k]? = some b → codeB b (l.take k) = 0 := by
  unfold validB
  by_cases h : 50 < l.length
  · rw [if_pos h]
    constructor
    · intro h2; cases h2
    · intro h2; omega
  · rw [if_neg h, bFrom_zero]
    simp only [List.nil_append]
    exact ⟨fun h2 => ⟨by omega, h2⟩, fun h2 => h2.2⟩
theorem validB_app {l : List Bp} {b : Bp} (h : (validB l).1 = 0) (hl : l.length < 50) : (validB (l ++ [b])).1 = 0 ↔ codeB b l = 0 := by
  obtain ⟨h1, h2⟩ := (validB_zero l).1 h
  rw [validB_zero]
  constructor
  · rintro ⟨_, h3⟩
    have := h3 l.length b (by simp)
    simpa using this
  · intro h3
    refine ⟨by simp; omega, fun k x hk => ?_⟩
    rcases Nat.lt_or_ge k l.length with hkl | hkl
    · rw [List.getElem?_append_left hkl] at hk
      rw [List.take_append_of_le_length (by omega)]
      exact h2 k x hk
    · rw [List.getElem?_append_right hkl] at hk
      rcases h0 : k - l.length with _ | m
      · rw [h0] at hk
        simp at hk
        subst hk
        rw [show k = l.length by omega, List.take_left']
        · exact h3
        · rfl
      · rw [h0] at hk; simp at hk
/-- Without the condition. -/
def plB (b : Bp) : Bp := ⟨b.md, b.line, emB, emB⟩
def plainAt (bs : List Bp) : Nat → List Bp
  | 0 => []
  | i + 1 => match bs[i]? with
    | some b => if (validB (plainAt bs i ++ [plB b])).1 = 0 then plainAt bs i ++ [plB b] else plainAt bs i
    | none => plainAt bs i
theorem plainAt_succ {bs : List Bp} {i : Nat} {b : Bp} (h : bs[i]? = some b) : plainAt bs (i + 1) = if (validB (plainAt bs i ++ [plB b])).1 = 0 then plainAt bs i ++ [plB b] else plainAt bs i := by rw [plainAt, h]
theorem plainAt_len {bs : List Bp} : ∀ i, (plainAt bs i).length ≤ i
  | 0 => Nat.le_refl _
  | i + 1 => by
    have ih := plainAt_len (bs := bs) i
    rw [plainAt]
    split
    · split
      · simp; omega
      · omega
    · omega
theorem plainAt_valid {bs : List Bp} : ∀ i, (validB (plainAt bs i)).1 = 0
  | 0 => rfl
  | i + 1 => by
    have ih := plainAt_valid (bs := bs) i
    rw [plainAt]
    split
    · split
      · assumption
      · exact ih
    · exact ih
theorem plainAt_has {bs : List Bp} (hb : (validB bs).1 = 0) : ∀ i, i ≤ bs.length → ∀ (k : Nat) b, k < i → bs[k]? = some b → plB b ∈ plainAt bs i
  | 0, _, k, b, hk, _ => by omega
  | i + 1, hi, k, b, hk, hkb => by
    obtain ⟨z1, z2⟩ := (validB_zero bs).1 hb
    have he : bs[i]? = some bs[i] := List.getElem?_eq_getElem (by omega)
    have ih := plainAt_has hb i (by omega)
    have hlen := plainAt_len (bs := bs) i
    have hv := plainAt_valid (bs := bs) i
    rw [plainAt_succ he]
    by_cases hki : k = i
    · subst hki
      rw [he] at hkb
      injection hkb with hkb
      split
      · rw [hkb]; simp
      · rename_i hn
        have hiff := validB_app (b := plB bs[k]) hv (by omega)
        have hc := z2 k _ he
        obtain ⟨c1, c2, c3, c4, c5, _⟩ := codeB_08 (.inl hc)
        have hne : codeB (plB bs[k]) (plainAt bs k) ≠ 0 := fun h => hn (hiff.2 h)
        unfold codeB at hne
        rw [if_neg, if_neg, if_neg, if_neg] at hne
        · have hany : (plainAt bs k).any (eqBk (plB bs[k])) = true := by
            cases ha : (plainAt bs k).any (eqBk (plB bs[k]))
            · rw [ha] at hne; exact absurd rfl hne
            · rfl
          obtain ⟨x, hx1, hx2⟩ := List.any_eq_true.1 hany
          rw [eqBk_iff] at hx2
          rw [← hkb, hx2]
          exact hx1
        · show ¬ 4000 < ((emB.size : Nat) : Int)
          decide
        · rintro ⟨_, h⟩; exact h rfl
        · show ¬ bs[k].line < 1
          omega
        · show ¬ (dottedM bs[k].md = false ∨ (emB ≠ emB ∧ nameB emB = false))
          rintro (h | ⟨h, _⟩)
          · rw [c1] at h; cases h
          · exact h rfl
    · have := ih k b (by omega) hkb
      split
      · exact List.mem_append_left _ this
      · exact this
/-- PLAIN LAW 25: breakpoints without conditions hit whenever the others do. -/
theorem plain_hits {bs : List Bp} (hb : (validB bs).1 = 0) {e : Ev} (h : bs.any (hitB e) = true) : (plainAt bs bs.length).any (hitB e) = true := by
  obtain ⟨b, hb1, hb2⟩ := List.any_eq_true.1 h
  obtain ⟨k, hk⟩ := List.mem_iff_getElem?.1 hb1
  have hm := plainAt_has hb bs.length (Nat.le_refl _) k b (List.getElem?_eq_some_iff.1 hk).1 hk
  refine List.any_eq_true.2 ⟨_, hm, ?_⟩
  unfold hitB at hb2 ⊢
  simp only [Bool.and_eq_true, decide_eq_true_eq, Bool.or_eq_true] at hb2 ⊢
  exact ⟨hb2.1, hb2.2.1, .inl rfl⟩
end Go.Proofs.YtabmcfnefjipbaaGreatDoor
namespace Go.Proofs.YtabmcfnefjipbaaGreatDoor
open Go.RowKit
abbrev mvS (n : Int) : SV := .t [.d (.u (.int .i64 n)), .a [.u (.int .i64 0), .u (.int .i64 0)]]
theorem step_C {l : List Ev} (he : ∀ e ∈ l, e.locs.length ≤ 9000000000) (v1 : (validM l).1 = 0) (i : Nat) (hi : i ≤ l.length) (hg : i < l.length → Gd1 tG l i) : CallsA Tryz.prog 17 [.d (.u (evs l)), .d (.u (bks [])), di (bwL tG l i), dsr stepK] [] (Is (mvS i)) := by
  obtain ⟨b1, b2, b3⟩ := bw_spec (g := tG) (l := l) i hi
  have h := move_T l [] (bwL tG l i) stepK he
  rw [move_step v1 ⟨b1, by omega⟩, mvM_next b1 b2 hi b3 hg] at h
  exact h
theorem back_C {l : List Ev} (he : ∀ e ∈ l, e.locs.length ≤ 9000000000) (v1 : (validM l).1 = 0) (i : Nat) (hi : i ≤ l.length) : CallsA Tryz.prog 17 [.d (.u (evs l)), .d (.u (bks [])), di (fwL tG (l.drop i) i), dsr backK] [] (Is (mvS (bwL tG l i))) := by
  obtain ⟨m, h1, h2, h3, _⟩ := fw_spec (g := tG) (l := l) _ i rfl hi
  have h := move_T l [] (fwL tG (l.drop i) i) backK he
  rw [move_back v1 (by omega), mvM_prev hi] at h
  exact h
set_option maxHeartbeats 4000000 in
theorem law_steps_T (l : List Ev) (he : ∀ e ∈ l, e.locs.length ≤ 9000000000) (hsz : ∀ e ∈ l, e.md.size ≤ 1000000000000) (zt : Fz) (hz : Tab zt) :
    CallsA Tryz.prog 7 [.d (.u (evs l))] [(907, tbOb zt)] (Iso (db true) [(907, tbOb zt)]) := by
  have h4 := trace_R l hsz
  have hst := stopped_T zt hz
  have hlm : ((l.map Ev.row).length : Int) = (l.length : Int) := by simp
  by_cases v1 : (validM l).1 = 0
  · have stp := fun i hi hg => step_C he v1 i hi hg
    have bck := fun i hi => back_C he v1 i hi
    generalize validM l = a1 at *
    obtain ⟨a1, c1⟩ := a1
    dsimp only at v1
    subst v1
    dsimp only at h4
    by_cases v2 : 300 < l.length
    · clear stp bck he hsz
      refine callsA_of_vcO (T := tt) Tryz.func7 rfl rfl rfl rfl rfl ?_
      repeat' ((conv => whnf); first | refine Gs.id ?_ | with_reducible refine Brn.F rfl ?_ | refine Brn.T (by (try simp only [smT]); first | rfl | omega | fail) ?_ | (refine Bnd.mk (fun hm => ?_); (try simp only [smT] at hm)) | (refine CL.mk (Or.inl ?_); (conv => whnf); refine Cl.is (h4) rfl (by first | exact fun _ => rfl | fail) ?_) | (refine CL.mk (Or.inr (Raw.callI [907] [907] rfl rfl rfl rfl rfl rfl rfl (hst) ?_)); rintro _ _ ⟨rfl, rfl⟩; refine Bk.mk rfl rfl ?_))
      all_goals (conv => whnf)
      all_goals refine RetO.mk ⟨[(907, .k 907)], _, _, (by first | exact LeS.d (by first | exact LeD.u rfl | fail) | fail), (by repeat (first | exact LeO.nil | refine LeO.ab rfl rfl (by repeat (first | exact LeL.nil | fail)) (by first | rfl | fail) ?_ | fail)), rfl, rfl⟩
    · clear he hsz
      refine callsA_of_vcO (T := tt) Tryz.func7 rfl rfl rfl rfl rfl ?_
      repeat' ((conv => whnf); first | refine Gs.id ?_ | with_reducible refine Brn.F rfl ?_ | refine Brn.F (by (try simp only [smT]); first | rfl | omega | fail) ?_ | (refine Bnd.mk (fun hm => ?_); (try simp only [smT] at hm)) | (refine CL.mk (Or.inl ?_); (conv => whnf); refine Cl.is (h4) rfl (by first | exact fun _ => rfl | fail) ?_) | fail)
      all_goals (conv => whnf)
      all_goals try (exfalso; simp_all; done)
      refine ⟨⟨Nat, fun i => i ≤ l.length, fun i => l.length - i, fun i => ⟨[(0, .d (.u (evs l))), (3, di (bwL tG l i)), (4, di i)], [(907, tbOb zt)]⟩, 0, Nat.zero_le _, ⟨[(907, .k 907)], ⟨by (try dsimp only); (repeat (refine LeT.cons rfl (by first | exact LeS.d (by first | exact LeD.u rfl | fail) | fail) ?_)); exact LeT.nil, by (try dsimp only); repeat (first | exact LeO.nil | refine LeO.ab rfl rfl (by repeat (first | exact LeL.nil | fail)) (by first | rfl | fail) ?_ | fail)⟩⟩, fun i hi => ?_⟩⟩
      dsimp only at hi ⊢
      clear h4
      by_cases h9 : i < l.length
      · obtain ⟨e, hje⟩ : ∃ e, l[i]? = some e := ⟨_, List.getElem?_eq_getElem h9⟩
        have hrow : ∀ {K : List V → Prop} {m : Int}, m = (i : Int) → K e.row → Ix (l.map Ev.row) m K := fun h k => ⟨⟨i, e.row, h, by rw [List.getElem?_map, hje]; rfl, k⟩⟩
        have hbw := bwL_succ (g := tG) hje
        by_cases hk : e.kind = 1
        · have hmv := stp i hi (fun _ => ⟨e, hje, hk, rfl⟩)
          rw [if_pos ⟨hk, rfl⟩] at hbw
          clear stp bck
          generalize bwL tG l i = a at *
          repeat' ((conv => whnf); first | refine hrow rfl ?_ | refine Gs.id ?_ | with_reducible refine Brn.F rfl ?_ | refine Brn.T (by (try simp only [smT]); first | rfl | assumption | omega | fail) ?_ | (refine Brn.mk (fun hb => ?_) (fun hb => ?_) <;> (try simp only [smT] at hb) <;> (try (exact absurd trivial hb)) <;> (try (exfalso; omega))) | (refine Bnd.mk (fun hm => ?_); (try simp only [smT] at hm)) | refine Rng.mk (by (try simp only [smT]); omega) ?_ | (refine CL.mk (Or.inl ?_); (conv => whnf); refine Cl.nl (by repeat (first | exact NlSs.nil | exact NlS.refl | exact NlD.u (NlV.nl (by first | rfl | fail)) | refine NlSs.cons ?_ ?_ | refine NlS.d ?_ | fail)) (hmv) rfl (by first | exact fun _ => rfl | fail) ?_) | fail)
          all_goals (conv => whnf)
          all_goals first | exact ⟨i + 1, by omega, by omega, [(907, .k 907)], by (rw [hbw]; exact ⟨by (try dsimp only); (repeat (refine LeT.cons rfl (by first | exact LeS.d (by first | exact LeD.u rfl | fail) | fail) ?_)); exact LeT.nil, by (try dsimp only); repeat (first | exact LeO.nil | refine LeO.ab rfl rfl (by repeat (first | exact LeL.nil | fail)) (by first | rfl | fail) ?_ | fail)⟩)⟩ | (exfalso; simp_all; done)
        · rw [if_neg (fun h => hk h.1)] at hbw
          clear stp bck
          generalize bwL tG l i = a at *
          repeat' ((conv => whnf); first | refine hrow rfl ?_ | refine Gs.id ?_ | refine Brn.T (by (try simp only [smT]); first | rfl | omega | fail) ?_ | refine Brn.F (by (try simp only [smT]); first | rfl | assumption | fail) ?_ | (refine Bnd.mk (fun hm => ?_); (try simp only [smT] at hm)) | refine Rng.mk (by (try simp only [smT]); omega) ?_ | fail)
          all_goals (conv => whnf)
          all_goals first | exact ⟨i + 1, by omega, by omega, [(907, .k 907)], by (rw [hbw]; exact ⟨by (try dsimp only); (repeat (refine LeT.cons rfl (by first | exact LeS.d (by first | exact LeD.u rfl | fail) | fail) ?_)); exact LeT.nil, by (try dsimp only); repeat (first | exact LeO.nil | refine LeO.ab rfl rfl (by repeat (first | exact LeL.nil | fail)) (by first | rfl | fail) ?_ | fail)⟩)⟩ | (exfalso; simp_all; done)
      · obtain rfl : i = l.length := by omega
        have hmv := stp l.length (Nat.le_refl _) (fun h => absurd h (Nat.lt_irrefl _))
        clear stp
        generalize bwL tG l l.length = a at *
        have hdl : fwL tG (l.drop l.length) l.length = (l.length : Int) := by rw [List.drop_length, fwL]
        repeat' ((conv => whnf); first | refine Gs.id ?_ | with_reducible refine Brn.F rfl ?_ | refine Brn.F (by (try simp only [smT]); first | rfl | omega | fail) ?_ | (refine Brn.mk (fun hb => ?_) (fun hb => ?_) <;> (try simp only [smT] at hb) <;> (try (exact absurd trivial hb)) <;> (try (exfalso; omega))) | (refine Bnd.mk (fun hm => ?_); (try simp only [smT] at hm)) | refine Rng.mk (by (try simp only [smT]); omega) ?_ | (refine CL.mk (Or.inl ?_); (conv => whnf); refine Cl.nl (by repeat (first | exact NlSs.nil | exact NlS.refl | exact NlD.u (NlV.nl (by first | rfl | fail)) | refine NlSs.cons ?_ ?_ | refine NlS.d ?_ | fail)) (hmv) rfl (by first | exact fun _ => rfl | fail) ?_) | fail)
        all_goals (conv => whnf)
        all_goals try (exfalso; simp_all; done)
        clear hmv
        refine ⟨⟨Nat, fun i => i ≤ l.length, fun i => i, fun i => ⟨[(0, .d (.u (evs l))), (3, di (fwL tG (l.drop i) i)), (8, .d (.p 8 0)), (9, di ((i : Int) - 1))], [(8, .bx 25 [.u (.int .i64 0), .u (.int .i64 0)]), (907, tbOb zt)]⟩, l.length, Nat.le_refl _, ⟨[(8, .k 8), (907, .k 907)], ⟨by (try dsimp only); (repeat (refine LeT.cons rfl (by first | exact LeS.d (by first | exact LeD.u rfl | exact LeD.p rfl | exact LeD.u (by simp [hdl, fwL]; done) | fail) | fail) ?_)); exact LeT.nil, by (try dsimp only); repeat (first | exact LeO.nil | refine LeO.bx rfl rfl (by repeat (first | exact LeL.nil | refine LeL.cons (by first | exact LeD.u rfl | fail) ?_)) ?_ | refine LeO.ab rfl rfl (by repeat (first | exact LeL.nil | fail)) (by first | rfl | fail) ?_ | fail)⟩⟩, fun i hi => ?_⟩⟩
        dsimp only at hi ⊢
        clear hdl
        cases i with
        | zero =>
          have hmv := bck 0 hi
          rw [bwL] at hmv
          clear bck
          generalize fwL tG (l.drop 0) 0 = a at *
          repeat' ((conv => whnf); first | refine Gs.id ?_ | with_reducible refine Brn.T rfl ?_ | with_reducible refine Brn.F rfl ?_ | (refine CL.mk (Or.inl ?_); (conv => whnf); refine Cl.nl (by repeat (first | exact NlSs.nil | exact NlS.refl | exact NlD.u (NlV.nl (by first | rfl | fail)) | refine NlSs.cons ?_ ?_ | refine NlS.d ?_ | fail)) (hmv) rfl (by first | exact fun _ => rfl | fail) ?_) | (refine CL.mk (Or.inr (Raw.callI [907] [907] rfl rfl rfl rfl rfl rfl rfl (hst) ?_)); rintro _ _ ⟨rfl, rfl⟩; refine Bk.mk rfl rfl ?_))
          all_goals (conv => whnf)
          all_goals first | (exfalso; simp at *; done) | refine RetO.mk ⟨[(907, .k 907)], _, _, (by first | exact LeS.d (by first | exact LeD.u rfl | fail) | fail), (by repeat (first | exact LeO.nil | refine LeO.ab rfl rfl (by repeat (first | exact LeL.nil | fail)) (by first | rfl | fail) ?_ | fail)), rfl, rfl⟩
        | succ i =>
          obtain ⟨e, hje⟩ : ∃ e, l[i]? = some e := ⟨_, List.getElem?_eq_getElem (by omega)⟩
          have hrow : ∀ {K : List V → Prop} {m : Int}, m = (i : Int) → K e.row → Ix (l.map Ev.row) m K := fun h k => ⟨⟨i, e.row, h, by rw [List.getElem?_map, hje]; rfl, k⟩⟩
          have hci : ((i + 1 : Nat) : Int) = (i : Int) + 1 := by omega
          have hbw := bwL_succ (g := tG) hje
          have hf := fwL_at (g := tG) hje
          have hmv := bck (i + 1) hi
          clear bck
          by_cases hk : e.kind = 1
          · rw [if_pos ⟨hk, rfl⟩] at hbw hf
            rw [hbw] at hmv
            generalize fwL tG (l.drop (i + 1)) (i + 1) = a at *
            repeat' ((conv => whnf); first | refine hrow (by omega) ?_ | refine Gs.id ?_ | with_reducible refine Brn.F rfl ?_ | refine Brn.T (by (try simp only [smT]); first | rfl | assumption | omega | fail) ?_ | refine Brn.F (by (try simp only [smT]); first | rfl | omega | fail) ?_ | refine Rng.mk (by (try simp only [smT]); omega) ?_ | (refine CL.mk (Or.inl ?_); (conv => whnf); refine Cl.nl (by repeat (first | exact NlSs.nil | exact NlS.refl | exact NlD.u (NlV.nl (by first | rfl | fail)) | refine NlSs.cons ?_ ?_ | refine NlS.d ?_ | fail)) (hmv) rfl (by first | exact fun _ => rfl | fail) ?_) | fail)
            all_goals (conv => whnf)
            all_goals first | exact ⟨i, by omega, by omega, [(8, .k 8), (907, .k 907)], by (rw [hf]; exact ⟨by (try dsimp only); (repeat (refine LeT.cons rfl (by first | exact LeS.d (by first | exact LeD.u rfl | exact LeD.p rfl | exact LeD.u (by simp; done) | fail) | fail) ?_)); exact LeT.nil, by (try dsimp only); repeat (first | exact LeO.nil | refine LeO.bx rfl rfl (by repeat (first | exact LeL.nil | refine LeL.cons (by first | exact LeD.u rfl | fail) ?_)) ?_ | refine LeO.ab rfl rfl (by repeat (first | exact LeL.nil | fail)) (by first | rfl | fail) ?_ | fail)⟩)⟩ | (exfalso; simp at *; omega)
          · rw [if_neg (fun h => hk h.1)] at hbw hf
            clear hmv
            generalize fwL tG (l.drop (i + 1)) (i + 1) = a at *
            repeat' ((conv => whnf); first | refine hrow (by omega) ?_ | refine Gs.id ?_ | refine Brn.T (by (try simp only [smT]); first | rfl | omega | fail) ?_ | refine Brn.F (by (try simp only [smT]); first | rfl | assumption | fail) ?_ | refine Rng.mk (by (try simp only [smT]); omega) ?_ | fail)
            all_goals (conv => whnf)
            all_goals first | exact ⟨i, by omega, by omega, [(8, .k 8), (907, .k 907)], by (rw [hf]; exact ⟨by (try dsimp only); (repeat (refine LeT.cons rfl (by first | exact LeS.d (by first | exact LeD.u rfl | exact LeD.p rfl | exact LeD.u (by simp; done) | fail) | fail) ?_)); exact LeT.nil, by (try dsimp only); repeat (first | exact LeO.nil | refine LeO.bx rfl rfl (by repeat (first | exact LeL.nil | refine LeL.cons (by first | exact LeD.u rfl | fail) ?_)) ?_ | refine LeO.ab rfl rfl (by repeat (first | exact LeL.nil | fail)) (by first | rfl | fail) ?_ | fail)⟩)⟩ | (exfalso; simp at *; omega)
  · generalize validM l = a1 at *
    obtain ⟨a1, c1⟩ := a1
    dsimp only at v1 h4
    clear he hsz
    refine callsA_of_vcO (T := tt) Tryz.func7 rfl rfl rfl rfl rfl ?_
    repeat' ((conv => whnf); first | refine Gs.id ?_ | with_reducible refine Brn.T rfl ?_ | refine Brn.T (by (try simp only [smT]); first | rfl | assumption | fail) ?_ | (refine CL.mk (Or.inl ?_); (conv => whnf); refine Cl.is (h4) rfl (by first | exact fun _ => rfl | fail) ?_) | (refine CL.mk (Or.inr (Raw.callI [907] [907] rfl rfl rfl rfl rfl rfl rfl (hst) ?_)); rintro _ _ ⟨rfl, rfl⟩; refine Bk.mk rfl rfl ?_))
    all_goals (conv => whnf)
    all_goals refine RetO.mk ⟨[(907, .k 907)], _, _, (by first | exact LeS.d (by first | exact LeD.u rfl | fail) | fail), (by repeat (first | exact LeO.nil | refine LeO.ab rfl rfl (by repeat (first | exact LeL.nil | fail)) (by first | rfl | fail) ?_ | fail)), rfl, rfl⟩
end Go.Proofs.YtabmcfnefjipbaaGreatDoor
namespace Go.Proofs.YtabmcfnefjipbaaGreatDoor
open Go.RowKit
theorem active_len {l : List Ev} (hv : Vd l) {p : Nat} {e : Ev} (he : l[p]? = some e) : ((activeM l p).length : Int) = e.depth := by
  have hp := (List.getElem?_eq_some_iff.1 he).1
  have ea : activeM l p = avAt l p (p + 1) := by rw [activeM, if_neg (by omega), Int.toNat_natCast]
  have ok := hv.ok he
  have hlen := congrArg List.length (avAt_fu hv (p := p) p (Nat.le_refl _) (by omega))
  rw [List.length_map] at hlen
  have hdep := ok.depth
  rw [ea, avAt_succ he, stepV]
  unfold pushM at hdep
  by_cases h2 : e.kind = 2
  · rw [if_pos h2] at hdep ⊢
    rw [List.length_append, ← hlen] at hdep
    rw [hdep]; simp
  · rw [if_neg h2] at hdep ⊢
    by_cases h1 : e.kind = 1
    · rw [if_pos h1]
      have h3 := congrArg List.length (setAv_fu (avAt l p p) e.line p)
      simp only [List.length_map] at h3
      rw [h3, hdep, hlen]
    · rw [if_neg h1, if_neg (Nat.lt_irrefl _), hdep, hlen]
set_option maxHeartbeats 4000000 in
theorem law_over_T (l : List Ev) (p : Int) (he : ∀ e ∈ l, e.locs.length ≤ 9000000000) (hsz : ∀ e ∈ l, e.md.size ≤ 1000000000000) (zt : Fz) (hz : Tab zt) :
    CallsA Tryz.prog 8 [.d (.u (evs l)), di p] [(907, tbOb zt)] (Iso (db true) [(907, tbOb zt)]) := by
  have h4 := trace_R l hsz
  have hst := stopped_T zt hz
  have hlm : ((l.map Ev.row).length : Int) = (l.length : Int) := by simp
  have hin := in_R p 0 (((l.map Ev.row).length : Int) - 1)
  by_cases v1 : (validM l).1 = 0
  · by_cases hp : 0 ≤ p ∧ p ≤ (l.length : Int) - 1
    · rw [decide_eq_true (by rw [hlm]; exact hp)] at hin
      obtain ⟨p, rfl⟩ : ∃ q : Nat, p = q := ⟨p.toNat, by omega⟩
      obtain ⟨e, hpe⟩ : ∃ e, l[p]? = some e := ⟨_, List.getElem?_eq_getElem (by omega)⟩
      have hrow0 : ∀ {K : List V → Prop} {m : Int}, m = (p : Int) → K e.row → Ix (l.map Ev.row) m K := fun h k => ⟨⟨p, e.row, h, by rw [List.getElem?_map, hpe]; rfl, k⟩⟩
      by_cases hk : e.kind = 1
      · obtain ⟨hv, hL⟩ := valid_Vd v1
        obtain ⟨n, m, o1, o2, o3, o4, o5, o6, o7⟩ := over_spec hv hpe
        have m1 := move_T l [] p overK he
        have m2 := move_T l [] p outK' he
        rw [move_over v1 (by omega), o1] at m1
        rw [move_out v1 (by omega), o2] at m2
        dsimp only at m1 m2
        replace m1 : CallsA Tryz.prog 17 [.d (.u (evs l)), .d (.u .nl), di p, dsr overK] [] (Is (mvS n)) := CallsA.nl (by repeat (first | exact NlSs.nil | exact NlS.refl | exact NlD.u (NlV.nl (by first | rfl | fail)) | refine NlSs.cons ?_ ?_ | refine NlS.d ?_ | fail)) m1
        replace m2 : CallsA Tryz.prog 17 [.d (.u (evs l)), .d (.u .nl), di p, dsr outK'] [] (Is (mvS m)) := CallsA.nl (by repeat (first | exact NlSs.nil | exact NlS.refl | exact NlD.u (NlV.nl (by first | rfl | fail)) | refine NlSs.cons ?_ ?_ | refine NlS.d ?_ | fail)) m2
        have hstk := stackD_T l n
        have hsp : n < l.length → (posM l n).1 = 0 := fun h => by unfold posM; rw [if_neg (by simpa using v1), if_neg (by omega)]
        have hlen : ∀ x, l[n]? = some x → ((stackP l n).length : Int) = x.depth := fun x hx => by
          have h := active_len hv hx
          rw [stackP, if_neg (by simpa using hsp (List.getElem?_eq_some_iff.1 hx).1), List.length_map, h]
        have hpz : n < l.length → posM l n = (0, 0) := fun h => posM_zero (hsp h)
        clear o1 o2 hsp he hsz hv
        generalize validM l = a1 at *
        obtain ⟨a1, c1⟩ := a1
        dsimp only at v1
        subst v1
        dsimp only at h4
        have hen : ((n : Nat) : Int) ≤ (l.length : Int) := by omega
        have hem : ((n : Nat) : Int) ≤ (m : Int) := by omega
        have hep : ((p : Nat) : Int) < (n : Int) := by omega
        have hrow : ∀ (j : Nat), j < l.length → ∃ x, l[j]? = some x ∧ ∀ {K : List V → Prop} {m : Int}, m = (j : Int) → K x.row → Ix (l.map Ev.row) m K := fun j hj => ⟨l[j], List.getElem?_eq_getElem hj, fun h k => by subst h; exact Ix.map rfl hj k⟩
        refine callsA_of_vcO (T := tt) Tryz.func8 rfl rfl rfl rfl rfl ?_
        repeat' ((conv => whnf); first | refine hrow0 rfl ?_ | refine Gs.id ?_ | with_reducible refine Brn.F rfl ?_ | refine Brn.F (by (try simp only [smT]); first | rfl | assumption | fail) ?_ | (refine Bnd.mk (fun hm => ?_); (try simp only [smT] at hm)) | refine Rng.mk (by (try simp only [smT]); omega) ?_ | (refine CL.mk (Or.inl ?_); (conv => whnf); first | refine Cl.is (h4) rfl (by first | exact fun _ => rfl | fail) ?_ | refine Cl.is (hin) rfl (by first | exact fun _ => rfl | fail) ?_ | refine Cl.is (m1) rfl (by first | exact fun _ => rfl | fail) ?_ | refine Cl.is (m2) rfl (by first | exact fun _ => rfl | fail) ?_) | fail)
        all_goals (conv => whnf)
        all_goals try (exfalso; simp_all; done)
        all_goals try (exfalso; simp at *; omega)
        clear m1 m2 h4 hin
        refine ⟨⟨Nat, fun i => p + 1 ≤ i ∧ i ≤ n, fun i => n - i, fun i => ⟨[(0, .d (.u (evs l))), (1, di p), (5, di n), (9, di i)], [(907, tbOb zt)]⟩, p + 1, ⟨Nat.le_refl _, by omega⟩, ⟨[(907, .k 907)], ⟨by (try dsimp only); (repeat (refine LeT.cons rfl (by first | exact LeS.d (by first | exact LeD.u rfl | fail) | fail) ?_)); exact LeT.nil, by (try dsimp only); repeat (first | exact LeO.nil | refine LeO.ab rfl rfl (by repeat (first | exact LeL.nil | fail)) (by first | rfl | fail) ?_ | fail)⟩⟩, fun i hi => ?_⟩⟩
        obtain ⟨hi1, hi2⟩ := hi
        dsimp only
        by_cases h9 : i < n
        · obtain ⟨x, hx, hrx⟩ := hrow i (by omega)
          have hno := o6 i x (by omega) h9 hx
          clear o6 o7 hrow hstk hlen hpz
          repeat' ((conv => whnf); first | refine hrx rfl ?_ | refine hrow0 rfl ?_ | refine Gs.id ?_ | with_reducible refine Brn.F rfl ?_ | refine Brn.T (by (try simp only [smT]); first | rfl | assumption | omega | fail) ?_ | refine Brn.F (by (try simp only [smT]); first | rfl | assumption | omega | fail) ?_ | (refine Brn.mk (fun hb => ?_) (fun hb => ?_) <;> (try simp only [smT] at hb) <;> (try (exact absurd trivial hb)) <;> (try (exfalso; omega))) | refine Rng.mk (by (try simp only [smT]); omega) ?_ | refine Drw.of (T := tt) (i := 10) [] [] [(0, true), (1, true), (2, true), (3, true), (4, true), (5, true), (6, true), (7, true), (8, true), (9, true), (10, true), (11, true), (12, true), (13, true), (14, true), (15, true), (16, true), (17, true), (18, true)] (by kernel_rfl) ?_)
          all_goals (conv => whnf)
          all_goals first | exact ⟨i + 1, by omega, by omega, [(907, .k 907)], ⟨by (try dsimp only); (repeat (refine LeT.cons rfl (by first | exact LeS.d (by first | exact LeD.u rfl | fail) | fail) ?_)); exact LeT.nil, by (try dsimp only); repeat (first | exact LeO.nil | refine LeO.ab rfl rfl (by repeat (first | exact LeL.nil | fail)) (by first | rfl | fail) ?_ | fail)⟩⟩ | (exfalso; simp_all; done) | (exfalso; simp at *; omega)
        · obtain rfl : i = n := by omega
          clear o6
          by_cases h8 : i < l.length
          · obtain ⟨x, hx, hrx⟩ := hrow i h8
            have hd := o7 x hx
            have hl2 := hlen x hx
            rw [hpz h8] at hstk
            dsimp only at hstk
            generalize stackP l i = s at *
            have hs3 : ((s.map Pc.row).length : Int) = x.depth := by rw [List.length_map]; exact hl2
            clear o7 hrow hlen hpz
            repeat' ((conv => whnf); first | refine hrx rfl ?_ | refine hrow0 rfl ?_ | refine Gs.id ?_ | with_reducible refine Brn.T rfl ?_ | refine Brn.T (by (try simp only [smT]); first | rfl | assumption | omega | fail) ?_ | refine Brn.F (by (try simp only [smT]); first | rfl | omega | fail) ?_ | (refine Bnd.mk (fun hm => ?_); (try simp only [smT] at hm)) | (refine CL.mk (Or.inl ?_); (conv => whnf); refine Cl.is (hstk) rfl (by first | (intro e; cases e; done) | fail) ?_) | (refine CL.mk (Or.inr (Raw.callI [907] [907] rfl rfl rfl rfl rfl rfl rfl (hst) ?_)); rintro _ _ ⟨rfl, rfl⟩; refine Bk.mk rfl rfl ?_))
            all_goals (conv => whnf)
            all_goals first | (exfalso; simp at *; omega) | refine RetO.mk ⟨[(907, .k 907)], _, _, (by first | exact LeS.d (by first | exact LeD.u rfl | fail) | fail), (by repeat (first | exact LeO.nil | refine LeO.ab rfl rfl (by repeat (first | exact LeL.nil | fail)) (by first | rfl | fail) ?_ | fail)), rfl, rfl⟩
          · have h7 : (i : Int) = (l.length : Int) := by omega
            clear o7 hrow hlen hpz hstk
            repeat' ((conv => whnf); first | refine Gs.id ?_ | refine Brn.T (by (try simp only [smT]); first | rfl | assumption | fail) ?_ | refine Brn.F (by (try simp only [smT]); first | rfl | omega | fail) ?_ | (refine Bnd.mk (fun hm => ?_); (try simp only [smT] at hm)) | (refine CL.mk (Or.inr (Raw.callI [907] [907] rfl rfl rfl rfl rfl rfl rfl (hst) ?_)); rintro _ _ ⟨rfl, rfl⟩; refine Bk.mk rfl rfl ?_))
            all_goals (conv => whnf)
            all_goals first | (exfalso; simp at *; omega) | refine RetO.mk ⟨[(907, .k 907)], _, _, (by first | exact LeS.d (by first | exact LeD.u rfl | fail) | fail), (by repeat (first | exact LeO.nil | refine LeO.ab rfl rfl (by repeat (first | exact LeL.nil | fail)) (by first | rfl | fail) ?_ | fail)), rfl, rfl⟩
      · generalize validM l = a1 at *
        obtain ⟨a1, c1⟩ := a1
        dsimp only at v1
        subst v1
        dsimp only at h4
        clear he hsz
        refine callsA_of_vcO (T := tt) Tryz.func8 rfl rfl rfl rfl rfl ?_
        repeat' ((conv => whnf); first | refine hrow0 rfl ?_ | refine Gs.id ?_ | with_reducible refine Brn.F rfl ?_ | refine Brn.T (by (try simp only [smT]); first | rfl | assumption | fail) ?_ | (refine Bnd.mk (fun hm => ?_); (try simp only [smT] at hm)) | refine Rng.mk (by (try simp only [smT]); omega) ?_ | (refine CL.mk (Or.inl ?_); (conv => whnf); first | refine Cl.is (h4) rfl (by first | exact fun _ => rfl | fail) ?_ | refine Cl.is (hin) rfl (by first | exact fun _ => rfl | fail) ?_) | (refine CL.mk (Or.inr (Raw.callI [907] [907] rfl rfl rfl rfl rfl rfl rfl (hst) ?_)); rintro _ _ ⟨rfl, rfl⟩; refine Bk.mk rfl rfl ?_))
        all_goals (conv => whnf)
        all_goals refine RetO.mk ⟨[(907, .k 907)], _, _, (by first | exact LeS.d (by first | exact LeD.u rfl | fail) | fail), (by repeat (first | exact LeO.nil | refine LeO.ab rfl rfl (by repeat (first | exact LeL.nil | fail)) (by first | rfl | fail) ?_ | fail)), rfl, rfl⟩
    · rw [decide_eq_false (by rw [hlm]; exact hp)] at hin
      generalize validM l = a1 at *
      obtain ⟨a1, c1⟩ := a1
      dsimp only at v1
      subst v1
      dsimp only at h4
      clear he hsz
      refine callsA_of_vcO (T := tt) Tryz.func8 rfl rfl rfl rfl rfl ?_
      repeat' ((conv => whnf); first | refine Gs.id ?_ | with_reducible refine Brn.T rfl ?_ | with_reducible refine Brn.F rfl ?_ | (refine Bnd.mk (fun hm => ?_); (try simp only [smT] at hm)) | refine Rng.mk (by (try simp only [smT]); omega) ?_ | (refine CL.mk (Or.inl ?_); (conv => whnf); first | refine Cl.is (h4) rfl (by first | exact fun _ => rfl | fail) ?_ | refine Cl.is (hin) rfl (by first | exact fun _ => rfl | fail) ?_) | (refine CL.mk (Or.inr (Raw.callI [907] [907] rfl rfl rfl rfl rfl rfl rfl (hst) ?_)); rintro _ _ ⟨rfl, rfl⟩; refine Bk.mk rfl rfl ?_))
      all_goals (conv => whnf)
      all_goals refine RetO.mk ⟨[(907, .k 907)], _, _, (by first | exact LeS.d (by first | exact LeD.u rfl | fail) | fail), (by repeat (first | exact LeO.nil | refine LeO.ab rfl rfl (by repeat (first | exact LeL.nil | fail)) (by first | rfl | fail) ?_ | fail)), rfl, rfl⟩
  · generalize validM l = a1 at *
    obtain ⟨a1, c1⟩ := a1
    dsimp only at v1 h4
    clear he hsz
    refine callsA_of_vcO (T := tt) Tryz.func8 rfl rfl rfl rfl rfl ?_
    repeat' ((conv => whnf); first | refine Gs.id ?_ | with_reducible refine Brn.T rfl ?_ | refine Brn.T (by (try simp only [smT]); first | rfl | assumption | fail) ?_ | (refine CL.mk (Or.inl ?_); (conv => whnf); refine Cl.is (h4) rfl (by first | exact fun _ => rfl | fail) ?_) | (refine CL.mk (Or.inr (Raw.callI [907] [907] rfl rfl rfl rfl rfl rfl rfl (hst) ?_)); rintro _ _ ⟨rfl, rfl⟩; refine Bk.mk rfl rfl ?_))
    all_goals (conv => whnf)
    all_goals refine RetO.mk ⟨[(907, .k 907)], _, _, (by first | exact LeS.d (by first | exact LeD.u rfl | fail) | fail), (by repeat (first | exact LeO.nil | refine LeO.ab rfl rfl (by repeat (first | exact LeL.nil | fail)) (by first | rfl | fail) ?_ | fail)), rfl, rfl⟩
end Go.Proofs.YtabmcfnefjipbaaGreatDoor
namespace Go.Proofs.YtabmcfnefjipbaaGreatDoor
open Go.RowKit
theorem plainAt_md {bs : List Bp} {K : Nat} (hm : ∀ b ∈ bs, b.md.size ≤ K) : ∀ i, ∀ b ∈ plainAt bs i, b.md.size ≤ K
  | 0, b, h => by simp [plainAt] at h
  | i + 1, b, h => by
    have ih := plainAt_md hm i
    rw [plainAt] at h
    split at h
    · rename_i x hx
      split at h
      · rcases List.mem_append.1 h with h | h
        · exact ih b h
        · simp at h
          subst h
          exact hm x (List.mem_of_getElem? hx)
      · exact ih b h
    · exact ih b h
theorem go_C {l : List Ev} (he : ∀ e ∈ l, e.locs.length ≤ 9000000000) (v1 : (validM l).1 = 0) {bs : List Bp} (v2 : (validB bs).1 = 0) (i : Nat) (hi : i ≤ l.length) (hg : i < l.length → Gd1 (hG bs) l i) : CallsA Tryz.prog 17 [.d (.u (evs l)), .d (.u (bks bs)), di (bwL (hG bs) l i), dsr goK] [] (Is (mvS i)) := by
  obtain ⟨b1, b2, b3⟩ := bw_spec (g := hG bs) (l := l) i hi
  have h := move_T l bs (bwL (hG bs) l i) goK he
  rw [move_go v1 v2 ⟨b1, by omega⟩, mvM_next b1 b2 hi b3 hg] at h
  exact h
theorem goP_C {l : List Ev} (he : ∀ e ∈ l, e.locs.length ≤ 9000000000) (v1 : (validM l).1 = 0) {bs : List Bp} (v2 : (validB bs).1 = 0) (i : Nat) (hi : i ≤ l.length) (hg : i < l.length → Gd1 (hG bs) l i) : ∃ m : Int, CallsA Tryz.prog 17 [.d (.u (evs l)), .d (.u (bks (plainAt bs bs.length))), di ((i : Int) - 1), dsr goK] [] (Is (mvS m)) ∧ (i < l.length → m = i) := by
  have h := move_T l (plainAt bs bs.length) ((i : Int) - 1) goK he
  rw [move_go v1 (plainAt_valid _) ⟨by omega, by omega⟩] at h
  refine ⟨_, h, fun hlt => mvM_next (by omega) (by omega) hi (fun k h1 h2 => by omega) fun _ => ?_⟩
  obtain ⟨e, h1, h2, h3⟩ := hg hlt
  exact ⟨e, h1, h2, plain_hits v2 h3⟩
set_option maxHeartbeats 8000000 in
theorem law_breaks_T (l : List Ev) (bs : List Bp) (he : ∀ e ∈ l, e.locs.length ≤ 9000000000) (hsz : ∀ e ∈ l, e.md.size ≤ 1000000000000) (hsb : ∀ b ∈ bs, b.md.size ≤ 1000000000000) (hL : l.length ≤ 9000000000) (hB : bs.length ≤ 9000000000) (zt : Fz) (hz : Tab zt) :
    CallsA Tryz.prog 9 [.d (.u (evs l)), .d (.u (bks bs))] [(907, tbOb zt)] (Iso (db true) [(907, tbOb zt)]) := by
  have h4 := trace_R l hsz
  have h5 := breaks_R bs hsb
  have hst := stopped_T zt hz
  have hlm : ((l.map Ev.row).length : Int) = (l.length : Int) := by simp
  by_cases v1 : (validM l).1 = 0
  · by_cases v2 : (validB bs).1 = 0
    · have hb50 := validB_len v2
      have g1 := fun i hi hg => go_C he v1 v2 i hi hg
      have g2 := fun i hi hg => goP_C he v1 v2 i hi hg
      have hmd := plainAt_md hsb
      generalize validM l = a1 at *
      generalize hvb : validB bs = a2 at *
      obtain ⟨a1, c1⟩ := a1
      obtain ⟨a2, c2⟩ := a2
      dsimp only at v1 v2
      subst v1 v2
      dsimp only at h4 h5
      by_cases v3 : 300 < l.length
      · clear g1 g2 he hsz hsb hmd hvb
        refine callsA_of_vcO (T := tt) Tryz.func9 rfl rfl rfl rfl rfl ?_
        repeat' ((conv => whnf); first | refine Gs.id ?_ | with_reducible refine Brn.F rfl ?_ | refine Brn.T (by (try simp only [smT]); first | rfl | omega | fail) ?_ | (refine Bnd.mk (fun hm => ?_); (try simp only [smT] at hm)) | (refine CL.mk (Or.inl ?_); (conv => whnf); first | refine Cl.is (h4) rfl (by first | exact fun _ => rfl | fail) ?_ | refine Cl.is (h5) rfl (by first | exact fun _ => rfl | fail) ?_) | (refine CL.mk (Or.inr (Raw.callI [907] [907] rfl rfl rfl rfl rfl rfl rfl (hst) ?_)); rintro _ _ ⟨rfl, rfl⟩; refine Bk.mk rfl rfl ?_))
        all_goals (conv => whnf)
        all_goals first | (exfalso; simp_all; done) | refine RetO.mk ⟨[(907, .k 907)], _, _, (by first | exact LeS.d (by first | exact LeD.u rfl | fail) | fail), (by repeat (first | exact LeO.nil | refine LeO.ab rfl rfl (by repeat (first | exact LeL.nil | fail)) (by first | rfl | fail) ?_ | fail)), rfl, rfl⟩
      · refine callsA_of_vcO (T := tt) Tryz.func9 rfl rfl rfl rfl rfl ?_
        repeat' ((conv => whnf); first | refine Gs.id ?_ | with_reducible refine Brn.F rfl ?_ | refine Brn.F (by (try simp only [smT]); first | rfl | omega | fail) ?_ | (refine Bnd.mk (fun hm => ?_); (try simp only [smT] at hm)) | (refine CL.mk (Or.inl ?_); (conv => whnf); first | refine Cl.is (h4) rfl (by first | exact fun _ => rfl | fail) ?_ | refine Cl.is (h5) rfl (by first | exact fun _ => rfl | fail) ?_) | fail)
        all_goals (conv => whnf)
        all_goals try (exfalso; clear g1 g2; simp_all; done)
        clear h4 h5
        refine ⟨⟨Nat, fun i => i ≤ bs.length, fun i => bs.length - i, fun i => ⟨[(0, .d (.u (evs l))), (1, .d (.u (bks bs))), (5, .d (.ow 900 (plainAt bs i).length)), (6, di i)], [(900, .ar 62 4 ((plainAt bs i).map Bp.row)), (907, tbOb zt)]⟩, 0, Nat.zero_le _, ⟨[(900, .n 4), (907, .k 907)], ⟨by (try dsimp only); (repeat (refine LeT.cons rfl (by first | exact LeS.d (by first | exact LeD.u rfl | exact LeD.no rfl rfl | fail) | fail) ?_)); exact LeT.nil, by (try dsimp only); repeat (first | exact LeO.nil | refine LeO.ab rfl rfl (by repeat (first | exact LeL.nil | fail)) (by first | rfl | fail) ?_ | refine LeO.no rfl rfl ?_)⟩⟩, fun i hi => ?_⟩⟩
        dsimp only at hi ⊢
        by_cases h9 : i < bs.length
        · obtain ⟨b, hib⟩ : ∃ b, bs[i]? = some b := ⟨_, List.getElem?_eq_getElem h9⟩
          have hrow : ∀ {K : List V → Prop} {m : Int}, m = (i : Int) → K b.row → Ix (bs.map Bp.row) m K := fun h k => ⟨⟨i, b.row, h, by rw [List.getElem?_map, hib]; rfl, k⟩⟩
          have hpl := plainAt_len (bs := bs) i
          have hst2 := plainAt_succ hib
          have hbr := breaks_R (plainAt bs i ++ [plB b]) (fun x hx => by
            rcases List.mem_append.1 hx with h | h
            · exact hmd i x h
            · simp at h
              subst h
              exact hsb b (List.mem_of_getElem? hib))
          rw [show bks (plainAt bs i ++ [plB b]) = .sl 4 ((plainAt bs i).map Bp.row ++ [Bp.row (plB b)]) from by rw [bks, List.map_append]; rfl] at hbr
          clear g1 g2 hmd hsb he hsz
          generalize plainAt bs i = pl at *
          generalize hpv : validB (pl ++ [plB b]) = pv at *
          obtain ⟨pv, pw⟩ := pv
          dsimp only at hbr hst2
          by_cases hp0 : pv = 0
          · rw [if_pos hp0] at hst2
            subst hp0
            repeat' ((conv => whnf); first | refine hrow rfl ?_ | refine Gs.id ?_ | with_reducible refine And.intro ?_ ?_ | with_reducible refine Brn.T rfl ?_ | refine Brn.T (by (try simp only [smT]); first | rfl | omega | fail) ?_ | (refine Bnd.mk (fun hm => ?_); (try simp only [smT] at hm)) | refine Rng.mk (by (try simp only [smT]); omega) ?_ | refine Apd.mk (by first | rfl | simp) (by first | rfl | simp) (by (try simp only [smT]); first | omega | fail) (by unfold maxLen; first | (simp; omega) | fail) ?_ | refine Drw.of (T := tt) (i := 7) [12] [] [(0, true), (1, true), (2, true), (3, true), (4, true), (5, true), (6, true), (7, true), (8, true), (9, true), (10, true), (11, false), (12, false)] (by kernel_rfl) ?_ | refine Drw.ofT (T := tt) (i := 8) [0, 2, 3, 4, 5, 6] [1, 7, 8] (OF.fst 1 (OF.alt 0 (OF.alt 2 (OF.alt 3 (OF.alt 4 (OF.alt 5 (OF.alt 6 (OF.fst 7 (OF.fst 8 OF.nil)) OF.nil) OF.nil) OF.nil) OF.nil) (OF.alt 3 (OF.alt 2 (OF.alt 4 (OF.alt 5 (OF.alt 6 (OF.fst 7 (OF.fst 8 OF.nil)) OF.nil) OF.nil) OF.nil) (OF.alt 4 (OF.alt 2 (OF.alt 5 (OF.alt 6 (OF.fst 7 (OF.fst 8 OF.nil)) OF.nil) OF.nil) OF.nil) OF.nil)) OF.nil)) (OF.alt 3 (OF.alt 0 (OF.alt 2 (OF.alt 4 (OF.alt 5 (OF.alt 6 (OF.fst 7 (OF.fst 8 OF.nil)) OF.nil) OF.nil) OF.nil) (OF.alt 4 (OF.alt 2 (OF.alt 5 (OF.alt 6 (OF.fst 7 (OF.fst 8 OF.nil)) OF.nil) OF.nil) OF.nil) OF.nil)) (OF.alt 4 (OF.alt 0 (OF.alt 2 (OF.alt 5 (OF.alt 6 (OF.fst 7 (OF.fst 8 OF.nil)) OF.nil) OF.nil) OF.nil) OF.nil) OF.nil)) OF.nil))) (by kernel_rfl) ?_ | (refine CL.mk (Or.inl ?_); (conv => whnf); refine ClO.mk (Or.inl ?_); (repeat ((conv => whnf); refine Len.mk (by first | rfl | fail) ?_)); (conv => whnf); refine Cl.is (hbr) rfl (by first | exact fun _ => rfl | fail) ?_) | fail)
            all_goals (conv => whnf)
            all_goals first | (exfalso; simp_all; done) | exact ⟨i + 1, by omega, by omega, [(900, .k 59), (907, .k 907)], by (rw [hst2]; exact ⟨by (try dsimp only); (repeat (refine LeT.cons rfl (by first | exact LeS.d (by first | exact LeD.u rfl | exact LeD.ow rfl (by simp [plB]) | fail) | fail) ?_)); exact LeT.nil, by (try dsimp only); repeat (first | exact LeO.nil | refine LeO.ar rfl rfl (by first | rfl | simp [plB]) ?_ | refine LeO.ab rfl rfl (by repeat (first | exact LeL.nil | fail)) (by first | rfl | fail) ?_ | fail)⟩)⟩
          · rw [if_neg hp0] at hst2
            repeat' ((conv => whnf); first | refine hrow rfl ?_ | refine Gs.id ?_ | with_reducible refine And.intro ?_ ?_ | refine Brn.T (by (try simp only [smT]); first | rfl | omega | fail) ?_ | refine Brn.F (by (try simp only [smT]); first | rfl | assumption | fail) ?_ | (refine Bnd.mk (fun hm => ?_); (try simp only [smT] at hm)) | refine Rng.mk (by (try simp only [smT]); omega) ?_ | refine Apd.mk (by first | rfl | fail) (by first | rfl | simp) (by (try simp only [smT]); first | omega | fail) (by unfold maxLen; first | (simp; omega) | fail) ?_ | refine Drw.of (T := tt) (i := 7) [12] [] [(0, true), (1, true), (2, true), (3, true), (4, true), (5, true), (6, true), (7, true), (8, true), (9, true), (10, true), (11, false), (12, false)] (by kernel_rfl) ?_ | refine Drw.ofT (T := tt) (i := 8) [0, 2, 3, 4, 5, 6] [1, 7, 8] (OF.fst 1 (OF.alt 0 (OF.alt 2 (OF.alt 3 (OF.alt 4 (OF.alt 5 (OF.alt 6 (OF.fst 7 (OF.fst 8 OF.nil)) OF.nil) OF.nil) OF.nil) OF.nil) (OF.alt 3 (OF.alt 2 (OF.alt 4 (OF.alt 5 (OF.alt 6 (OF.fst 7 (OF.fst 8 OF.nil)) OF.nil) OF.nil) OF.nil) (OF.alt 4 (OF.alt 2 (OF.alt 5 (OF.alt 6 (OF.fst 7 (OF.fst 8 OF.nil)) OF.nil) OF.nil) OF.nil) OF.nil)) OF.nil)) (OF.alt 3 (OF.alt 0 (OF.alt 2 (OF.alt 4 (OF.alt 5 (OF.alt 6 (OF.fst 7 (OF.fst 8 OF.nil)) OF.nil) OF.nil) OF.nil) (OF.alt 4 (OF.alt 2 (OF.alt 5 (OF.alt 6 (OF.fst 7 (OF.fst 8 OF.nil)) OF.nil) OF.nil) OF.nil) OF.nil)) (OF.alt 4 (OF.alt 0 (OF.alt 2 (OF.alt 5 (OF.alt 6 (OF.fst 7 (OF.fst 8 OF.nil)) OF.nil) OF.nil) OF.nil) OF.nil) OF.nil)) OF.nil))) (by kernel_rfl) ?_ | (refine CL.mk (Or.inl ?_); (conv => whnf); refine ClO.mk (Or.inl ?_); (repeat ((conv => whnf); refine Len.mk (by first | rfl | fail) ?_)); (conv => whnf); refine Cl.is (hbr) rfl (by first | exact fun _ => rfl | fail) ?_) | fail)
            all_goals (conv => whnf)
            all_goals first | (exfalso; simp_all; done) | exact ⟨i + 1, by omega, by omega, [(900, .k 900), (907, .k 907)], by (rw [hst2]; exact ⟨by (try dsimp only); (repeat (refine LeT.cons rfl (by first | exact LeS.d (by first | exact LeD.u rfl | exact LeD.ow rfl rfl | fail) | fail) ?_)); exact LeT.nil, by (try dsimp only); repeat (first | exact LeO.nil | refine LeO.ar rfl rfl (by first | rfl | fail) ?_ | refine LeO.ab rfl rfl (by repeat (first | exact LeL.nil | fail)) (by first | rfl | fail) ?_ | fail)⟩)⟩
        · obtain rfl : i = bs.length := by omega
          have hpl := plainAt_len (bs := bs) bs.length
          clear hmd hsb hsz hvb
          generalize plainAt bs bs.length = pl at *
          repeat' ((conv => whnf); first | refine Gs.id ?_ | refine Brn.F (by (try simp only [smT]); first | rfl | omega | fail) ?_ | (refine Bnd.mk (fun hm => ?_); (try simp only [smT] at hm)) | fail)
          all_goals (conv => whnf)
          refine ⟨⟨Nat × Int, fun x => x.1 ≤ l.length + 1 ∧ (x.1 ≤ l.length → x.2 = bwL (hG bs) l x.1), fun x => l.length + 1 - x.1, fun x => ⟨[(0, .d (.u (evs l))), (1, .d (.u (bks bs))), (5, .d (.ow 900 pl.length)), (8, di x.2), (9, di x.1)], [(900, .ar 62 4 (pl.map Bp.row)), (907, tbOb zt)]⟩, (0, -1), ⟨Nat.zero_le _, fun _ => rfl⟩, ⟨[(900, .k 900), (907, .k 907)], ⟨by (try dsimp only); (repeat (refine LeT.cons rfl (by first | exact LeS.d (by first | exact LeD.u rfl | exact LeD.ow rfl rfl | fail) | fail) ?_)); exact LeT.nil, by (try dsimp only); repeat (first | exact LeO.nil | refine LeO.ar rfl rfl (by first | rfl | fail) ?_ | refine LeO.ab rfl rfl (by repeat (first | exact LeL.nil | fail)) (by first | rfl | fail) ?_ | fail)⟩⟩, fun x hx => ?_⟩⟩
          obtain ⟨i, a⟩ := x
          obtain ⟨hi, ha⟩ := hx
          dsimp only at hi ha ⊢
          by_cases h8 : i ≤ l.length
          · have ha := ha h8
            subst ha
            by_cases h7 : i < l.length
            · obtain ⟨e, hje⟩ : ∃ e, l[i]? = some e := ⟨_, List.getElem?_eq_getElem h7⟩
              have hrow : ∀ {K : List V → Prop} {m : Int}, m = (i : Int) → K e.row → Ix (l.map Ev.row) m K := fun h k => ⟨⟨i, e.row, h, by rw [List.getElem?_map, hje]; rfl, k⟩⟩
              have hhit := hit_R e bs (he _ (List.mem_of_getElem? hje)) hB
              have hbw : bwL (hG bs) l (i + 1) = if e.kind = 1 ∧ bs.any (hitB e) = true then (i : Int) else bwL (hG bs) l i := bwL_succ (g := hG bs) hje
              have hgd : e.kind = 1 → bs.any (hitB e) = true → Gd1 (hG bs) l i := fun q1 q2 => ⟨e, hje, q1, q2⟩
              generalize bs.any (hitB e) = ht at *
              by_cases hk : e.kind = 1
              · cases ht
                · rw [if_neg (by simp)] at hbw
                  clear g1 g2 he hgd
                  generalize bwL (hG bs) l i = a at *
                  repeat' ((conv => whnf); first | refine hrow rfl ?_ | refine Gs.id ?_ | with_reducible refine Brn.T rfl ?_ | refine Brn.T (by (try simp only [smT]); first | rfl | omega | fail) ?_ | refine Brn.F (by (try simp only [smT]); first | rfl | assumption | fail) ?_ | (refine Bnd.mk (fun hm => ?_); (try simp only [smT] at hm)) | refine Rng.mk (by (try simp only [smT]); omega) ?_ | (refine CL.mk (Or.inl ?_); (conv => whnf); refine Cl.is (hhit) rfl (by first | exact fun _ => rfl | fail) ?_) | fail)
                  all_goals (conv => whnf)
                  all_goals first | (exfalso; simp_all; done) | exact ⟨(i + 1, a), ⟨by dsimp only; omega, fun _ => hbw.symm⟩, by dsimp only; omega, [(900, .k 900), (907, .k 907)], ⟨by (try dsimp only); (repeat (refine LeT.cons rfl (by first | exact LeS.d (by first | exact LeD.u rfl | exact LeD.ow rfl rfl | fail) | fail) ?_)); exact LeT.nil, by (try dsimp only); repeat (first | exact LeO.nil | refine LeO.ar rfl rfl (by first | rfl | fail) ?_ | refine LeO.ab rfl rfl (by repeat (first | exact LeL.nil | fail)) (by first | rfl | fail) ?_ | fail)⟩⟩
                · rw [if_pos ⟨hk, rfl⟩] at hbw
                  have hgd := hgd hk rfl
                  have m1 := g1 i h8 (fun _ => hgd)
                  obtain ⟨m, m2, hmi⟩ := g2 i h8 (fun _ => hgd)
                  obtain rfl := hmi h7
                  clear g1 g2 he hgd hmi
                  generalize bwL (hG bs) l i = a at *
                  repeat' ((conv => whnf); first | refine hrow rfl ?_ | refine Gs.id ?_ | with_reducible refine Brn.F rfl ?_ | refine Brn.T (by (try simp only [smT]); first | rfl | omega | fail) ?_ | refine Brn.F (by (try simp only [smT]); first | rfl | assumption | fail) ?_ | (refine Brn.mk (fun hb => ?_) (fun hb => ?_) <;> (try simp only [smT] at hb) <;> (try (exact absurd trivial hb)) <;> (try (exfalso; omega))) | (refine Bnd.mk (fun hm => ?_); (try simp only [smT] at hm)) | refine Rng.mk (by (try simp only [smT]); omega) ?_ | (refine CL.mk (Or.inl ?_); (conv => whnf); first | refine Cl.is (hhit) rfl (by first | exact fun _ => rfl | fail) ?_ | refine Cl.is (m1) rfl (by first | exact fun _ => rfl | fail) ?_ | fail) | (refine CL.mk (Or.inl ?_); (conv => whnf); refine ClO.mk (Or.inl ?_); (repeat ((conv => whnf); refine Len.mk (by first | rfl | (simp; done) | fail) ?_)); (conv => whnf); refine Cl.is (m2) rfl (by first | exact fun _ => rfl | fail) ?_) | fail)
                  all_goals (conv => whnf)
                  all_goals first | (exfalso; simp_all; done) | exact ⟨(i + 1, (i : Int)), ⟨by dsimp only; omega, fun _ => hbw.symm⟩, by dsimp only; omega, [(900, .k 900), (907, .k 907)], ⟨by (try dsimp only); (repeat (refine LeT.cons rfl (by first | exact LeS.d (by first | exact LeD.u rfl | exact LeD.ow rfl rfl | fail) | fail) ?_)); exact LeT.nil, by (try dsimp only); repeat (first | exact LeO.nil | refine LeO.ar rfl rfl (by first | rfl | fail) ?_ | refine LeO.ab rfl rfl (by repeat (first | exact LeL.nil | fail)) (by first | rfl | fail) ?_ | fail)⟩⟩
              · rw [if_neg (fun h => hk h.1)] at hbw
                clear g1 g2 he hgd
                generalize bwL (hG bs) l i = a at *
                repeat' ((conv => whnf); first | refine hrow rfl ?_ | refine Gs.id ?_ | with_reducible refine Brn.T rfl ?_ | refine Brn.T (by (try simp only [smT]); first | rfl | assumption | omega | fail) ?_ | (refine Bnd.mk (fun hm => ?_); (try simp only [smT] at hm)) | refine Rng.mk (by (try simp only [smT]); omega) ?_ | fail)
                all_goals (conv => whnf)
                all_goals first | (exfalso; simp_all; done) | exact ⟨(i + 1, a), ⟨by dsimp only; omega, fun _ => hbw.symm⟩, by dsimp only; omega, [(900, .k 900), (907, .k 907)], ⟨by (try dsimp only); (repeat (refine LeT.cons rfl (by first | exact LeS.d (by first | exact LeD.u rfl | exact LeD.ow rfl rfl | fail) | fail) ?_)); exact LeT.nil, by (try dsimp only); repeat (first | exact LeO.nil | refine LeO.ar rfl rfl (by first | rfl | fail) ?_ | refine LeO.ab rfl rfl (by repeat (first | exact LeL.nil | fail)) (by first | rfl | fail) ?_ | fail)⟩⟩
            · obtain rfl : i = l.length := by omega
              have m1 := g1 l.length h8 (fun h => absurd h h7)
              obtain ⟨m, m2, _⟩ := g2 l.length h8 (fun h => absurd h h7)
              clear g1 g2 he
              generalize bwL (hG bs) l l.length = a at *
              repeat' ((conv => whnf); first | refine Gs.id ?_ | with_reducible refine Brn.F rfl ?_ | refine Brn.T (by (try simp only [smT]); first | rfl | assumption | omega | fail) ?_ | refine Brn.F (by (try simp only [smT]); first | rfl | assumption | omega | fail) ?_ | (refine Brn.mk (fun hb => ?_) (fun hb => ?_) <;> (try simp only [smT] at hb) <;> (try (exact absurd trivial hb)) <;> (try (exfalso; omega))) | (refine Bnd.mk (fun hm => ?_); (try simp only [smT] at hm)) | refine Rng.mk (by (try simp only [smT]); omega) ?_ | (refine CL.mk (Or.inl ?_); (conv => whnf); first | refine Cl.is (m1) rfl (by first | exact fun _ => rfl | fail) ?_ | fail) | (refine CL.mk (Or.inl ?_); (conv => whnf); refine ClO.mk (Or.inl ?_); (repeat ((conv => whnf); refine Len.mk (by first | rfl | (simp; done) | fail) ?_)); (conv => whnf); refine Cl.is (m2) rfl (by first | exact fun _ => rfl | fail) ?_) | fail)
              all_goals (conv => whnf)
              all_goals first | (exfalso; simp_all; done) | exact ⟨(l.length + 1, (l.length : Int)), ⟨by dsimp only; omega, fun h => by dsimp only at h; omega⟩, by dsimp only; omega, [(900, .k 900), (907, .k 907)], ⟨by (try dsimp only); (repeat (refine LeT.cons rfl (by first | exact LeS.d (by first | exact LeD.u rfl | exact LeD.ow rfl rfl | fail) | fail) ?_)); exact LeT.nil, by (try dsimp only); repeat (first | exact LeO.nil | refine LeO.ar rfl rfl (by first | rfl | fail) ?_ | refine LeO.ab rfl rfl (by repeat (first | exact LeL.nil | fail)) (by first | rfl | fail) ?_ | fail)⟩⟩
          · obtain rfl : i = l.length + 1 := by omega
            clear g1 g2 he ha
            repeat' ((conv => whnf); first | refine Gs.id ?_ | refine Brn.F (by (try simp only [smT]); first | rfl | omega | fail) ?_ | (refine Bnd.mk (fun hm => ?_); (try simp only [smT] at hm)) | (refine CL.mk (Or.inr (Raw.callI [907] [907] rfl rfl rfl rfl rfl rfl rfl (hst) ?_)); rintro _ _ ⟨rfl, rfl⟩; refine Bk.mk rfl rfl ?_))
            all_goals (conv => whnf)
            all_goals first | (exfalso; simp at *; omega) | refine RetO.mk ⟨[(907, .k 907)], _, _, (by first | exact LeS.d (by first | exact LeD.u rfl | fail) | fail), (by repeat (first | exact LeO.nil | refine LeO.ab rfl rfl (by repeat (first | exact LeL.nil | fail)) (by first | rfl | fail) ?_ | fail)), rfl, rfl⟩
    · generalize validM l = a1 at *
      generalize validB bs = a2 at *
      obtain ⟨a1, c1⟩ := a1
      obtain ⟨a2, c2⟩ := a2
      dsimp only at v1 v2 h4 h5
      subst v1
      clear he hsz hsb
      refine callsA_of_vcO (T := tt) Tryz.func9 rfl rfl rfl rfl rfl ?_
      repeat' ((conv => whnf); first | refine Gs.id ?_ | with_reducible refine Brn.T rfl ?_ | with_reducible refine Brn.F rfl ?_ | refine Brn.T (by (try simp only [smT]); first | rfl | assumption | fail) ?_ | (refine CL.mk (Or.inl ?_); (conv => whnf); first | refine Cl.is (h4) rfl (by first | exact fun _ => rfl | fail) ?_ | refine Cl.is (h5) rfl (by first | exact fun _ => rfl | fail) ?_) | (refine CL.mk (Or.inr (Raw.callI [907] [907] rfl rfl rfl rfl rfl rfl rfl (hst) ?_)); rintro _ _ ⟨rfl, rfl⟩; refine Bk.mk rfl rfl ?_))
      all_goals (conv => whnf)
      all_goals refine RetO.mk ⟨[(907, .k 907)], _, _, (by first | exact LeS.d (by first | exact LeD.u rfl | fail) | fail), (by repeat (first | exact LeO.nil | refine LeO.ab rfl rfl (by repeat (first | exact LeL.nil | fail)) (by first | rfl | fail) ?_ | fail)), rfl, rfl⟩
  · generalize validM l = a1 at *
    obtain ⟨a1, c1⟩ := a1
    dsimp only at v1 h4
    clear he hsz hsb h5
    refine callsA_of_vcO (T := tt) Tryz.func9 rfl rfl rfl rfl rfl ?_
    repeat' ((conv => whnf); first | refine Gs.id ?_ | with_reducible refine Brn.T rfl ?_ | refine Brn.T (by (try simp only [smT]); first | rfl | assumption | fail) ?_ | (refine CL.mk (Or.inl ?_); (conv => whnf); refine Cl.is (h4) rfl (by first | exact fun _ => rfl | fail) ?_) | (refine CL.mk (Or.inr (Raw.callI [907] [907] rfl rfl rfl rfl rfl rfl rfl (hst) ?_)); rintro _ _ ⟨rfl, rfl⟩; refine Bk.mk rfl rfl ?_))
    all_goals (conv => whnf)
    all_goals refine RetO.mk ⟨[(907, .k 907)], _, _, (by first | exact LeS.d (by first | exact LeD.u rfl | fail) | fail), (by repeat (first | exact LeO.nil | refine LeO.ab rfl rfl (by repeat (first | exact LeL.nil | fail)) (by first | rfl | fail) ?_ | fail)), rfl, rfl⟩
end Go.Proofs.YtabmcfnefjipbaaGreatDoor
