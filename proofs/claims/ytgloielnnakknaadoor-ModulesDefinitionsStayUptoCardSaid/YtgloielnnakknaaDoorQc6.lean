/-
  ModulesDefinitionsStay, where what it reads is of bulk at most 1048576: for all units and names the law returns true, and the units read afterwards as they read before. The tables of unicode/utf8 are listed and tied to the library's text.
-/
import Derived.Test.YtgloielnnakknaaDoorQc5
namespace Go.Proofs.YtgloielnnakknaaDoor
open Go.RowKit
def defS (d : ByteArray) : Stp := ⟨1, d, emp⟩
def addU (ns : List ByteArray) : List Un → List Un
  | [] => []
  | u :: r => ⟨u.name, ns.map defS ++ u.steps⟩ :: r
theorem stepM_def {d : ByteArray} (h : nameB d = true) : stepM (defS d) = 0 := by
  simp [stepM, badNameM, simpleM, defS, h]
theorem stepsM_app : ∀ (a b : List Stp) (c : Int), stepsM c (a ++ b) = stepsM (stepsM c a) b
  | [], _, _ => rfl
  | x :: r, b, c => by simp only [List.cons_append, stepsM]; exact stepsM_app r b _
theorem stepsM_def : ∀ {ns : List ByteArray} (c : Int), (∀ d ∈ ns, nameB d = true) → stepsM c (ns.map defS) = c
  | [], _, _ => rfl
  | d :: r, c, h => by
    simp only [List.map_cons, stepsM]
    rw [stepM_def (h d (by simp))]
    have e : (if c = 0 then 0 else c) = c := by split <;> omega
    rw [e]
    exact stepsM_def c fun d hd => h d (by simp [hd])
theorem addU_valid {l : List Un} {ns : List ByteArray} (hn : ∀ d ∈ ns, nameB d = true) (h5 : ns.length ≤ 5) (h25 : ∀ u, l[0]? = some u → u.steps.length ≤ 25) : validateM (addU ns l) = validateM l := by
  cases l with
  | nil => rfl
  | cons u r =>
    have h25 := h25 u rfl
    have e : unitM ⟨u.name, ns.map defS ++ u.steps⟩ 0 [] = unitM u 0 [] := by
      unfold unitM
      have e0 : unit0M ⟨u.name, ns.map defS ++ u.steps⟩ 0 [] = unit0M u 0 [] := by
        unfold unit0M
        have l1 : ¬ ((30 : Int) < ((ns.map defS ++ u.steps).length : Int)) := by simp; omega
        have l2 : ¬ ((30 : Int) < (u.steps.length : Int)) := by omega
        simp only
        rw [if_neg l1, if_neg l2]
      rw [e0, stepsM_app, stepsM_def _ hn]
    simp only [addU, validateM, validM, List.length_cons, e]
theorem addU_add {l : List Un} {ns : List ByteArray} (hf : ∀ u ∈ l, ∀ t ∈ u.steps, ∀ d ∈ ns, t.name ≠ d ∧ t.part ≠ d) : Add l (addU ns l) ns := by
  refine ⟨fun n => ?_, fun n => ?_, fun u hu t ht => ⟨fun h => (hf u hu t ht _ h).1 rfl, fun h => (hf u hu t ht _ h).2 rfl⟩⟩
  · cases l <;> rfl
  · cases l with
    | nil => exact ⟨[], fun _ h => (by cases h), rfl⟩
    | cons u r =>
      simp only [addU, unitS]
      split
      · exact ⟨ns, fun _ h => h, rfl⟩
      · exact ⟨[], fun _ h => (by cases h), rfl⟩
theorem stay_flt_T (l : List Un) (ns : List ByteArray) (f : Int × Int) (hf : FltOf l f) (h0 : f.1 ≠ 0) : CallsA Tryd.prog 7 [.d (.u (uns l)), .d (.u (strs' ns))] [] (Is (db true)) := by
  have hl := load_flt l f hf
  have hi := imported_T
  obtain ⟨c, i⟩ := f
  dsimp only at h0
  refine callsA_of_vc (T := tt) Tryd.func7 rfl rfl rfl rfl rfl ?_
  repeat' ((conv => whnf); first | refine Gs.id ?_ | with_reducible refine And.intro ?_ ?_ | with_reducible refine Brn.T rfl ?_ | with_reducible refine Brn.F rfl ?_ | refine Brn.T (by (try simp only [smT]); first | rfl | assumption | omega | (simp only [*]; done) | (simp [*]; done) | fail) ?_ | refine Brn.F (by (try simp only [smT]); first | rfl | assumption | omega | (simp only [*]; done) | (simp [*]; done) | fail) ?_ | (refine Brn.mk (fun hb => ?_) (fun hb => ?_) <;> (try simp only [smT] at hb) <;> (try (exact absurd trivial hb)) <;> (try (exfalso; omega))) | (refine Bnd.mk (fun hm => ?_); (try simp only [smT] at hm)) | refine Rng.mk (by (try simp only [smT]); omega) ?_ | refine Ix.map rfl (by (try simp only [smT]); omega) ?_ | refine Ix.map (m := 0) rfl (by (try simp only [smT]); omega) ?_ | refine Ix.lit (m := 0) rfl rfl ?_ | refine Ixo.mk ⟨_, rfl, (by (try simp only [smT]); omega), ?_⟩ | refine Rw.lit rfl ?_ | refine Rw.self (by (try simp only [smT]); omega) ?_ | refine Rw.map (by (try simp only [smT]); omega) ?_ | refine Len.mk (by first | rfl | (simp; done) | (simp only [smT]; assumption) | (simp only [smT]; omega)) ?_ | refine Eqv.mk (by kernel_rfl) ?_ | refine Apd.mk (by first | rfl | simp) (by first | rfl | simp) (by (try simp only [smT]); first | omega | (simp; omega)) (by unfold maxLen; first | (simp; done) | (simp; omega) | omega) ?_ | refine Raw.capNil (T := tt) rfl rfl rfl rfl ?_ | refine Raw.sliceNil (T := tt) rfl rfl (by first | rfl | omega | (simp; done)) rfl rfl rfl rfl ?_ | refine Raw.makeMap (T := tt) rfl rfl rfl rfl rfl rfl (.inl rfl) rfl rfl ?_ | refine Raw.mapUpdate (T := tt) (.inl rfl) rfl rfl rfl rfl rfl rfl rfl rfl rfl rfl rfl (by assumption) ?_ | refine Pm.mk (by first | assumption | omega | (simp; done) | (simp; omega)) (by first | assumption | omega | (simp; done) | (simp; omega)) ?_ | (refine Raw.appendR (T := tt) ?_; (conv => whnf); first | refine Rw.lit rfl ?_ | refine Rw.self (by (try simp only [smT]); omega) ?_ | refine Rw.map (by (try simp only [smT]); omega) ?_) | refine Raw.appendIn (T := tt) rfl rfl rfl rfl rfl rfl rfl rfl rfl rfl (by (try simp only [smT]); omega) (by (try simp only [smT]); omega) ?_ | refine Raw.clear (T := tt) rfl rfl rfl rfl rfl rfl rfl (by (try simp only [smT]); omega) ?_ | refine Slc.mk ⟨_, _, rfl, rfl, (by (try simp only [smT]); omega), (by (try simp only [smT]); omega), ?_⟩ | refine Slc.mk ⟨0, _, rfl, rfl, (by (try simp only [smT]); omega), (by (try simp only [smT]); omega), ?_⟩ | refine Slc.mk ⟨1, _, rfl, rfl, (by (try simp only [smT]); omega), (by (try simp only [smT]); omega), ?_⟩ | refine Slc3.mk ⟨_, _, _, rfl, rfl, rfl, (by (try simp only [smT]); omega), (by (try simp only [smT]); omega), (by (try simp only [smT]); omega)⟩ ?_ | refine Drw.of (T := tt) (i := 17) [] [] [(0, true), (1, true), (2, true), (3, true), (4, true), (5, true), (6, true), (7, true), (8, true), (9, true), (10, true), (11, true), (12, true), (13, true), (14, true), (15, true)] (by kernel_rfl) ?_ | refine Drw.ofF (T := tt) (i := 22) [10, 11, 12, 13] [0, 1, 2, 3, 4] [(0, true), (1, true), (2, true), (3, true), (4, true), (5, true), (6, true), (7, true), (8, true), (9, true), (10, false), (11, false), (12, false), (13, false)] (by kernel_rfl) ?_ | refine Drw.ofP (T := tt) (i := 22) [10, 11, 12, 13] [0, 1, 2, 3, 4, 5, 6, 7, 8, 9] [0, 1, 2, 3, 4, 5, 6, 7, 8, 9] (OT.alt 10 (OT.alt 11 (OT.alt 12 (OT.alt 13 OT.nil OT.nil) OT.nil) OT.nil) OT.nil) (by kernel_rfl) ?_ | refine Drw.of (T := tt) (i := 29) [] [] [(0, true), (1, true), (2, true), (3, true), (4, true), (5, true), (6, true), (7, true), (8, true)] (by kernel_rfl) ?_ | (refine CL.mk (Or.inl ?_); (conv => whnf); first | refine Cl.is (hl) rfl (by first | exact fun _ => rfl | (intro e; cases e; done) | fail) ?_ | refine Cl.is (hi) rfl (by first | exact fun _ => rfl | (intro e; cases e; done) | fail) ?_) | (refine CL.mk (Or.inl ?_); (conv => whnf); refine ClO.mk (Or.inl ?_); (repeat ((conv => whnf); refine Len.mk (by first | rfl | (simp; done) | (simp only [smT]; assumption) | (simp only [smT]; omega)) ?_)); (conv => whnf); first | refine Cl.is (hl) rfl (by first | exact fun _ => rfl | (intro e; cases e; done) | fail) ?_ | refine Cl.is (hi) rfl (by first | exact fun _ => rfl | (intro e; cases e; done) | fail) ?_) | (refine CL.mk (Or.inl ?_); (conv => whnf); refine ClO.mk (Or.inr ?_); (repeat ((conv => whnf); refine Len.mk (by first | rfl | (simp; done) | (simp only [smT]; assumption) | (simp only [smT]; omega)) ?_)); (conv => whnf); first | refine Cl.is (hl) rfl (by first | exact fun _ => rfl | (intro e; cases e; done) | fail) ?_ | refine Cl.is (hi) rfl (by first | exact fun _ => rfl | (intro e; cases e; done) | fail) ?_))
  all_goals (conv => whnf)
  all_goals exact Ret.is rfl
/-- What is free of a name. -/
def freeS (d : ByteArray) (l : List Stp) : Prop := ∀ t ∈ l, t.name ≠ d ∧ t.part ≠ d
def freeU (d : ByteArray) (l : List Un) : Prop := ∀ u ∈ l, freeS d u.steps
abbrev stA (ns : List ByteArray) : Nat × Ob := (907, .ar 51 3 (ns.map fun d => [V.int .i64 1, V.str d, V.str ⟨#[]⟩]))
theorem addU_rows {l : List Un} {u : Un} (h : l[0]? = some u) (ns : List ByteArray) : (l.map Un.row).set 0 [V.str u.name, V.sl 3 (ns.map (fun d => [V.int .i64 1, V.str d, V.str ⟨#[]⟩]) ++ u.steps.map Stp.row)] = (addU ns l).map Un.row := by
  cases l with
  | nil => cases h
  | cons a r =>
    injection h with h
    subst h
    have he : (⟨#[]⟩ : ByteArray) = emp := rfl
    simp [addU, Un.row, defS, Stp.row, Function.comp_def, he]
theorem Ix_ev {l : List Ev} {n : Int} {p : Nat} {u : Ev} {K : List V → Prop} (hn : n = (p : Int)) (h : l[p]? = some u) (k : K u.v) : Ix (l.map Ev.v) n K := by
  subst hn
  exact Ix.map rfl (lt_get h) (by rw [(List.getElem?_eq_some_iff.1 h).2]; exact k)
theorem Rw_un0 {l : List Un} {u : Un} {K : List V → Prop} (h : l[0]? = some u) (k : K u.row) : Rw (l.map Un.row) 0 K := ⟨_, by simp [h], k⟩
set_option maxHeartbeats 4000000 in
theorem stay_ok_T (l : List Un) (hb : Lb l) (ns : List ByteArray) (hns : ns.length ≤ 9000000000) (h1 : (validateM l).1 = 0) (h2 : (finS l).full = false) : CallsA Tryd.prog 7 [.d (.u (uns l)), .d (.u (strs' ns))] [] (Is (db true)) := by
  have hl := load_own l h1 h2
  have hi := imported_T
  have hlg := (fin_inv h1).log
  obtain ⟨hU, _, hlen, hmain, _⟩ := valid_Uok h1
  have hl40 := hU.len
  have hb2 := hb.steps
  obtain ⟨⟨un0, us0⟩, hu0⟩ : ∃ u, l[0]? = some u := ⟨_, List.getElem?_eq_getElem hlen⟩
  have hus0 := hU.steps _ (List.mem_of_getElem? hu0)
  have hsame := fun (hn : ∀ d ∈ ns, nameB d = true) (h5 : ns.length ≤ 5) (h25 : us0.length ≤ 25) (hfr : ∀ u ∈ l, ∀ t ∈ u.steps, ∀ d ∈ ns, t.name ≠ d ∧ t.part ≠ d) => by
    have hv := addU_valid (l := l) hn h5 fun u hu => by rw [hu0] at hu; injection hu with hu; subst hu; exact h25
    have h1' : (validateM (addU ns l)).1 = 0 := by rw [hv]; exact h1
    have hs := fin_stay (addU_add hfr) h1 h1' h2
    have := load_own (addU ns l) h1' hs.2
    rw [hs.1] at this
    exact show ∀ r, r = (addU ns l).map Un.row → CallsA Tryd.prog 14 [.d (.u (.sl 2 r))] [] (Iso (.t [.d (.ow 905 (finS l).log.length), .a (fd (0, 0))]) [(905, .ar 43 2 ((finS l).log.map Ev.v))]) from fun r hr => by rw [hr]; exact this
  dsimp only at hus0
  generalize (finS l).log = log at *
  by_cases h5 : ns.length ≤ 5
  · by_cases h25 : us0.length ≤ 25
    · refine callsA_of_vc (T := tt) Tryd.func7 rfl rfl rfl rfl rfl ?_
      repeat' ((conv => whnf); first | refine Ix_un rfl hu0 ?_ | refine Gs.go (i := 5) (Ghost.nlOw 7 907 51 3 rfl rfl) ?_ | refine Drw.ghost (i := 5) (Ghost.nlOw 7 907 51 3 rfl rfl) ?_ | refine Gs.id ?_ | with_reducible refine And.intro ?_ ?_ | with_reducible refine Brn.T rfl ?_ | with_reducible refine Brn.F rfl ?_ | refine Brn.T (by (try simp only [smT]); first | rfl | assumption | omega | (simp only [*]; done) | (simp [*]; done) | fail) ?_ | refine Brn.F (by (try simp only [smT]); first | rfl | assumption | omega | (simp only [*]; done) | (simp [*]; done) | fail) ?_ | (refine Brn.mk (fun hb => ?_) (fun hb => ?_) <;> (try simp only [smT] at hb) <;> (try (exact absurd trivial hb)) <;> (try (exfalso; omega))) | (refine Bnd.mk (fun hm => ?_); (try simp only [smT] at hm)) | refine Rng.mk (by (try simp only [smT]); omega) ?_ | refine Ix.map rfl (by (try simp only [smT]); omega) ?_ | refine Ix.map (m := 0) rfl (by (try simp only [smT]); omega) ?_ | refine Ix.lit (m := 0) rfl rfl ?_ | refine Ixo.mk ⟨_, rfl, (by (try simp only [smT]); omega), ?_⟩ | refine Rw.lit rfl ?_ | refine Rw.self (by (try simp only [smT]); omega) ?_ | refine Rw.map (by (try simp only [smT]); omega) ?_ | refine Len.mk (by first | rfl | (simp; done) | (simp only [smT]; assumption) | (simp only [smT]; omega)) ?_ | refine Eqv.mk (by kernel_rfl) ?_ | refine Apd.mk (by first | rfl | simp) (by first | rfl | simp) (by (try simp only [smT]); first | omega | (simp; omega)) (by unfold maxLen; first | (simp; done) | (simp; omega) | omega) ?_ | refine Raw.capNil (T := tt) rfl rfl rfl rfl ?_ | refine Raw.sliceNil (T := tt) rfl rfl (by first | rfl | omega | (simp; done)) rfl rfl rfl rfl ?_ | refine Raw.makeMap (T := tt) rfl rfl rfl rfl rfl rfl (.inl rfl) rfl rfl ?_ | refine Raw.mapUpdate (T := tt) (.inl rfl) rfl rfl rfl rfl rfl rfl rfl rfl rfl rfl rfl (by assumption) ?_ | refine Pm.mk (by first | assumption | omega | (simp; done) | (simp; omega)) (by first | assumption | omega | (simp; done) | (simp; omega)) ?_ | (refine Raw.appendR (T := tt) ?_; (conv => whnf); first | refine Ix_un rfl hu0 ?_ | refine Gs.go (i := 5) (Ghost.nlOw 7 907 51 3 rfl rfl) ?_ | refine Drw.ghost (i := 5) (Ghost.nlOw 7 907 51 3 rfl rfl) ?_ | refine Rw.lit rfl ?_ | refine Rw.self (by (try simp only [smT]); omega) ?_ | refine Rw.map (by (try simp only [smT]); omega) ?_) | refine Raw.appendIn (T := tt) rfl rfl rfl rfl rfl rfl rfl rfl rfl rfl (by (try simp only [smT]); omega) (by (try simp only [smT]); omega) ?_ | refine Raw.clear (T := tt) rfl rfl rfl rfl rfl rfl rfl (by (try simp only [smT]); omega) ?_ | refine Slc.mk ⟨_, _, rfl, rfl, (by (try simp only [smT]); omega), (by (try simp only [smT]); omega), ?_⟩ | refine Slc.mk ⟨0, _, rfl, rfl, (by (try simp only [smT]); omega), (by (try simp only [smT]); omega), ?_⟩ | refine Slc.mk ⟨1, _, rfl, rfl, (by (try simp only [smT]); omega), (by (try simp only [smT]); omega), ?_⟩ | refine Slc3.mk ⟨_, _, _, rfl, rfl, rfl, (by (try simp only [smT]); omega), (by (try simp only [smT]); omega), (by (try simp only [smT]); omega)⟩ ?_ | refine Drw.of (T := tt) (i := 17) [] [] [(0, true), (1, true), (2, true), (3, true), (4, true), (5, true), (6, true), (7, true), (8, true), (9, true), (10, true), (11, true), (12, true), (13, true), (14, true), (15, true)] (by kernel_rfl) ?_ | refine Drw.ofF (T := tt) (i := 22) [10, 11, 12, 13] [0, 1, 2, 3, 4] [(0, true), (1, true), (2, true), (3, true), (4, true), (5, true), (6, true), (7, true), (8, true), (9, true), (10, false), (11, false), (12, false), (13, false)] (by kernel_rfl) ?_ | refine Drw.ofP (T := tt) (i := 22) [10, 11, 12, 13] [0, 1, 2, 3, 4, 5, 6, 7, 8, 9] [0, 1, 2, 3, 4, 5, 6, 7, 8, 9] (OT.alt 10 (OT.alt 11 (OT.alt 12 (OT.alt 13 OT.nil OT.nil) OT.nil) OT.nil) OT.nil) (by kernel_rfl) ?_ | refine Drw.of (T := tt) (i := 29) [] [] [(0, true), (1, true), (2, true), (3, true), (4, true), (5, true), (6, true), (7, true), (8, true)] (by kernel_rfl) ?_ | (refine CL.mk (Or.inr (Raw.callI [] [905] rfl rfl rfl rfl rfl rfl rfl (hl) ?_)); rintro _ _ ⟨rfl, rfl⟩; refine Bk.mk rfl rfl ?_))
      all_goals (conv => whnf)
      refine ⟨⟨Nat, fun i => i ≤ ns.length ∧ ∀ d ∈ ns.take i, nameB d = true ∧ freeU d l, fun i => ns.length - i, fun i => ⟨[(0, .d (.u (uns l))), (1, .d (.u (strs' ns))), (5, .d (.ow 905 log.length)), (7, .d (.ow 907 i)), (8, di i)], [logA log, stA (ns.take i)]⟩, 0, ⟨Nat.zero_le _, fun u hu => by simp at hu⟩, ⟨[(905, .k 905), (907, .k 907)], ⟨by (try dsimp only); (repeat (refine LeT.cons rfl (by first | exact LeS.d (by first | exact LeD.u rfl | exact LeD.p rfl | exact LeD.ow rfl rfl | exact LeD.ow rfl (by simp) | exact LeD.no rfl rfl | exact LeD.nl (by first | rfl | simp) | exact LeD.u (by simp; done) | exact LeD.u (by congr 1; omega) | exact LeD.q rfl | exact LeD.r rfl | exact LeD.r (by simp; done) | exact LeD.re | exact LeD.mp rfl | exact LeD.ows rfl rfl rfl | exact LeD.u (by congr 1; congr 1; simp) | exact LeD.fn (by repeat (first | exact LeN.nil | refine LeN.cons rfl ?_))) | exact LeS.a (by repeat (first | exact LeL.nil | refine LeL.cons (by first | exact LeD.u rfl | exact LeD.p rfl | exact LeD.ow rfl rfl | exact LeD.ow rfl (by simp) | exact LeD.no rfl rfl | exact LeD.nl (by first | rfl | simp) | exact LeD.u (by simp; done) | exact LeD.u (by congr 1; omega) | exact LeD.q rfl | exact LeD.r rfl | exact LeD.r (by simp; done) | exact LeD.re | exact LeD.mp rfl | exact LeD.ows rfl rfl rfl | exact LeD.u (by congr 1; congr 1; simp) | exact LeD.fn (by repeat (first | exact LeN.nil | refine LeN.cons rfl ?_))) ?_))) ?_)); exact LeT.nil, by (try dsimp only); repeat (first | exact LeO.nil | refine LeO.bx rfl rfl (by repeat (first | exact LeL.nil | refine LeL.cons (by first | exact LeD.u rfl | exact LeD.p rfl | exact LeD.ow rfl rfl | exact LeD.ow rfl (by simp) | exact LeD.no rfl rfl | exact LeD.nl (by first | rfl | simp) | exact LeD.u (by simp; done) | exact LeD.u (by congr 1; omega) | exact LeD.q rfl | exact LeD.r rfl | exact LeD.r (by simp; done) | exact LeD.re | exact LeD.mp rfl | exact LeD.ows rfl rfl rfl | exact LeD.u (by congr 1; congr 1; simp) | exact LeD.fn (by repeat (first | exact LeN.nil | refine LeN.cons rfl ?_))) ?_)) ?_ | refine LeO.ar rfl rfl (by first | rfl | simp) ?_ | refine LeO.fm rfl (by first | rfl | simp) ?_ | refine LeO.mp rfl rfl (by first | rfl | simp) ?_ | refine LeO.no rfl rfl ?_)⟩⟩, fun i hx => ?_⟩⟩
      obtain ⟨hil, hno⟩ := hx
      dsimp only at hil hno ⊢
      by_cases h9 : i < ns.length
      · obtain ⟨d, hd⟩ : ∃ d, ns[i]? = some d := ⟨_, List.getElem?_eq_getElem h9⟩
        have hnm := name_R d
        cases hdn : nameB d
        · rw [hdn] at hnm
          repeat' ((conv => whnf); first | refine Ix_at rfl hd ?_ | refine Gs.id ?_ | with_reducible refine And.intro ?_ ?_ | with_reducible refine Brn.T rfl ?_ | with_reducible refine Brn.F rfl ?_ | refine Brn.T (by (try simp only [smT]); first | rfl | assumption | omega | (simp only [*]; done) | (simp [*]; done) | fail) ?_ | refine Brn.F (by (try simp only [smT]); first | rfl | assumption | omega | (simp only [*]; done) | (simp [*]; done) | fail) ?_ | (refine Brn.mk (fun hb => ?_) (fun hb => ?_) <;> (try simp only [smT] at hb) <;> (try (exact absurd trivial hb)) <;> (try (exfalso; omega))) | (refine Bnd.mk (fun hm => ?_); (try simp only [smT] at hm)) | refine Rng.mk (by (try simp only [smT]); omega) ?_ | refine Ix.map rfl (by (try simp only [smT]); omega) ?_ | refine Ix.map (m := 0) rfl (by (try simp only [smT]); omega) ?_ | refine Ix.lit (m := 0) rfl rfl ?_ | refine Ixo.mk ⟨_, rfl, (by (try simp only [smT]); omega), ?_⟩ | refine Rw.lit rfl ?_ | refine Rw.self (by (try simp only [smT]); omega) ?_ | refine Rw.map (by (try simp only [smT]); omega) ?_ | refine Len.mk (by first | rfl | (simp; done) | (simp only [smT]; assumption) | (simp only [smT]; omega)) ?_ | refine Eqv.mk (by kernel_rfl) ?_ | refine Apd.mk (by first | rfl | simp) (by first | rfl | simp) (by (try simp only [smT]); first | omega | (simp; omega)) (by unfold maxLen; first | (simp; done) | (simp; omega) | omega) ?_ | refine Raw.capNil (T := tt) rfl rfl rfl rfl ?_ | refine Raw.sliceNil (T := tt) rfl rfl (by first | rfl | omega | (simp; done)) rfl rfl rfl rfl ?_ | refine Raw.makeMap (T := tt) rfl rfl rfl rfl rfl rfl (.inl rfl) rfl rfl ?_ | refine Raw.mapUpdate (T := tt) (.inl rfl) rfl rfl rfl rfl rfl rfl rfl rfl rfl rfl rfl (by assumption) ?_ | refine Pm.mk (by first | assumption | omega | (simp; done) | (simp; omega)) (by first | assumption | omega | (simp; done) | (simp; omega)) ?_ | (refine Raw.appendR (T := tt) ?_; (conv => whnf); first | refine Ix_at rfl hd ?_ | refine Rw.lit rfl ?_ | refine Rw.self (by (try simp only [smT]); omega) ?_ | refine Rw.map (by (try simp only [smT]); omega) ?_) | refine Raw.appendIn (T := tt) rfl rfl rfl rfl rfl rfl rfl rfl rfl rfl (by (try simp only [smT]); omega) (by (try simp only [smT]); omega) ?_ | refine Raw.clear (T := tt) rfl rfl rfl rfl rfl rfl rfl (by (try simp only [smT]); omega) ?_ | refine Slc.mk ⟨_, _, rfl, rfl, (by (try simp only [smT]); omega), (by (try simp only [smT]); omega), ?_⟩ | refine Slc.mk ⟨0, _, rfl, rfl, (by (try simp only [smT]); omega), (by (try simp only [smT]); omega), ?_⟩ | refine Slc.mk ⟨1, _, rfl, rfl, (by (try simp only [smT]); omega), (by (try simp only [smT]); omega), ?_⟩ | refine Slc3.mk ⟨_, _, _, rfl, rfl, rfl, (by (try simp only [smT]); omega), (by (try simp only [smT]); omega), (by (try simp only [smT]); omega)⟩ ?_ | refine Drw.of (T := tt) (i := 17) [] [] [(0, true), (1, true), (2, true), (3, true), (4, true), (5, true), (6, true), (7, true), (8, true), (9, true), (10, true), (11, true), (12, true), (13, true), (14, true), (15, true)] (by kernel_rfl) ?_ | refine Drw.ofF (T := tt) (i := 22) [10, 11, 12, 13] [0, 1, 2, 3, 4] [(0, true), (1, true), (2, true), (3, true), (4, true), (5, true), (6, true), (7, true), (8, true), (9, true), (10, false), (11, false), (12, false), (13, false)] (by kernel_rfl) ?_ | refine Drw.ofP (T := tt) (i := 22) [10, 11, 12, 13] [0, 1, 2, 3, 4, 5, 6, 7, 8, 9] [0, 1, 2, 3, 4, 5, 6, 7, 8, 9] (OT.alt 10 (OT.alt 11 (OT.alt 12 (OT.alt 13 OT.nil OT.nil) OT.nil) OT.nil) OT.nil) (by kernel_rfl) ?_ | refine Drw.of (T := tt) (i := 29) [] [] [(0, true), (1, true), (2, true), (3, true), (4, true), (5, true), (6, true), (7, true), (8, true)] (by kernel_rfl) ?_ | (refine CL.mk (Or.inl ?_); (conv => whnf); first | refine Cl.is (hnm) rfl (by first | exact fun _ => rfl | (intro e; cases e; done) | fail) ?_ | refine Cl.is (hi) rfl (by first | exact fun _ => rfl | (intro e; cases e; done) | fail) ?_) | (refine CL.mk (Or.inl ?_); (conv => whnf); refine ClO.mk (Or.inl ?_); (repeat ((conv => whnf); refine Len.mk (by first | rfl | (simp; done) | (simp only [smT]; assumption) | (simp only [smT]; omega)) ?_)); (conv => whnf); first | refine Cl.is (hnm) rfl (by first | exact fun _ => rfl | (intro e; cases e; done) | fail) ?_ | refine Cl.is (hi) rfl (by first | exact fun _ => rfl | (intro e; cases e; done) | fail) ?_) | (refine CL.mk (Or.inl ?_); (conv => whnf); refine ClO.mk (Or.inr ?_); (repeat ((conv => whnf); refine Len.mk (by first | rfl | (simp; done) | (simp only [smT]; assumption) | (simp only [smT]; omega)) ?_)); (conv => whnf); first | refine Cl.is (hnm) rfl (by first | exact fun _ => rfl | (intro e; cases e; done) | fail) ?_ | refine Cl.is (hi) rfl (by first | exact fun _ => rfl | (intro e; cases e; done) | fail) ?_))
          all_goals (conv => whnf)
          all_goals exact Ret.is rfl
        rw [hdn] at hnm
        have htk : ns.take (i + 1) = ns.take i ++ [d] := by rw [List.take_add_one, hd]; rfl
        have hmn : min i ns.length = i := by omega
        repeat' ((conv => whnf); first | refine Ix_at rfl hd ?_ | refine Gs.id ?_ | with_reducible refine And.intro ?_ ?_ | with_reducible refine Brn.T rfl ?_ | with_reducible refine Brn.F rfl ?_ | refine Brn.T (by (try simp only [smT]); first | rfl | assumption | omega | (simp only [*]; done) | (simp [*]; done) | fail) ?_ | refine Brn.F (by (try simp only [smT]); first | rfl | assumption | omega | (simp only [*]; done) | (simp [*]; done) | fail) ?_ | (refine Brn.mk (fun hb => ?_) (fun hb => ?_) <;> (try simp only [smT] at hb) <;> (try (exact absurd trivial hb)) <;> (try (exfalso; omega))) | (refine Bnd.mk (fun hm => ?_); (try simp only [smT] at hm)) | refine Rng.mk (by (try simp only [smT]); omega) ?_ | refine Ix.map rfl (by (try simp only [smT]); omega) ?_ | refine Ix.map (m := 0) rfl (by (try simp only [smT]); omega) ?_ | refine Ix.lit (m := 0) rfl rfl ?_ | refine Ixo.mk ⟨_, rfl, (by (try simp only [smT]); omega), ?_⟩ | refine Rw.lit rfl ?_ | refine Rw.self (by (try simp only [smT]); omega) ?_ | refine Rw.map (by (try simp only [smT]); omega) ?_ | refine Len.mk (by first | rfl | (simp; done) | (simp only [smT]; assumption) | (simp only [smT]; omega)) ?_ | refine Eqv.mk (by kernel_rfl) ?_ | refine Apd.mk (by first | rfl | simp) (by first | rfl | simp) (by (try simp only [smT]); first | omega | (simp; omega)) (by unfold maxLen; first | (simp; done) | (simp; omega) | omega) ?_ | refine Raw.capNil (T := tt) rfl rfl rfl rfl ?_ | refine Raw.sliceNil (T := tt) rfl rfl (by first | rfl | omega | (simp; done)) rfl rfl rfl rfl ?_ | refine Raw.makeMap (T := tt) rfl rfl rfl rfl rfl rfl (.inl rfl) rfl rfl ?_ | refine Raw.mapUpdate (T := tt) (.inl rfl) rfl rfl rfl rfl rfl rfl rfl rfl rfl rfl rfl (by assumption) ?_ | refine Pm.mk (by first | assumption | omega | (simp; done) | (simp; omega)) (by first | assumption | omega | (simp; done) | (simp; omega)) ?_ | (refine Raw.appendR (T := tt) ?_; (conv => whnf); first | refine Ix_at rfl hd ?_ | refine Rw.lit rfl ?_ | refine Rw.self (by (try simp only [smT]); omega) ?_ | refine Rw.map (by (try simp only [smT]); omega) ?_) | refine Raw.appendIn (T := tt) rfl rfl rfl rfl rfl rfl rfl rfl rfl rfl (by (try simp only [smT]); omega) (by (try simp only [smT]); omega) ?_ | refine Raw.clear (T := tt) rfl rfl rfl rfl rfl rfl rfl (by (try simp only [smT]); omega) ?_ | refine Slc.mk ⟨_, _, rfl, rfl, (by (try simp only [smT]); omega), (by (try simp only [smT]); omega), ?_⟩ | refine Slc.mk ⟨0, _, rfl, rfl, (by (try simp only [smT]); omega), (by (try simp only [smT]); omega), ?_⟩ | refine Slc.mk ⟨1, _, rfl, rfl, (by (try simp only [smT]); omega), (by (try simp only [smT]); omega), ?_⟩ | refine Slc3.mk ⟨_, _, _, rfl, rfl, rfl, (by (try simp only [smT]); omega), (by (try simp only [smT]); omega), (by (try simp only [smT]); omega)⟩ ?_ | refine Drw.of (T := tt) (i := 17) [] [] [(0, true), (1, true), (2, true), (3, true), (4, true), (5, true), (6, true), (7, true), (8, true), (9, true), (10, true), (11, true), (12, true), (13, true), (14, true), (15, true)] (by kernel_rfl) ?_ | refine Drw.ofF (T := tt) (i := 22) [10, 11, 12, 13] [0, 1, 2, 3, 4] [(0, true), (1, true), (2, true), (3, true), (4, true), (5, true), (6, true), (7, true), (8, true), (9, true), (10, false), (11, false), (12, false), (13, false)] (by kernel_rfl) ?_ | refine Drw.ofP (T := tt) (i := 22) [10, 11, 12, 13] [0, 1, 2, 3, 4, 5, 6, 7, 8, 9] [0, 1, 2, 3, 4, 5, 6, 7, 8, 9] (OT.alt 10 (OT.alt 11 (OT.alt 12 (OT.alt 13 OT.nil OT.nil) OT.nil) OT.nil) OT.nil) (by kernel_rfl) ?_ | refine Drw.of (T := tt) (i := 29) [] [] [(0, true), (1, true), (2, true), (3, true), (4, true), (5, true), (6, true), (7, true), (8, true)] (by kernel_rfl) ?_ | (refine CL.mk (Or.inl ?_); (conv => whnf); first | refine Cl.is (hnm) rfl (by first | exact fun _ => rfl | (intro e; cases e; done) | fail) ?_) | (refine CL.mk (Or.inl ?_); (conv => whnf); refine ClO.mk (Or.inl ?_); (repeat ((conv => whnf); refine Len.mk (by first | rfl | (simp; done) | (simp only [smT]; assumption) | (simp only [smT]; omega)) ?_)); (conv => whnf); first | refine Cl.is (hnm) rfl (by first | exact fun _ => rfl | (intro e; cases e; done) | fail) ?_) | (refine CL.mk (Or.inl ?_); (conv => whnf); refine ClO.mk (Or.inr ?_); (repeat ((conv => whnf); refine Len.mk (by first | rfl | (simp; done) | (simp only [smT]; assumption) | (simp only [smT]; omega)) ?_)); (conv => whnf); first | refine Cl.is (hnm) rfl (by first | exact fun _ => rfl | (intro e; cases e; done) | fail) ?_))
        all_goals (conv => whnf)
        refine ⟨⟨Nat, fun k => k ≤ l.length ∧ freeU d (l.take k), fun k => l.length - k, fun k => ⟨[(0, .d (.u (uns l))), (1, .d (.u (strs' ns))), (5, .d (.ow 905 log.length)), (7, .d (.ow 907 i)), (8, di i), (9, di k)], [logA log, stA (ns.take i)]⟩, 0, ⟨Nat.zero_le _, fun u hu => by simp at hu⟩, ⟨[(905, .k 905), (907, .k 907)], ⟨by (try dsimp only); (repeat (refine LeT.cons rfl (by first | exact LeS.d (by first | exact LeD.u rfl | exact LeD.p rfl | exact LeD.ow rfl rfl | exact LeD.ow rfl (by simp [hmn]) | exact LeD.no rfl rfl | exact LeD.nl (by first | rfl | simp [hmn]) | exact LeD.u (by simp [hmn]; done) | exact LeD.u (by congr 1; omega) | exact LeD.q rfl | exact LeD.r rfl | exact LeD.r (by simp [hmn]; done) | exact LeD.re | exact LeD.mp rfl | exact LeD.ows rfl rfl rfl | exact LeD.u (by congr 1; congr 1; simp) | exact LeD.fn (by repeat (first | exact LeN.nil | refine LeN.cons rfl ?_))) | exact LeS.a (by repeat (first | exact LeL.nil | refine LeL.cons (by first | exact LeD.u rfl | exact LeD.p rfl | exact LeD.ow rfl rfl | exact LeD.ow rfl (by simp [hmn]) | exact LeD.no rfl rfl | exact LeD.nl (by first | rfl | simp [hmn]) | exact LeD.u (by simp [hmn]; done) | exact LeD.u (by congr 1; omega) | exact LeD.q rfl | exact LeD.r rfl | exact LeD.r (by simp [hmn]; done) | exact LeD.re | exact LeD.mp rfl | exact LeD.ows rfl rfl rfl | exact LeD.u (by congr 1; congr 1; simp) | exact LeD.fn (by repeat (first | exact LeN.nil | refine LeN.cons rfl ?_))) ?_))) ?_)); exact LeT.nil, by (try dsimp only); repeat (first | exact LeO.nil | refine LeO.bx rfl rfl (by repeat (first | exact LeL.nil | refine LeL.cons (by first | exact LeD.u rfl | exact LeD.p rfl | exact LeD.ow rfl rfl | exact LeD.ow rfl (by simp [hmn]) | exact LeD.no rfl rfl | exact LeD.nl (by first | rfl | simp [hmn]) | exact LeD.u (by simp [hmn]; done) | exact LeD.u (by congr 1; omega) | exact LeD.q rfl | exact LeD.r rfl | exact LeD.r (by simp [hmn]; done) | exact LeD.re | exact LeD.mp rfl | exact LeD.ows rfl rfl rfl | exact LeD.u (by congr 1; congr 1; simp) | exact LeD.fn (by repeat (first | exact LeN.nil | refine LeN.cons rfl ?_))) ?_)) ?_ | refine LeO.ar rfl rfl (by first | rfl | simp [hmn]) ?_ | refine LeO.fm rfl (by first | rfl | simp [hmn]) ?_ | refine LeO.mp rfl rfl (by first | rfl | simp [hmn]) ?_ | refine LeO.no rfl rfl ?_)⟩⟩, fun k hx => ?_⟩⟩
        obtain ⟨hk, hno2⟩ := hx
        dsimp only at hk hno2 ⊢
        by_cases h8 : k < l.length
        · obtain ⟨⟨un, us⟩, hu⟩ : ∃ u, l[k]? = some u := ⟨_, List.getElem?_eq_getElem h8⟩
          have hus := hb2 _ (List.mem_of_getElem? hu)
          dsimp only at hus
          repeat' ((conv => whnf); first | refine Gs.id ?_ | with_reducible refine And.intro ?_ ?_ | with_reducible refine Brn.T rfl ?_ | with_reducible refine Brn.F rfl ?_ | refine Brn.T (by (try simp only [smT]); first | rfl | assumption | omega | (simp only [*]; done) | (simp [*]; done) | fail) ?_ | refine Brn.F (by (try simp only [smT]); first | rfl | assumption | omega | (simp only [*]; done) | (simp [*]; done) | fail) ?_ | (refine Brn.mk (fun hb => ?_) (fun hb => ?_) <;> (try simp only [smT] at hb) <;> (try (exact absurd trivial hb)) <;> (try (exfalso; omega))) | (refine Bnd.mk (fun hm => ?_); (try simp only [smT] at hm)) | refine Rng.mk (by (try simp only [smT]); omega) ?_ | refine Ix.map rfl (by (try simp only [smT]); omega) ?_ | refine Ix.map (m := 0) rfl (by (try simp only [smT]); omega) ?_ | refine Ix.lit (m := 0) rfl rfl ?_ | refine Ixo.mk ⟨_, rfl, (by (try simp only [smT]); omega), ?_⟩ | refine Rw.lit rfl ?_ | refine Rw.self (by (try simp only [smT]); omega) ?_ | refine Rw.map (by (try simp only [smT]); omega) ?_ | refine Len.mk (by first | rfl | (simp; done) | (simp only [smT]; assumption) | (simp only [smT]; omega)) ?_ | refine Eqv.mk (by kernel_rfl) ?_ | refine Apd.mk (by first | rfl | simp) (by first | rfl | simp) (by (try simp only [smT]); first | omega | (simp; omega)) (by unfold maxLen; first | (simp; done) | (simp; omega) | omega) ?_ | refine Raw.capNil (T := tt) rfl rfl rfl rfl ?_ | refine Raw.sliceNil (T := tt) rfl rfl (by first | rfl | omega | (simp; done)) rfl rfl rfl rfl ?_ | refine Raw.makeMap (T := tt) rfl rfl rfl rfl rfl rfl (.inl rfl) rfl rfl ?_ | refine Raw.mapUpdate (T := tt) (.inl rfl) rfl rfl rfl rfl rfl rfl rfl rfl rfl rfl rfl (by assumption) ?_ | refine Pm.mk (by first | assumption | omega | (simp; done) | (simp; omega)) (by first | assumption | omega | (simp; done) | (simp; omega)) ?_ | (refine Raw.appendR (T := tt) ?_; (conv => whnf); first | refine Rw.lit rfl ?_ | refine Rw.self (by (try simp only [smT]); omega) ?_ | refine Rw.map (by (try simp only [smT]); omega) ?_) | refine Raw.appendIn (T := tt) rfl rfl rfl rfl rfl rfl rfl rfl rfl rfl (by (try simp only [smT]); omega) (by (try simp only [smT]); omega) ?_ | refine Raw.clear (T := tt) rfl rfl rfl rfl rfl rfl rfl (by (try simp only [smT]); omega) ?_ | refine Slc.mk ⟨_, _, rfl, rfl, (by (try simp only [smT]); omega), (by (try simp only [smT]); omega), ?_⟩ | refine Slc.mk ⟨0, _, rfl, rfl, (by (try simp only [smT]); omega), (by (try simp only [smT]); omega), ?_⟩ | refine Slc.mk ⟨1, _, rfl, rfl, (by (try simp only [smT]); omega), (by (try simp only [smT]); omega), ?_⟩ | refine Slc3.mk ⟨_, _, _, rfl, rfl, rfl, (by (try simp only [smT]); omega), (by (try simp only [smT]); omega), (by (try simp only [smT]); omega)⟩ ?_ | refine Drw.of (T := tt) (i := 17) [] [] [(0, true), (1, true), (2, true), (3, true), (4, true), (5, true), (6, true), (7, true), (8, true), (9, true), (10, true), (11, true), (12, true), (13, true), (14, true), (15, true)] (by kernel_rfl) ?_ | refine Drw.ofF (T := tt) (i := 22) [10, 11, 12, 13] [0, 1, 2, 3, 4] [(0, true), (1, true), (2, true), (3, true), (4, true), (5, true), (6, true), (7, true), (8, true), (9, true), (10, false), (11, false), (12, false), (13, false)] (by kernel_rfl) ?_ | refine Drw.ofP (T := tt) (i := 22) [10, 11, 12, 13] [0, 1, 2, 3, 4, 5, 6, 7, 8, 9] [0, 1, 2, 3, 4, 5, 6, 7, 8, 9] (OT.alt 10 (OT.alt 11 (OT.alt 12 (OT.alt 13 OT.nil OT.nil) OT.nil) OT.nil) OT.nil) (by kernel_rfl) ?_ | refine Drw.of (T := tt) (i := 29) [] [] [(0, true), (1, true), (2, true), (3, true), (4, true), (5, true), (6, true), (7, true), (8, true)] (by kernel_rfl) ?_)
          all_goals (conv => whnf)
          refine ⟨⟨Nat, fun j => j ≤ us.length ∧ freeS d (us.take j), fun j => us.length - j, fun j => ⟨[(0, .d (.u (uns l))), (1, .d (.u (strs' ns))), (5, .d (.ow 905 log.length)), (7, .d (.ow 907 i)), (8, di i), (9, di k), (10, di j)], [logA log, stA (ns.take i)]⟩, 0, ⟨Nat.zero_le _, fun u hu => by simp at hu⟩, ⟨[(905, .k 905), (907, .k 907)], ⟨by (try dsimp only); (repeat (refine LeT.cons rfl (by first | exact LeS.d (by first | exact LeD.u rfl | exact LeD.p rfl | exact LeD.ow rfl rfl | exact LeD.ow rfl (by simp) | exact LeD.no rfl rfl | exact LeD.nl (by first | rfl | simp) | exact LeD.u (by simp; done) | exact LeD.u (by congr 1; omega) | exact LeD.q rfl | exact LeD.r rfl | exact LeD.r (by simp; done) | exact LeD.re | exact LeD.mp rfl | exact LeD.ows rfl rfl rfl | exact LeD.u (by congr 1; congr 1; simp) | exact LeD.fn (by repeat (first | exact LeN.nil | refine LeN.cons rfl ?_))) | exact LeS.a (by repeat (first | exact LeL.nil | refine LeL.cons (by first | exact LeD.u rfl | exact LeD.p rfl | exact LeD.ow rfl rfl | exact LeD.ow rfl (by simp) | exact LeD.no rfl rfl | exact LeD.nl (by first | rfl | simp) | exact LeD.u (by simp; done) | exact LeD.u (by congr 1; omega) | exact LeD.q rfl | exact LeD.r rfl | exact LeD.r (by simp; done) | exact LeD.re | exact LeD.mp rfl | exact LeD.ows rfl rfl rfl | exact LeD.u (by congr 1; congr 1; simp) | exact LeD.fn (by repeat (first | exact LeN.nil | refine LeN.cons rfl ?_))) ?_))) ?_)); exact LeT.nil, by (try dsimp only); repeat (first | exact LeO.nil | refine LeO.bx rfl rfl (by repeat (first | exact LeL.nil | refine LeL.cons (by first | exact LeD.u rfl | exact LeD.p rfl | exact LeD.ow rfl rfl | exact LeD.ow rfl (by simp) | exact LeD.no rfl rfl | exact LeD.nl (by first | rfl | simp) | exact LeD.u (by simp; done) | exact LeD.u (by congr 1; omega) | exact LeD.q rfl | exact LeD.r rfl | exact LeD.r (by simp; done) | exact LeD.re | exact LeD.mp rfl | exact LeD.ows rfl rfl rfl | exact LeD.u (by congr 1; congr 1; simp) | exact LeD.fn (by repeat (first | exact LeN.nil | refine LeN.cons rfl ?_))) ?_)) ?_ | refine LeO.ar rfl rfl (by first | rfl | simp) ?_ | refine LeO.fm rfl (by first | rfl | simp) ?_ | refine LeO.mp rfl rfl (by first | rfl | simp) ?_ | refine LeO.no rfl rfl ?_)⟩⟩, fun j hx => ?_⟩⟩
          obtain ⟨hj, hno3⟩ := hx
          dsimp only at hj hno3 ⊢
          by_cases h7 : j < us.length
          · obtain ⟨⟨tk, tn, tp⟩, ht⟩ : ∃ t, us[j]? = some t := ⟨_, List.getElem?_eq_getElem h7⟩
            have e1 : (tn.toList == d.toList) = decide (tn = d) := toList_beq tn d
            have e2 : (tp.toList == d.toList) = decide (tp = d) := toList_beq tp d
            by_cases hq : tn = d ∨ tp = d
            · repeat' ((conv => whnf); first | refine Ix_at rfl hd ?_ | refine Ix_un rfl hu ?_ | refine Ix_st rfl ht ?_ | refine Gs.id ?_ | with_reducible refine And.intro ?_ ?_ | with_reducible refine Brn.T rfl ?_ | with_reducible refine Brn.F rfl ?_ | refine Brn.T (by (try simp only [smT]); first | rfl | assumption | omega | (simp only [*]; done) | (simp [*]; done) | fail) ?_ | refine Brn.F (by (try simp only [smT]); first | rfl | assumption | omega | (simp only [*]; done) | (simp [*]; done) | fail) ?_ | (refine Brn.mk (fun hb => ?_) (fun hb => ?_) <;> (try simp only [smT] at hb) <;> (try (exact absurd trivial hb)) <;> (try (exfalso; omega))) | (refine Bnd.mk (fun hm => ?_); (try simp only [smT] at hm)) | refine Rng.mk (by (try simp only [smT]); omega) ?_ | refine Ix.map rfl (by (try simp only [smT]); omega) ?_ | refine Ix.map (m := 0) rfl (by (try simp only [smT]); omega) ?_ | refine Ix.lit (m := 0) rfl rfl ?_ | refine Ixo.mk ⟨_, rfl, (by (try simp only [smT]); omega), ?_⟩ | refine Rw.lit rfl ?_ | refine Rw.self (by (try simp only [smT]); omega) ?_ | refine Rw.map (by (try simp only [smT]); omega) ?_ | refine Len.mk (by first | rfl | (simp; done) | (simp only [smT]; assumption) | (simp only [smT]; omega)) ?_ | refine Eqv.mk (by kernel_rfl) ?_ | refine Apd.mk (by first | rfl | simp) (by first | rfl | simp) (by (try simp only [smT]); first | omega | (simp; omega)) (by unfold maxLen; first | (simp; done) | (simp; omega) | omega) ?_ | refine Raw.capNil (T := tt) rfl rfl rfl rfl ?_ | refine Raw.sliceNil (T := tt) rfl rfl (by first | rfl | omega | (simp; done)) rfl rfl rfl rfl ?_ | refine Raw.makeMap (T := tt) rfl rfl rfl rfl rfl rfl (.inl rfl) rfl rfl ?_ | refine Raw.mapUpdate (T := tt) (.inl rfl) rfl rfl rfl rfl rfl rfl rfl rfl rfl rfl rfl (by assumption) ?_ | refine Pm.mk (by first | assumption | omega | (simp; done) | (simp; omega)) (by first | assumption | omega | (simp; done) | (simp; omega)) ?_ | (refine Raw.appendR (T := tt) ?_; (conv => whnf); first | refine Ix_at rfl hd ?_ | refine Ix_un rfl hu ?_ | refine Ix_st rfl ht ?_ | refine Rw.lit rfl ?_ | refine Rw.self (by (try simp only [smT]); omega) ?_ | refine Rw.map (by (try simp only [smT]); omega) ?_) | refine Raw.appendIn (T := tt) rfl rfl rfl rfl rfl rfl rfl rfl rfl rfl (by (try simp only [smT]); omega) (by (try simp only [smT]); omega) ?_ | refine Raw.clear (T := tt) rfl rfl rfl rfl rfl rfl rfl (by (try simp only [smT]); omega) ?_ | refine Slc.mk ⟨_, _, rfl, rfl, (by (try simp only [smT]); omega), (by (try simp only [smT]); omega), ?_⟩ | refine Slc.mk ⟨0, _, rfl, rfl, (by (try simp only [smT]); omega), (by (try simp only [smT]); omega), ?_⟩ | refine Slc.mk ⟨1, _, rfl, rfl, (by (try simp only [smT]); omega), (by (try simp only [smT]); omega), ?_⟩ | refine Slc3.mk ⟨_, _, _, rfl, rfl, rfl, (by (try simp only [smT]); omega), (by (try simp only [smT]); omega), (by (try simp only [smT]); omega)⟩ ?_ | refine Drw.of (T := tt) (i := 17) [] [] [(0, true), (1, true), (2, true), (3, true), (4, true), (5, true), (6, true), (7, true), (8, true), (9, true), (10, true), (11, true), (12, true), (13, true), (14, true), (15, true)] (by kernel_rfl) ?_ | refine Drw.ofF (T := tt) (i := 22) [10, 11, 12, 13] [0, 1, 2, 3, 4] [(0, true), (1, true), (2, true), (3, true), (4, true), (5, true), (6, true), (7, true), (8, true), (9, true), (10, false), (11, false), (12, false), (13, false)] (by kernel_rfl) ?_ | refine Drw.ofP (T := tt) (i := 22) [10, 11, 12, 13] [0, 1, 2, 3, 4, 5, 6, 7, 8, 9] [0, 1, 2, 3, 4, 5, 6, 7, 8, 9] (OT.alt 10 (OT.alt 11 (OT.alt 12 (OT.alt 13 OT.nil OT.nil) OT.nil) OT.nil) OT.nil) (by kernel_rfl) ?_ | refine Drw.of (T := tt) (i := 29) [] [] [(0, true), (1, true), (2, true), (3, true), (4, true), (5, true), (6, true), (7, true), (8, true)] (by kernel_rfl) ?_ | (refine CL.mk (Or.inl ?_); (conv => whnf); first | refine Cl.is (hi) rfl (by first | exact fun _ => rfl | (intro e; cases e; done) | fail) ?_) | (refine CL.mk (Or.inl ?_); (conv => whnf); refine ClO.mk (Or.inl ?_); (repeat ((conv => whnf); refine Len.mk (by first | rfl | (simp; done) | (simp only [smT]; assumption) | (simp only [smT]; omega)) ?_)); (conv => whnf); first | refine Cl.is (hi) rfl (by first | exact fun _ => rfl | (intro e; cases e; done) | fail) ?_) | (refine CL.mk (Or.inl ?_); (conv => whnf); refine ClO.mk (Or.inr ?_); (repeat ((conv => whnf); refine Len.mk (by first | rfl | (simp; done) | (simp only [smT]; assumption) | (simp only [smT]; omega)) ?_)); (conv => whnf); first | refine Cl.is (hi) rfl (by first | exact fun _ => rfl | (intro e; cases e; done) | fail) ?_))
              all_goals (conv => whnf)
              all_goals first | exact Ret.is rfl | (exfalso; simp_all; done)
            · have hq1 : ¬ tn = d := fun e => hq (.inl e)
              have hq2 : ¬ tp = d := fun e => hq (.inr e)
              rw [decide_eq_false hq1] at e1
              rw [decide_eq_false hq2] at e2
              repeat' ((conv => whnf); first | refine Ix_at rfl hd ?_ | refine Ix_un rfl hu ?_ | refine Ix_st rfl ht ?_ | refine Gs.id ?_ | with_reducible refine And.intro ?_ ?_ | with_reducible refine Brn.T rfl ?_ | with_reducible refine Brn.F rfl ?_ | refine Brn.T (by (try simp only [smT]); first | rfl | assumption | omega | (simp only [*]; done) | (simp [*]; done) | fail) ?_ | refine Brn.F (by (try simp only [smT]); first | rfl | assumption | omega | (simp only [*]; done) | (simp [*]; done) | fail) ?_ | (refine Brn.mk (fun hb => ?_) (fun hb => ?_) <;> (try simp only [smT] at hb) <;> (try (exact absurd trivial hb)) <;> (try (exfalso; omega))) | (refine Bnd.mk (fun hm => ?_); (try simp only [smT] at hm)) | refine Rng.mk (by (try simp only [smT]); omega) ?_ | refine Ix.map rfl (by (try simp only [smT]); omega) ?_ | refine Ix.map (m := 0) rfl (by (try simp only [smT]); omega) ?_ | refine Ix.lit (m := 0) rfl rfl ?_ | refine Ixo.mk ⟨_, rfl, (by (try simp only [smT]); omega), ?_⟩ | refine Rw.lit rfl ?_ | refine Rw.self (by (try simp only [smT]); omega) ?_ | refine Rw.map (by (try simp only [smT]); omega) ?_ | refine Len.mk (by first | rfl | (simp; done) | (simp only [smT]; assumption) | (simp only [smT]; omega)) ?_ | refine Eqv.mk (by kernel_rfl) ?_ | refine Apd.mk (by first | rfl | simp) (by first | rfl | simp) (by (try simp only [smT]); first | omega | (simp; omega)) (by unfold maxLen; first | (simp; done) | (simp; omega) | omega) ?_ | refine Raw.capNil (T := tt) rfl rfl rfl rfl ?_ | refine Raw.sliceNil (T := tt) rfl rfl (by first | rfl | omega | (simp; done)) rfl rfl rfl rfl ?_ | refine Raw.makeMap (T := tt) rfl rfl rfl rfl rfl rfl (.inl rfl) rfl rfl ?_ | refine Raw.mapUpdate (T := tt) (.inl rfl) rfl rfl rfl rfl rfl rfl rfl rfl rfl rfl rfl (by assumption) ?_ | refine Pm.mk (by first | assumption | omega | (simp; done) | (simp; omega)) (by first | assumption | omega | (simp; done) | (simp; omega)) ?_ | (refine Raw.appendR (T := tt) ?_; (conv => whnf); first | refine Ix_at rfl hd ?_ | refine Ix_un rfl hu ?_ | refine Ix_st rfl ht ?_ | refine Rw.lit rfl ?_ | refine Rw.self (by (try simp only [smT]); omega) ?_ | refine Rw.map (by (try simp only [smT]); omega) ?_) | refine Raw.appendIn (T := tt) rfl rfl rfl rfl rfl rfl rfl rfl rfl rfl (by (try simp only [smT]); omega) (by (try simp only [smT]); omega) ?_ | refine Raw.clear (T := tt) rfl rfl rfl rfl rfl rfl rfl (by (try simp only [smT]); omega) ?_ | refine Slc.mk ⟨_, _, rfl, rfl, (by (try simp only [smT]); omega), (by (try simp only [smT]); omega), ?_⟩ | refine Slc.mk ⟨0, _, rfl, rfl, (by (try simp only [smT]); omega), (by (try simp only [smT]); omega), ?_⟩ | refine Slc.mk ⟨1, _, rfl, rfl, (by (try simp only [smT]); omega), (by (try simp only [smT]); omega), ?_⟩ | refine Slc3.mk ⟨_, _, _, rfl, rfl, rfl, (by (try simp only [smT]); omega), (by (try simp only [smT]); omega), (by (try simp only [smT]); omega)⟩ ?_ | refine Drw.of (T := tt) (i := 17) [] [] [(0, true), (1, true), (2, true), (3, true), (4, true), (5, true), (6, true), (7, true), (8, true), (9, true), (10, true), (11, true), (12, true), (13, true), (14, true), (15, true)] (by kernel_rfl) ?_ | refine Drw.ofF (T := tt) (i := 22) [10, 11, 12, 13] [0, 1, 2, 3, 4] [(0, true), (1, true), (2, true), (3, true), (4, true), (5, true), (6, true), (7, true), (8, true), (9, true), (10, false), (11, false), (12, false), (13, false)] (by kernel_rfl) ?_ | refine Drw.ofP (T := tt) (i := 22) [10, 11, 12, 13] [0, 1, 2, 3, 4, 5, 6, 7, 8, 9] [0, 1, 2, 3, 4, 5, 6, 7, 8, 9] (OT.alt 10 (OT.alt 11 (OT.alt 12 (OT.alt 13 OT.nil OT.nil) OT.nil) OT.nil) OT.nil) (by kernel_rfl) ?_ | refine Drw.of (T := tt) (i := 29) [] [] [(0, true), (1, true), (2, true), (3, true), (4, true), (5, true), (6, true), (7, true), (8, true)] (by kernel_rfl) ?_)
              all_goals (conv => whnf)
              all_goals first | (exfalso; simp_all; done) | exact ⟨j + 1, ⟨by omega, fun t ht2 => by
                rw [List.take_add_one, ht] at ht2
                rcases List.mem_append.1 ht2 with ht2 | ht2
                · exact hno3 t ht2
                · simp at ht2; subst ht2; exact ⟨hq1, hq2⟩⟩, by omega, [(905, .k 905), (907, .k 907)], ⟨by (try dsimp only); (repeat (refine LeT.cons rfl (by first | exact LeS.d (by first | exact LeD.u rfl | exact LeD.p rfl | exact LeD.ow rfl rfl | exact LeD.ow rfl (by simp) | exact LeD.no rfl rfl | exact LeD.nl (by first | rfl | simp) | exact LeD.u (by simp; done) | exact LeD.u (by congr 1; omega) | exact LeD.q rfl | exact LeD.r rfl | exact LeD.r (by simp; done) | exact LeD.re | exact LeD.mp rfl | exact LeD.ows rfl rfl rfl | exact LeD.u (by congr 1; congr 1; simp) | exact LeD.fn (by repeat (first | exact LeN.nil | refine LeN.cons rfl ?_))) | exact LeS.a (by repeat (first | exact LeL.nil | refine LeL.cons (by first | exact LeD.u rfl | exact LeD.p rfl | exact LeD.ow rfl rfl | exact LeD.ow rfl (by simp) | exact LeD.no rfl rfl | exact LeD.nl (by first | rfl | simp) | exact LeD.u (by simp; done) | exact LeD.u (by congr 1; omega) | exact LeD.q rfl | exact LeD.r rfl | exact LeD.r (by simp; done) | exact LeD.re | exact LeD.mp rfl | exact LeD.ows rfl rfl rfl | exact LeD.u (by congr 1; congr 1; simp) | exact LeD.fn (by repeat (first | exact LeN.nil | refine LeN.cons rfl ?_))) ?_))) ?_)); exact LeT.nil, by (try dsimp only); repeat (first | exact LeO.nil | refine LeO.bx rfl rfl (by repeat (first | exact LeL.nil | refine LeL.cons (by first | exact LeD.u rfl | exact LeD.p rfl | exact LeD.ow rfl rfl | exact LeD.ow rfl (by simp) | exact LeD.no rfl rfl | exact LeD.nl (by first | rfl | simp) | exact LeD.u (by simp; done) | exact LeD.u (by congr 1; omega) | exact LeD.q rfl | exact LeD.r rfl | exact LeD.r (by simp; done) | exact LeD.re | exact LeD.mp rfl | exact LeD.ows rfl rfl rfl | exact LeD.u (by congr 1; congr 1; simp) | exact LeD.fn (by repeat (first | exact LeN.nil | refine LeN.cons rfl ?_))) ?_)) ?_ | refine LeO.ar rfl rfl (by first | rfl | simp) ?_ | refine LeO.fm rfl (by first | rfl | simp) ?_ | refine LeO.mp rfl rfl (by first | rfl | simp) ?_ | refine LeO.no rfl rfl ?_)⟩⟩
          · obtain rfl : j = us.length := by omega
            rw [List.take_length] at hno3
            repeat' ((conv => whnf); first | refine Ix_un rfl hu ?_ | refine Gs.id ?_ | with_reducible refine And.intro ?_ ?_ | with_reducible refine Brn.T rfl ?_ | with_reducible refine Brn.F rfl ?_ | refine Brn.T (by (try simp only [smT]); first | rfl | assumption | omega | (simp only [*]; done) | (simp [*]; done) | fail) ?_ | refine Brn.F (by (try simp only [smT]); first | rfl | assumption | omega | (simp only [*]; done) | (simp [*]; done) | fail) ?_ | (refine Brn.mk (fun hb => ?_) (fun hb => ?_) <;> (try simp only [smT] at hb) <;> (try (exact absurd trivial hb)) <;> (try (exfalso; omega))) | (refine Bnd.mk (fun hm => ?_); (try simp only [smT] at hm)) | refine Rng.mk (by (try simp only [smT]); omega) ?_ | refine Ix.map rfl (by (try simp only [smT]); omega) ?_ | refine Ix.map (m := 0) rfl (by (try simp only [smT]); omega) ?_ | refine Ix.lit (m := 0) rfl rfl ?_ | refine Ixo.mk ⟨_, rfl, (by (try simp only [smT]); omega), ?_⟩ | refine Rw.lit rfl ?_ | refine Rw.self (by (try simp only [smT]); omega) ?_ | refine Rw.map (by (try simp only [smT]); omega) ?_ | refine Len.mk (by first | rfl | (simp; done) | (simp only [smT]; assumption) | (simp only [smT]; omega)) ?_ | refine Eqv.mk (by kernel_rfl) ?_ | refine Apd.mk (by first | rfl | simp) (by first | rfl | simp) (by (try simp only [smT]); first | omega | (simp; omega)) (by unfold maxLen; first | (simp; done) | (simp; omega) | omega) ?_ | refine Raw.capNil (T := tt) rfl rfl rfl rfl ?_ | refine Raw.sliceNil (T := tt) rfl rfl (by first | rfl | omega | (simp; done)) rfl rfl rfl rfl ?_ | refine Raw.makeMap (T := tt) rfl rfl rfl rfl rfl rfl (.inl rfl) rfl rfl ?_ | refine Raw.mapUpdate (T := tt) (.inl rfl) rfl rfl rfl rfl rfl rfl rfl rfl rfl rfl rfl (by assumption) ?_ | refine Pm.mk (by first | assumption | omega | (simp; done) | (simp; omega)) (by first | assumption | omega | (simp; done) | (simp; omega)) ?_ | (refine Raw.appendR (T := tt) ?_; (conv => whnf); first | refine Ix_un rfl hu ?_ | refine Rw.lit rfl ?_ | refine Rw.self (by (try simp only [smT]); omega) ?_ | refine Rw.map (by (try simp only [smT]); omega) ?_) | refine Raw.appendIn (T := tt) rfl rfl rfl rfl rfl rfl rfl rfl rfl rfl (by (try simp only [smT]); omega) (by (try simp only [smT]); omega) ?_ | refine Raw.clear (T := tt) rfl rfl rfl rfl rfl rfl rfl (by (try simp only [smT]); omega) ?_ | refine Slc.mk ⟨_, _, rfl, rfl, (by (try simp only [smT]); omega), (by (try simp only [smT]); omega), ?_⟩ | refine Slc.mk ⟨0, _, rfl, rfl, (by (try simp only [smT]); omega), (by (try simp only [smT]); omega), ?_⟩ | refine Slc.mk ⟨1, _, rfl, rfl, (by (try simp only [smT]); omega), (by (try simp only [smT]); omega), ?_⟩ | refine Slc3.mk ⟨_, _, _, rfl, rfl, rfl, (by (try simp only [smT]); omega), (by (try simp only [smT]); omega), (by (try simp only [smT]); omega)⟩ ?_ | refine Drw.of (T := tt) (i := 17) [] [] [(0, true), (1, true), (2, true), (3, true), (4, true), (5, true), (6, true), (7, true), (8, true), (9, true), (10, true), (11, true), (12, true), (13, true), (14, true), (15, true)] (by kernel_rfl) ?_ | refine Drw.ofF (T := tt) (i := 22) [10, 11, 12, 13] [0, 1, 2, 3, 4] [(0, true), (1, true), (2, true), (3, true), (4, true), (5, true), (6, true), (7, true), (8, true), (9, true), (10, false), (11, false), (12, false), (13, false)] (by kernel_rfl) ?_ | refine Drw.ofP (T := tt) (i := 22) [10, 11, 12, 13] [0, 1, 2, 3, 4, 5, 6, 7, 8, 9] [0, 1, 2, 3, 4, 5, 6, 7, 8, 9] (OT.alt 10 (OT.alt 11 (OT.alt 12 (OT.alt 13 OT.nil OT.nil) OT.nil) OT.nil) OT.nil) (by kernel_rfl) ?_ | refine Drw.of (T := tt) (i := 29) [] [] [(0, true), (1, true), (2, true), (3, true), (4, true), (5, true), (6, true), (7, true), (8, true)] (by kernel_rfl) ?_)
            all_goals (conv => whnf)
            all_goals exact ⟨k + 1, ⟨by omega, fun u hu2 => by
              rw [List.take_add_one, hu] at hu2
              rcases List.mem_append.1 hu2 with hu2 | hu2
              · exact hno2 u hu2
              · simp at hu2; subst hu2; exact hno3⟩, by omega, [(905, .k 905), (907, .k 907)], ⟨by (try dsimp only); (repeat (refine LeT.cons rfl (by first | exact LeS.d (by first | exact LeD.u rfl | exact LeD.p rfl | exact LeD.ow rfl rfl | exact LeD.ow rfl (by simp) | exact LeD.no rfl rfl | exact LeD.nl (by first | rfl | simp) | exact LeD.u (by simp; done) | exact LeD.u (by congr 1; omega) | exact LeD.q rfl | exact LeD.r rfl | exact LeD.r (by simp; done) | exact LeD.re | exact LeD.mp rfl | exact LeD.ows rfl rfl rfl | exact LeD.u (by congr 1; congr 1; simp) | exact LeD.fn (by repeat (first | exact LeN.nil | refine LeN.cons rfl ?_))) | exact LeS.a (by repeat (first | exact LeL.nil | refine LeL.cons (by first | exact LeD.u rfl | exact LeD.p rfl | exact LeD.ow rfl rfl | exact LeD.ow rfl (by simp) | exact LeD.no rfl rfl | exact LeD.nl (by first | rfl | simp) | exact LeD.u (by simp; done) | exact LeD.u (by congr 1; omega) | exact LeD.q rfl | exact LeD.r rfl | exact LeD.r (by simp; done) | exact LeD.re | exact LeD.mp rfl | exact LeD.ows rfl rfl rfl | exact LeD.u (by congr 1; congr 1; simp) | exact LeD.fn (by repeat (first | exact LeN.nil | refine LeN.cons rfl ?_))) ?_))) ?_)); exact LeT.nil, by (try dsimp only); repeat (first | exact LeO.nil | refine LeO.bx rfl rfl (by repeat (first | exact LeL.nil | refine LeL.cons (by first | exact LeD.u rfl | exact LeD.p rfl | exact LeD.ow rfl rfl | exact LeD.ow rfl (by simp) | exact LeD.no rfl rfl | exact LeD.nl (by first | rfl | simp) | exact LeD.u (by simp; done) | exact LeD.u (by congr 1; omega) | exact LeD.q rfl | exact LeD.r rfl | exact LeD.r (by simp; done) | exact LeD.re | exact LeD.mp rfl | exact LeD.ows rfl rfl rfl | exact LeD.u (by congr 1; congr 1; simp) | exact LeD.fn (by repeat (first | exact LeN.nil | refine LeN.cons rfl ?_))) ?_)) ?_ | refine LeO.ar rfl rfl (by first | rfl | simp) ?_ | refine LeO.fm rfl (by first | rfl | simp) ?_ | refine LeO.mp rfl rfl (by first | rfl | simp) ?_ | refine LeO.no rfl rfl ?_)⟩⟩
        · obtain rfl : k = l.length := by omega
          rw [List.take_length] at hno2
          repeat' ((conv => whnf); first | refine Ix_at rfl hd ?_ | refine Apd.mk (by simp [hmn]) (by simp) (by simp [hmn]; omega) (by unfold maxLen; simp [hmn]; omega) ?_ | refine Gs.id ?_ | with_reducible refine And.intro ?_ ?_ | with_reducible refine Brn.T rfl ?_ | with_reducible refine Brn.F rfl ?_ | refine Brn.T (by (try simp only [smT]); first | rfl | assumption | omega | (simp only [*]; done) | (simp [*]; done) | fail) ?_ | refine Brn.F (by (try simp only [smT]); first | rfl | assumption | omega | (simp only [*]; done) | (simp [*]; done) | fail) ?_ | (refine Brn.mk (fun hb => ?_) (fun hb => ?_) <;> (try simp only [smT] at hb) <;> (try (exact absurd trivial hb)) <;> (try (exfalso; omega))) | (refine Bnd.mk (fun hm => ?_); (try simp only [smT] at hm)) | refine Rng.mk (by (try simp only [smT]); omega) ?_ | refine Ix.map rfl (by (try simp only [smT]); omega) ?_ | refine Ix.map (m := 0) rfl (by (try simp only [smT]); omega) ?_ | refine Ix.lit (m := 0) rfl rfl ?_ | refine Ixo.mk ⟨_, rfl, (by (try simp only [smT]); omega), ?_⟩ | refine Rw.lit rfl ?_ | refine Rw.self (by (try simp only [smT]); omega) ?_ | refine Rw.map (by (try simp only [smT]); omega) ?_ | refine Len.mk (by first | rfl | (simp; done) | (simp only [smT]; assumption) | (simp only [smT]; omega)) ?_ | refine Eqv.mk (by kernel_rfl) ?_ | refine Apd.mk (by first | rfl | simp) (by first | rfl | simp) (by (try simp only [smT]); first | omega | (simp; omega)) (by unfold maxLen; first | (simp; done) | (simp; omega) | omega) ?_ | refine Raw.capNil (T := tt) rfl rfl rfl rfl ?_ | refine Raw.sliceNil (T := tt) rfl rfl (by first | rfl | omega | (simp; done)) rfl rfl rfl rfl ?_ | refine Raw.makeMap (T := tt) rfl rfl rfl rfl rfl rfl (.inl rfl) rfl rfl ?_ | refine Raw.mapUpdate (T := tt) (.inl rfl) rfl rfl rfl rfl rfl rfl rfl rfl rfl rfl rfl (by assumption) ?_ | refine Pm.mk (by first | assumption | omega | (simp; done) | (simp; omega)) (by first | assumption | omega | (simp; done) | (simp; omega)) ?_ | (refine Raw.appendR (T := tt) ?_; (conv => whnf); first | refine Ix_at rfl hd ?_ | refine Apd.mk (by simp [hmn]) (by simp) (by simp [hmn]; omega) (by unfold maxLen; simp [hmn]; omega) ?_ | refine Rw.lit rfl ?_ | refine Rw.self (by (try simp only [smT]); omega) ?_ | refine Rw.map (by (try simp only [smT]); omega) ?_) | refine Raw.appendIn (T := tt) rfl rfl rfl rfl rfl rfl rfl rfl rfl rfl (by (try simp only [smT]); omega) (by (try simp only [smT]); omega) ?_ | refine Raw.clear (T := tt) rfl rfl rfl rfl rfl rfl rfl (by (try simp only [smT]); omega) ?_ | refine Slc.mk ⟨_, _, rfl, rfl, (by (try simp only [smT]); omega), (by (try simp only [smT]); omega), ?_⟩ | refine Slc.mk ⟨0, _, rfl, rfl, (by (try simp only [smT]); omega), (by (try simp only [smT]); omega), ?_⟩ | refine Slc.mk ⟨1, _, rfl, rfl, (by (try simp only [smT]); omega), (by (try simp only [smT]); omega), ?_⟩ | refine Slc3.mk ⟨_, _, _, rfl, rfl, rfl, (by (try simp only [smT]); omega), (by (try simp only [smT]); omega), (by (try simp only [smT]); omega)⟩ ?_ | refine Drw.of (T := tt) (i := 17) [] [] [(0, true), (1, true), (2, true), (3, true), (4, true), (5, true), (6, true), (7, true), (8, true), (9, true), (10, true), (11, true), (12, true), (13, true), (14, true), (15, true)] (by kernel_rfl) ?_ | refine Drw.ofF (T := tt) (i := 22) [10, 11, 12, 13] [0, 1, 2, 3, 4] [(0, true), (1, true), (2, true), (3, true), (4, true), (5, true), (6, true), (7, true), (8, true), (9, true), (10, false), (11, false), (12, false), (13, false)] (by kernel_rfl) ?_ | refine Drw.ofP (T := tt) (i := 22) [10, 11, 12, 13] [0, 1, 2, 3, 4, 5, 6, 7, 8, 9] [0, 1, 2, 3, 4, 5, 6, 7, 8, 9] (OT.alt 10 (OT.alt 11 (OT.alt 12 (OT.alt 13 OT.nil OT.nil) OT.nil) OT.nil) OT.nil) (by kernel_rfl) ?_ | refine Drw.of (T := tt) (i := 29) [] [] [(0, true), (1, true), (2, true), (3, true), (4, true), (5, true), (6, true), (7, true), (8, true)] (by kernel_rfl) ?_)
          all_goals (conv => whnf)
          all_goals exact ⟨i + 1, ⟨by omega, fun x hx => by
            rw [htk] at hx
            rcases List.mem_append.1 hx with hx | hx
            · exact hno x hx
            · simp at hx; subst hx; exact ⟨hdn, hno2⟩⟩, by omega, [(905, .k 905), (907, .k 99)], ⟨by (try dsimp only); (repeat (refine LeT.cons rfl (by first | exact LeS.d (by first | exact LeD.u rfl | exact LeD.p rfl | exact LeD.ow rfl rfl | exact LeD.ow rfl (by simp [htk, hmn]) | exact LeD.no rfl rfl | exact LeD.nl (by first | rfl | simp [htk, hmn]) | exact LeD.u (by simp [htk, hmn]; done) | exact LeD.u (by congr 1; omega) | exact LeD.q rfl | exact LeD.r rfl | exact LeD.r (by simp [htk, hmn]; done) | exact LeD.re | exact LeD.mp rfl | exact LeD.ows rfl rfl rfl | exact LeD.u (by congr 1; congr 1; simp) | exact LeD.fn (by repeat (first | exact LeN.nil | refine LeN.cons rfl ?_))) | exact LeS.a (by repeat (first | exact LeL.nil | refine LeL.cons (by first | exact LeD.u rfl | exact LeD.p rfl | exact LeD.ow rfl rfl | exact LeD.ow rfl (by simp [htk, hmn]) | exact LeD.no rfl rfl | exact LeD.nl (by first | rfl | simp [htk, hmn]) | exact LeD.u (by simp [htk, hmn]; done) | exact LeD.u (by congr 1; omega) | exact LeD.q rfl | exact LeD.r rfl | exact LeD.r (by simp [htk, hmn]; done) | exact LeD.re | exact LeD.mp rfl | exact LeD.ows rfl rfl rfl | exact LeD.u (by congr 1; congr 1; simp) | exact LeD.fn (by repeat (first | exact LeN.nil | refine LeN.cons rfl ?_))) ?_))) ?_)); exact LeT.nil, by (try dsimp only); repeat (first | exact LeO.nil | refine LeO.bx rfl rfl (by repeat (first | exact LeL.nil | refine LeL.cons (by first | exact LeD.u rfl | exact LeD.p rfl | exact LeD.ow rfl rfl | exact LeD.ow rfl (by simp [htk, hmn]) | exact LeD.no rfl rfl | exact LeD.nl (by first | rfl | simp [htk, hmn]) | exact LeD.u (by simp [htk, hmn]; done) | exact LeD.u (by congr 1; omega) | exact LeD.q rfl | exact LeD.r rfl | exact LeD.r (by simp [htk, hmn]; done) | exact LeD.re | exact LeD.mp rfl | exact LeD.ows rfl rfl rfl | exact LeD.u (by congr 1; congr 1; simp) | exact LeD.fn (by repeat (first | exact LeN.nil | refine LeN.cons rfl ?_))) ?_)) ?_ | refine LeO.ar rfl rfl (by first | rfl | simp [htk, hmn]) ?_ | refine LeO.fm rfl (by first | rfl | simp [htk, hmn]) ?_ | refine LeO.mp rfl rfl (by first | rfl | simp [htk, hmn]) ?_ | refine LeO.no rfl rfl ?_)⟩⟩
      · obtain rfl : i = ns.length := by omega
        rw [List.take_length] at hno
        rw [List.take_length]
        have hl2 := hsame (fun d hd => (hno d hd).1) h5 h25 fun u hu t ht d hd => (hno d hd).2 u hu t ht
        repeat' ((conv => whnf); first | refine Ix_un rfl hu0 ?_ | refine Raw.ghost (Ghost.frzA 113 rfl (by repeat ((conv => whnf); first | exact trivial | refine Len.mk (by first | rfl | simp) ?_))) (Raw.store ?_) | refine Rw_un0 hu0 ?_ | refine Gs.go (i := 23) ((Ghost.frzA 905 rfl (by repeat ((conv => whnf); first | exact trivial | refine Len.mk (by first | rfl | simp) ?_))).trans (Ghost.frzA 102 rfl (by repeat ((conv => whnf); first | exact trivial | refine Len.mk (by first | rfl | simp) ?_)))) ?_ | refine Drw.ghost (i := 23) ((Ghost.frzA 905 rfl (by repeat ((conv => whnf); first | exact trivial | refine Len.mk (by first | rfl | simp) ?_))).trans (Ghost.frzA 102 rfl (by repeat ((conv => whnf); first | exact trivial | refine Len.mk (by first | rfl | simp) ?_)))) ?_ | refine Gs.id ?_ | with_reducible refine And.intro ?_ ?_ | with_reducible refine Brn.T rfl ?_ | with_reducible refine Brn.F rfl ?_ | refine Brn.T (by (try simp only [smT]); first | rfl | assumption | omega | (simp only [*]; done) | (simp [*]; done) | fail) ?_ | refine Brn.F (by (try simp only [smT]); first | rfl | assumption | omega | (simp only [*]; done) | (simp [*]; done) | fail) ?_ | (refine Brn.mk (fun hb => ?_) (fun hb => ?_) <;> (try simp only [smT] at hb) <;> (try (exact absurd trivial hb)) <;> (try (exfalso; omega))) | (refine Bnd.mk (fun hm => ?_); (try simp only [smT] at hm)) | refine Rng.mk (by (try simp only [smT]); omega) ?_ | refine Ix.map rfl (by (try simp only [smT]); omega) ?_ | refine Ix.map (m := 0) rfl (by (try simp only [smT]); omega) ?_ | refine Ix.lit (m := 0) rfl rfl ?_ | refine Ixo.mk ⟨_, rfl, (by (try simp only [smT]); omega), ?_⟩ | refine Rw.lit rfl ?_ | refine Rw.self (by (try simp only [smT]); omega) ?_ | refine Rw.map (by (try simp only [smT]); omega) ?_ | refine Len.mk (by first | rfl | (simp; done) | (simp only [smT]; assumption) | (simp only [smT]; omega)) ?_ | refine Eqv.mk (by kernel_rfl) ?_ | refine Apd.mk (by first | rfl | simp) (by first | rfl | simp) (by (try simp only [smT]); first | omega | (simp; omega)) (by unfold maxLen; first | (simp; done) | (simp; omega) | omega) ?_ | refine Raw.capNil (T := tt) rfl rfl rfl rfl ?_ | refine Raw.sliceNil (T := tt) rfl rfl (by first | rfl | omega | (simp; done)) rfl rfl rfl rfl ?_ | refine Raw.makeMap (T := tt) rfl rfl rfl rfl rfl rfl (.inl rfl) rfl rfl ?_ | refine Raw.mapUpdate (T := tt) (.inl rfl) rfl rfl rfl rfl rfl rfl rfl rfl rfl rfl rfl (by assumption) ?_ | refine Pm.mk (by first | assumption | omega | (simp; done) | (simp; omega)) (by first | assumption | omega | (simp; done) | (simp; omega)) ?_ | (refine Raw.appendR (T := tt) ?_; (conv => whnf); first | refine Ix_un rfl hu0 ?_ | refine Raw.ghost (Ghost.frzA 113 rfl (by repeat ((conv => whnf); first | exact trivial | refine Len.mk (by first | rfl | simp) ?_))) (Raw.store ?_) | refine Rw_un0 hu0 ?_ | refine Gs.go (i := 23) ((Ghost.frzA 905 rfl (by repeat ((conv => whnf); first | exact trivial | refine Len.mk (by first | rfl | simp) ?_))).trans (Ghost.frzA 102 rfl (by repeat ((conv => whnf); first | exact trivial | refine Len.mk (by first | rfl | simp) ?_)))) ?_ | refine Drw.ghost (i := 23) ((Ghost.frzA 905 rfl (by repeat ((conv => whnf); first | exact trivial | refine Len.mk (by first | rfl | simp) ?_))).trans (Ghost.frzA 102 rfl (by repeat ((conv => whnf); first | exact trivial | refine Len.mk (by first | rfl | simp) ?_)))) ?_ | refine Rw.lit rfl ?_ | refine Rw.self (by (try simp only [smT]); omega) ?_ | refine Rw.map (by (try simp only [smT]); omega) ?_) | refine Raw.appendIn (T := tt) rfl rfl rfl rfl rfl rfl rfl rfl rfl rfl (by (try simp only [smT]); omega) (by (try simp only [smT]); omega) ?_ | refine Raw.clear (T := tt) rfl rfl rfl rfl rfl rfl rfl (by (try simp only [smT]); omega) ?_ | refine Slc.mk ⟨_, _, rfl, rfl, (by (try simp only [smT]); omega), (by (try simp only [smT]); omega), ?_⟩ | refine Slc.mk ⟨0, _, rfl, rfl, (by (try simp only [smT]); omega), (by (try simp only [smT]); omega), ?_⟩ | refine Slc.mk ⟨1, _, rfl, rfl, (by (try simp only [smT]); omega), (by (try simp only [smT]); omega), ?_⟩ | refine Slc3.mk ⟨_, _, _, rfl, rfl, rfl, (by (try simp only [smT]); omega), (by (try simp only [smT]); omega), (by (try simp only [smT]); omega)⟩ ?_ | refine Drw.of (T := tt) (i := 17) [] [] [(0, true), (1, true), (2, true), (3, true), (4, true), (5, true), (6, true), (7, true), (8, true), (9, true), (10, true), (11, true), (12, true), (13, true), (14, true), (15, true)] (by kernel_rfl) ?_ | refine Drw.ofF (T := tt) (i := 22) [10, 11, 12, 13] [0, 1, 2, 3, 4] [(0, true), (1, true), (2, true), (3, true), (4, true), (5, true), (6, true), (7, true), (8, true), (9, true), (10, false), (11, false), (12, false), (13, false)] (by kernel_rfl) ?_ | refine Drw.ofP (T := tt) (i := 22) [10, 11, 12, 13] [0, 1, 2, 3, 4, 5, 6, 7, 8, 9] [0, 1, 2, 3, 4, 5, 6, 7, 8, 9] (OT.alt 10 (OT.alt 11 (OT.alt 12 (OT.alt 13 OT.nil OT.nil) OT.nil) OT.nil) OT.nil) (by kernel_rfl) ?_ | refine Drw.of (T := tt) (i := 29) [] [] [(0, true), (1, true), (2, true), (3, true), (4, true), (5, true), (6, true), (7, true), (8, true)] (by kernel_rfl) ?_ | (refine CL.mk (Or.inl ?_); (conv => whnf); first | refine Cl.is (hi) rfl (by first | exact fun _ => rfl | (intro e; cases e; done) | fail) ?_) | (refine CL.mk (Or.inl ?_); (conv => whnf); refine ClO.mk (Or.inl ?_); (repeat ((conv => whnf); refine Len.mk (by first | rfl | (simp; done) | (simp only [smT]; assumption) | (simp only [smT]; omega)) ?_)); (conv => whnf); first | refine Cl.is (hi) rfl (by first | exact fun _ => rfl | (intro e; cases e; done) | fail) ?_) | (refine CL.mk (Or.inl ?_); (conv => whnf); refine ClO.mk (Or.inr ?_); (repeat ((conv => whnf); refine Len.mk (by first | rfl | (simp; done) | (simp only [smT]; assumption) | (simp only [smT]; omega)) ?_)); (conv => whnf); first | refine Cl.is (hi) rfl (by first | exact fun _ => rfl | (intro e; cases e; done) | fail) ?_) | (refine CL.mk (Or.inr (Raw.callI [] [905] rfl rfl rfl rfl rfl rfl rfl (hl2 _ (by exact addU_rows hu0 ns)) ?_)); rintro _ _ ⟨rfl, rfl⟩; refine Bk.mk rfl rfl ?_))
        all_goals (conv => whnf)
        refine ⟨⟨Nat, fun i => i ≤ log.length, fun i => log.length - i, fun i => ⟨[(5, .d (.u (.sl 2 (log.map Ev.v)))), (13, .d (.ow 905 log.length)), (15, di i)], [logA log]⟩, 0, Nat.zero_le _, ⟨[(905, .k 905)], ⟨by (try dsimp only); (repeat (refine LeT.cons rfl (by first | exact LeS.d (by first | exact LeD.u rfl | exact LeD.p rfl | exact LeD.ow rfl rfl | exact LeD.ow rfl (by simp) | exact LeD.no rfl rfl | exact LeD.nl (by first | rfl | simp) | exact LeD.u (by simp; done) | exact LeD.u (by congr 1; omega) | exact LeD.q rfl | exact LeD.r rfl | exact LeD.r (by simp; done) | exact LeD.re | exact LeD.mp rfl | exact LeD.ows rfl rfl rfl | exact LeD.u (by congr 1; congr 1; simp) | exact LeD.fn (by repeat (first | exact LeN.nil | refine LeN.cons rfl ?_))) | exact LeS.a (by repeat (first | exact LeL.nil | refine LeL.cons (by first | exact LeD.u rfl | exact LeD.p rfl | exact LeD.ow rfl rfl | exact LeD.ow rfl (by simp) | exact LeD.no rfl rfl | exact LeD.nl (by first | rfl | simp) | exact LeD.u (by simp; done) | exact LeD.u (by congr 1; omega) | exact LeD.q rfl | exact LeD.r rfl | exact LeD.r (by simp; done) | exact LeD.re | exact LeD.mp rfl | exact LeD.ows rfl rfl rfl | exact LeD.u (by congr 1; congr 1; simp) | exact LeD.fn (by repeat (first | exact LeN.nil | refine LeN.cons rfl ?_))) ?_))) ?_)); exact LeT.nil, by (try dsimp only); repeat (first | exact LeO.nil | refine LeO.bx rfl rfl (by repeat (first | exact LeL.nil | refine LeL.cons (by first | exact LeD.u rfl | exact LeD.p rfl | exact LeD.ow rfl rfl | exact LeD.ow rfl (by simp) | exact LeD.no rfl rfl | exact LeD.nl (by first | rfl | simp) | exact LeD.u (by simp; done) | exact LeD.u (by congr 1; omega) | exact LeD.q rfl | exact LeD.r rfl | exact LeD.r (by simp; done) | exact LeD.re | exact LeD.mp rfl | exact LeD.ows rfl rfl rfl | exact LeD.u (by congr 1; congr 1; simp) | exact LeD.fn (by repeat (first | exact LeN.nil | refine LeN.cons rfl ?_))) ?_)) ?_ | refine LeO.ar rfl rfl (by first | rfl | simp) ?_ | refine LeO.fm rfl (by first | rfl | simp) ?_ | refine LeO.mp rfl rfl (by first | rfl | simp) ?_ | refine LeO.no rfl rfl ?_)⟩⟩, fun i hil => ?_⟩⟩
        dsimp only at hil ⊢
        by_cases h9 : i < log.length
        · obtain ⟨⟨ek, en⟩, hk⟩ : ∃ e, log[i]? = some e := ⟨_, List.getElem?_eq_getElem h9⟩
          have e1 : (en.toList == en.toList) = true := by simp
          repeat' ((conv => whnf); first | refine Ix_ev rfl hk ?_ | refine Rw_ev hk ?_ | refine Gs.id ?_ | with_reducible refine And.intro ?_ ?_ | with_reducible refine Brn.T rfl ?_ | with_reducible refine Brn.F rfl ?_ | refine Brn.T (by (try simp only [smT]); first | rfl | assumption | omega | (simp only [*]; done) | (simp [*]; done) | fail) ?_ | refine Brn.F (by (try simp only [smT]); first | rfl | assumption | omega | (simp only [*]; done) | (simp [*]; done) | fail) ?_ | (refine Brn.mk (fun hb => ?_) (fun hb => ?_) <;> (try simp only [smT] at hb) <;> (try (exact absurd trivial hb)) <;> (try (exfalso; omega))) | (refine Bnd.mk (fun hm => ?_); (try simp only [smT] at hm)) | refine Rng.mk (by (try simp only [smT]); omega) ?_ | refine Ix.map rfl (by (try simp only [smT]); omega) ?_ | refine Ix.map (m := 0) rfl (by (try simp only [smT]); omega) ?_ | refine Ix.lit (m := 0) rfl rfl ?_ | refine Ixo.mk ⟨_, rfl, (by (try simp only [smT]); omega), ?_⟩ | refine Rw.lit rfl ?_ | refine Rw.self (by (try simp only [smT]); omega) ?_ | refine Rw.map (by (try simp only [smT]); omega) ?_ | refine Len.mk (by first | rfl | (simp; done) | (simp only [smT]; assumption) | (simp only [smT]; omega)) ?_ | refine Eqv.mk (by kernel_rfl) ?_ | refine Apd.mk (by first | rfl | simp) (by first | rfl | simp) (by (try simp only [smT]); first | omega | (simp; omega)) (by unfold maxLen; first | (simp; done) | (simp; omega) | omega) ?_ | refine Raw.capNil (T := tt) rfl rfl rfl rfl ?_ | refine Raw.sliceNil (T := tt) rfl rfl (by first | rfl | omega | (simp; done)) rfl rfl rfl rfl ?_ | refine Raw.makeMap (T := tt) rfl rfl rfl rfl rfl rfl (.inl rfl) rfl rfl ?_ | refine Raw.mapUpdate (T := tt) (.inl rfl) rfl rfl rfl rfl rfl rfl rfl rfl rfl rfl rfl (by assumption) ?_ | refine Pm.mk (by first | assumption | omega | (simp; done) | (simp; omega)) (by first | assumption | omega | (simp; done) | (simp; omega)) ?_ | (refine Raw.appendR (T := tt) ?_; (conv => whnf); first | refine Ix_ev rfl hk ?_ | refine Rw_ev hk ?_ | refine Rw.lit rfl ?_ | refine Rw.self (by (try simp only [smT]); omega) ?_ | refine Rw.map (by (try simp only [smT]); omega) ?_) | refine Raw.appendIn (T := tt) rfl rfl rfl rfl rfl rfl rfl rfl rfl rfl (by (try simp only [smT]); omega) (by (try simp only [smT]); omega) ?_ | refine Raw.clear (T := tt) rfl rfl rfl rfl rfl rfl rfl (by (try simp only [smT]); omega) ?_ | refine Slc.mk ⟨_, _, rfl, rfl, (by (try simp only [smT]); omega), (by (try simp only [smT]); omega), ?_⟩ | refine Slc.mk ⟨0, _, rfl, rfl, (by (try simp only [smT]); omega), (by (try simp only [smT]); omega), ?_⟩ | refine Slc.mk ⟨1, _, rfl, rfl, (by (try simp only [smT]); omega), (by (try simp only [smT]); omega), ?_⟩ | refine Slc3.mk ⟨_, _, _, rfl, rfl, rfl, (by (try simp only [smT]); omega), (by (try simp only [smT]); omega), (by (try simp only [smT]); omega)⟩ ?_ | refine Drw.of (T := tt) (i := 17) [] [] [(0, true), (1, true), (2, true), (3, true), (4, true), (5, true), (6, true), (7, true), (8, true), (9, true), (10, true), (11, true), (12, true), (13, true), (14, true), (15, true)] (by kernel_rfl) ?_ | refine Drw.ofF (T := tt) (i := 22) [10, 11, 12, 13] [0, 1, 2, 3, 4] [(0, true), (1, true), (2, true), (3, true), (4, true), (5, true), (6, true), (7, true), (8, true), (9, true), (10, false), (11, false), (12, false), (13, false)] (by kernel_rfl) ?_ | refine Drw.ofP (T := tt) (i := 22) [10, 11, 12, 13] [0, 1, 2, 3, 4, 5, 6, 7, 8, 9] [0, 1, 2, 3, 4, 5, 6, 7, 8, 9] (OT.alt 10 (OT.alt 11 (OT.alt 12 (OT.alt 13 OT.nil OT.nil) OT.nil) OT.nil) OT.nil) (by kernel_rfl) ?_ | refine Drw.of (T := tt) (i := 29) [] [] [(0, true), (1, true), (2, true), (3, true), (4, true), (5, true), (6, true), (7, true), (8, true)] (by kernel_rfl) ?_)
          all_goals (conv => whnf)
          all_goals first | (exfalso; simp_all; done) | exact ⟨i + 1, by omega, by omega, [(905, .k 905)], ⟨by (try dsimp only); (repeat (refine LeT.cons rfl (by first | exact LeS.d (by first | exact LeD.u rfl | exact LeD.p rfl | exact LeD.ow rfl rfl | exact LeD.ow rfl (by simp) | exact LeD.no rfl rfl | exact LeD.nl (by first | rfl | simp) | exact LeD.u (by simp; done) | exact LeD.u (by congr 1; omega) | exact LeD.q rfl | exact LeD.r rfl | exact LeD.r (by simp; done) | exact LeD.re | exact LeD.mp rfl | exact LeD.ows rfl rfl rfl | exact LeD.u (by congr 1; congr 1; simp) | exact LeD.fn (by repeat (first | exact LeN.nil | refine LeN.cons rfl ?_))) | exact LeS.a (by repeat (first | exact LeL.nil | refine LeL.cons (by first | exact LeD.u rfl | exact LeD.p rfl | exact LeD.ow rfl rfl | exact LeD.ow rfl (by simp) | exact LeD.no rfl rfl | exact LeD.nl (by first | rfl | simp) | exact LeD.u (by simp; done) | exact LeD.u (by congr 1; omega) | exact LeD.q rfl | exact LeD.r rfl | exact LeD.r (by simp; done) | exact LeD.re | exact LeD.mp rfl | exact LeD.ows rfl rfl rfl | exact LeD.u (by congr 1; congr 1; simp) | exact LeD.fn (by repeat (first | exact LeN.nil | refine LeN.cons rfl ?_))) ?_))) ?_)); exact LeT.nil, by (try dsimp only); repeat (first | exact LeO.nil | refine LeO.bx rfl rfl (by repeat (first | exact LeL.nil | refine LeL.cons (by first | exact LeD.u rfl | exact LeD.p rfl | exact LeD.ow rfl rfl | exact LeD.ow rfl (by simp) | exact LeD.no rfl rfl | exact LeD.nl (by first | rfl | simp) | exact LeD.u (by simp; done) | exact LeD.u (by congr 1; omega) | exact LeD.q rfl | exact LeD.r rfl | exact LeD.r (by simp; done) | exact LeD.re | exact LeD.mp rfl | exact LeD.ows rfl rfl rfl | exact LeD.u (by congr 1; congr 1; simp) | exact LeD.fn (by repeat (first | exact LeN.nil | refine LeN.cons rfl ?_))) ?_)) ?_ | refine LeO.ar rfl rfl (by first | rfl | simp) ?_ | refine LeO.fm rfl (by first | rfl | simp) ?_ | refine LeO.mp rfl rfl (by first | rfl | simp) ?_ | refine LeO.no rfl rfl ?_)⟩⟩
        · obtain rfl : i = log.length := by omega
          repeat' ((conv => whnf); first | refine Gs.id ?_ | with_reducible refine And.intro ?_ ?_ | with_reducible refine Brn.T rfl ?_ | with_reducible refine Brn.F rfl ?_ | refine Brn.T (by (try simp only [smT]); first | rfl | assumption | omega | (simp only [*]; done) | (simp [*]; done) | fail) ?_ | refine Brn.F (by (try simp only [smT]); first | rfl | assumption | omega | (simp only [*]; done) | (simp [*]; done) | fail) ?_ | (refine Brn.mk (fun hb => ?_) (fun hb => ?_) <;> (try simp only [smT] at hb) <;> (try (exact absurd trivial hb)) <;> (try (exfalso; omega))) | (refine Bnd.mk (fun hm => ?_); (try simp only [smT] at hm)) | refine Rng.mk (by (try simp only [smT]); omega) ?_ | refine Ix.map rfl (by (try simp only [smT]); omega) ?_ | refine Ix.map (m := 0) rfl (by (try simp only [smT]); omega) ?_ | refine Ix.lit (m := 0) rfl rfl ?_ | refine Ixo.mk ⟨_, rfl, (by (try simp only [smT]); omega), ?_⟩ | refine Rw.lit rfl ?_ | refine Rw.self (by (try simp only [smT]); omega) ?_ | refine Rw.map (by (try simp only [smT]); omega) ?_ | refine Len.mk (by first | rfl | (simp; done) | (simp only [smT]; assumption) | (simp only [smT]; omega)) ?_ | refine Eqv.mk (by kernel_rfl) ?_ | refine Apd.mk (by first | rfl | simp) (by first | rfl | simp) (by (try simp only [smT]); first | omega | (simp; omega)) (by unfold maxLen; first | (simp; done) | (simp; omega) | omega) ?_ | refine Raw.capNil (T := tt) rfl rfl rfl rfl ?_ | refine Raw.sliceNil (T := tt) rfl rfl (by first | rfl | omega | (simp; done)) rfl rfl rfl rfl ?_ | refine Raw.makeMap (T := tt) rfl rfl rfl rfl rfl rfl (.inl rfl) rfl rfl ?_ | refine Raw.mapUpdate (T := tt) (.inl rfl) rfl rfl rfl rfl rfl rfl rfl rfl rfl rfl rfl (by assumption) ?_ | refine Pm.mk (by first | assumption | omega | (simp; done) | (simp; omega)) (by first | assumption | omega | (simp; done) | (simp; omega)) ?_ | (refine Raw.appendR (T := tt) ?_; (conv => whnf); first | refine Rw.lit rfl ?_ | refine Rw.self (by (try simp only [smT]); omega) ?_ | refine Rw.map (by (try simp only [smT]); omega) ?_) | refine Raw.appendIn (T := tt) rfl rfl rfl rfl rfl rfl rfl rfl rfl rfl (by (try simp only [smT]); omega) (by (try simp only [smT]); omega) ?_ | refine Raw.clear (T := tt) rfl rfl rfl rfl rfl rfl rfl (by (try simp only [smT]); omega) ?_ | refine Slc.mk ⟨_, _, rfl, rfl, (by (try simp only [smT]); omega), (by (try simp only [smT]); omega), ?_⟩ | refine Slc.mk ⟨0, _, rfl, rfl, (by (try simp only [smT]); omega), (by (try simp only [smT]); omega), ?_⟩ | refine Slc.mk ⟨1, _, rfl, rfl, (by (try simp only [smT]); omega), (by (try simp only [smT]); omega), ?_⟩ | refine Slc3.mk ⟨_, _, _, rfl, rfl, rfl, (by (try simp only [smT]); omega), (by (try simp only [smT]); omega), (by (try simp only [smT]); omega)⟩ ?_ | refine Drw.of (T := tt) (i := 17) [] [] [(0, true), (1, true), (2, true), (3, true), (4, true), (5, true), (6, true), (7, true), (8, true), (9, true), (10, true), (11, true), (12, true), (13, true), (14, true), (15, true)] (by kernel_rfl) ?_ | refine Drw.ofF (T := tt) (i := 22) [10, 11, 12, 13] [0, 1, 2, 3, 4] [(0, true), (1, true), (2, true), (3, true), (4, true), (5, true), (6, true), (7, true), (8, true), (9, true), (10, false), (11, false), (12, false), (13, false)] (by kernel_rfl) ?_ | refine Drw.ofP (T := tt) (i := 22) [10, 11, 12, 13] [0, 1, 2, 3, 4, 5, 6, 7, 8, 9] [0, 1, 2, 3, 4, 5, 6, 7, 8, 9] (OT.alt 10 (OT.alt 11 (OT.alt 12 (OT.alt 13 OT.nil OT.nil) OT.nil) OT.nil) OT.nil) (by kernel_rfl) ?_ | refine Drw.of (T := tt) (i := 29) [] [] [(0, true), (1, true), (2, true), (3, true), (4, true), (5, true), (6, true), (7, true), (8, true)] (by kernel_rfl) ?_ | (refine CL.mk (Or.inl ?_); (conv => whnf); first | refine Cl.is (hi) rfl (by first | exact fun _ => rfl | (intro e; cases e; done) | fail) ?_) | (refine CL.mk (Or.inl ?_); (conv => whnf); refine ClO.mk (Or.inl ?_); (repeat ((conv => whnf); refine Len.mk (by first | rfl | (simp; done) | (simp only [smT]; assumption) | (simp only [smT]; omega)) ?_)); (conv => whnf); first | refine Cl.is (hi) rfl (by first | exact fun _ => rfl | (intro e; cases e; done) | fail) ?_) | (refine CL.mk (Or.inl ?_); (conv => whnf); refine ClO.mk (Or.inr ?_); (repeat ((conv => whnf); refine Len.mk (by first | rfl | (simp; done) | (simp only [smT]; assumption) | (simp only [smT]; omega)) ?_)); (conv => whnf); first | refine Cl.is (hi) rfl (by first | exact fun _ => rfl | (intro e; cases e; done) | fail) ?_))
          all_goals (conv => whnf)
          all_goals exact Ret.is rfl
    · refine callsA_of_vc (T := tt) Tryd.func7 rfl rfl rfl rfl rfl ?_
      repeat' ((conv => whnf); first | refine Ix_un rfl hu0 ?_ | refine Gs.id ?_ | with_reducible refine And.intro ?_ ?_ | with_reducible refine Brn.T rfl ?_ | with_reducible refine Brn.F rfl ?_ | refine Brn.T (by (try simp only [smT]); first | rfl | assumption | omega | (simp only [*]; done) | (simp [*]; done) | fail) ?_ | refine Brn.F (by (try simp only [smT]); first | rfl | assumption | omega | (simp only [*]; done) | (simp [*]; done) | fail) ?_ | (refine Brn.mk (fun hb => ?_) (fun hb => ?_) <;> (try simp only [smT] at hb) <;> (try (exact absurd trivial hb)) <;> (try (exfalso; omega))) | (refine Bnd.mk (fun hm => ?_); (try simp only [smT] at hm)) | refine Rng.mk (by (try simp only [smT]); omega) ?_ | refine Ix.map rfl (by (try simp only [smT]); omega) ?_ | refine Ix.map (m := 0) rfl (by (try simp only [smT]); omega) ?_ | refine Ix.lit (m := 0) rfl rfl ?_ | refine Ixo.mk ⟨_, rfl, (by (try simp only [smT]); omega), ?_⟩ | refine Rw.lit rfl ?_ | refine Rw.self (by (try simp only [smT]); omega) ?_ | refine Rw.map (by (try simp only [smT]); omega) ?_ | refine Len.mk (by first | rfl | (simp; done) | (simp only [smT]; assumption) | (simp only [smT]; omega)) ?_ | refine Eqv.mk (by kernel_rfl) ?_ | refine Apd.mk (by first | rfl | simp) (by first | rfl | simp) (by (try simp only [smT]); first | omega | (simp; omega)) (by unfold maxLen; first | (simp; done) | (simp; omega) | omega) ?_ | refine Raw.capNil (T := tt) rfl rfl rfl rfl ?_ | refine Raw.sliceNil (T := tt) rfl rfl (by first | rfl | omega | (simp; done)) rfl rfl rfl rfl ?_ | refine Raw.makeMap (T := tt) rfl rfl rfl rfl rfl rfl (.inl rfl) rfl rfl ?_ | refine Raw.mapUpdate (T := tt) (.inl rfl) rfl rfl rfl rfl rfl rfl rfl rfl rfl rfl rfl (by assumption) ?_ | refine Pm.mk (by first | assumption | omega | (simp; done) | (simp; omega)) (by first | assumption | omega | (simp; done) | (simp; omega)) ?_ | (refine Raw.appendR (T := tt) ?_; (conv => whnf); first | refine Ix_un rfl hu0 ?_ | refine Rw.lit rfl ?_ | refine Rw.self (by (try simp only [smT]); omega) ?_ | refine Rw.map (by (try simp only [smT]); omega) ?_) | refine Raw.appendIn (T := tt) rfl rfl rfl rfl rfl rfl rfl rfl rfl rfl (by (try simp only [smT]); omega) (by (try simp only [smT]); omega) ?_ | refine Raw.clear (T := tt) rfl rfl rfl rfl rfl rfl rfl (by (try simp only [smT]); omega) ?_ | refine Slc.mk ⟨_, _, rfl, rfl, (by (try simp only [smT]); omega), (by (try simp only [smT]); omega), ?_⟩ | refine Slc.mk ⟨0, _, rfl, rfl, (by (try simp only [smT]); omega), (by (try simp only [smT]); omega), ?_⟩ | refine Slc.mk ⟨1, _, rfl, rfl, (by (try simp only [smT]); omega), (by (try simp only [smT]); omega), ?_⟩ | refine Slc3.mk ⟨_, _, _, rfl, rfl, rfl, (by (try simp only [smT]); omega), (by (try simp only [smT]); omega), (by (try simp only [smT]); omega)⟩ ?_ | refine Drw.of (T := tt) (i := 17) [] [] [(0, true), (1, true), (2, true), (3, true), (4, true), (5, true), (6, true), (7, true), (8, true), (9, true), (10, true), (11, true), (12, true), (13, true), (14, true), (15, true)] (by kernel_rfl) ?_ | refine Drw.ofF (T := tt) (i := 22) [10, 11, 12, 13] [0, 1, 2, 3, 4] [(0, true), (1, true), (2, true), (3, true), (4, true), (5, true), (6, true), (7, true), (8, true), (9, true), (10, false), (11, false), (12, false), (13, false)] (by kernel_rfl) ?_ | refine Drw.ofP (T := tt) (i := 22) [10, 11, 12, 13] [0, 1, 2, 3, 4, 5, 6, 7, 8, 9] [0, 1, 2, 3, 4, 5, 6, 7, 8, 9] (OT.alt 10 (OT.alt 11 (OT.alt 12 (OT.alt 13 OT.nil OT.nil) OT.nil) OT.nil) OT.nil) (by kernel_rfl) ?_ | refine Drw.of (T := tt) (i := 29) [] [] [(0, true), (1, true), (2, true), (3, true), (4, true), (5, true), (6, true), (7, true), (8, true)] (by kernel_rfl) ?_ | (refine CL.mk (Or.inl ?_); (conv => whnf); first | refine Cl.is (hi) rfl (by first | exact fun _ => rfl | (intro e; cases e; done) | fail) ?_) | (refine CL.mk (Or.inl ?_); (conv => whnf); refine ClO.mk (Or.inl ?_); (repeat ((conv => whnf); refine Len.mk (by first | rfl | (simp; done) | (simp only [smT]; assumption) | (simp only [smT]; omega)) ?_)); (conv => whnf); first | refine Cl.is (hi) rfl (by first | exact fun _ => rfl | (intro e; cases e; done) | fail) ?_) | (refine CL.mk (Or.inl ?_); (conv => whnf); refine ClO.mk (Or.inr ?_); (repeat ((conv => whnf); refine Len.mk (by first | rfl | (simp; done) | (simp only [smT]; assumption) | (simp only [smT]; omega)) ?_)); (conv => whnf); first | refine Cl.is (hi) rfl (by first | exact fun _ => rfl | (intro e; cases e; done) | fail) ?_) | (refine CL.mk (Or.inr (Raw.callI [] [905] rfl rfl rfl rfl rfl rfl rfl (hl) ?_)); rintro _ _ ⟨rfl, rfl⟩; refine Bk.mk rfl rfl ?_))
      all_goals (conv => whnf)
      all_goals exact Ret.is rfl
  · refine callsA_of_vc (T := tt) Tryd.func7 rfl rfl rfl rfl rfl ?_
    repeat' ((conv => whnf); first | refine Ix_un rfl hu0 ?_ | refine Gs.id ?_ | with_reducible refine And.intro ?_ ?_ | with_reducible refine Brn.T rfl ?_ | with_reducible refine Brn.F rfl ?_ | refine Brn.T (by (try simp only [smT]); first | rfl | assumption | omega | (simp only [*]; done) | (simp [*]; done) | fail) ?_ | refine Brn.F (by (try simp only [smT]); first | rfl | assumption | omega | (simp only [*]; done) | (simp [*]; done) | fail) ?_ | (refine Brn.mk (fun hb => ?_) (fun hb => ?_) <;> (try simp only [smT] at hb) <;> (try (exact absurd trivial hb)) <;> (try (exfalso; omega))) | (refine Bnd.mk (fun hm => ?_); (try simp only [smT] at hm)) | refine Rng.mk (by (try simp only [smT]); omega) ?_ | refine Ix.map rfl (by (try simp only [smT]); omega) ?_ | refine Ix.map (m := 0) rfl (by (try simp only [smT]); omega) ?_ | refine Ix.lit (m := 0) rfl rfl ?_ | refine Ixo.mk ⟨_, rfl, (by (try simp only [smT]); omega), ?_⟩ | refine Rw.lit rfl ?_ | refine Rw.self (by (try simp only [smT]); omega) ?_ | refine Rw.map (by (try simp only [smT]); omega) ?_ | refine Len.mk (by first | rfl | (simp; done) | (simp only [smT]; assumption) | (simp only [smT]; omega)) ?_ | refine Eqv.mk (by kernel_rfl) ?_ | refine Apd.mk (by first | rfl | simp) (by first | rfl | simp) (by (try simp only [smT]); first | omega | (simp; omega)) (by unfold maxLen; first | (simp; done) | (simp; omega) | omega) ?_ | refine Raw.capNil (T := tt) rfl rfl rfl rfl ?_ | refine Raw.sliceNil (T := tt) rfl rfl (by first | rfl | omega | (simp; done)) rfl rfl rfl rfl ?_ | refine Raw.makeMap (T := tt) rfl rfl rfl rfl rfl rfl (.inl rfl) rfl rfl ?_ | refine Raw.mapUpdate (T := tt) (.inl rfl) rfl rfl rfl rfl rfl rfl rfl rfl rfl rfl rfl (by assumption) ?_ | refine Pm.mk (by first | assumption | omega | (simp; done) | (simp; omega)) (by first | assumption | omega | (simp; done) | (simp; omega)) ?_ | (refine Raw.appendR (T := tt) ?_; (conv => whnf); first | refine Ix_un rfl hu0 ?_ | refine Rw.lit rfl ?_ | refine Rw.self (by (try simp only [smT]); omega) ?_ | refine Rw.map (by (try simp only [smT]); omega) ?_) | refine Raw.appendIn (T := tt) rfl rfl rfl rfl rfl rfl rfl rfl rfl rfl (by (try simp only [smT]); omega) (by (try simp only [smT]); omega) ?_ | refine Raw.clear (T := tt) rfl rfl rfl rfl rfl rfl rfl (by (try simp only [smT]); omega) ?_ | refine Slc.mk ⟨_, _, rfl, rfl, (by (try simp only [smT]); omega), (by (try simp only [smT]); omega), ?_⟩ | refine Slc.mk ⟨0, _, rfl, rfl, (by (try simp only [smT]); omega), (by (try simp only [smT]); omega), ?_⟩ | refine Slc.mk ⟨1, _, rfl, rfl, (by (try simp only [smT]); omega), (by (try simp only [smT]); omega), ?_⟩ | refine Slc3.mk ⟨_, _, _, rfl, rfl, rfl, (by (try simp only [smT]); omega), (by (try simp only [smT]); omega), (by (try simp only [smT]); omega)⟩ ?_ | refine Drw.of (T := tt) (i := 17) [] [] [(0, true), (1, true), (2, true), (3, true), (4, true), (5, true), (6, true), (7, true), (8, true), (9, true), (10, true), (11, true), (12, true), (13, true), (14, true), (15, true)] (by kernel_rfl) ?_ | refine Drw.ofF (T := tt) (i := 22) [10, 11, 12, 13] [0, 1, 2, 3, 4] [(0, true), (1, true), (2, true), (3, true), (4, true), (5, true), (6, true), (7, true), (8, true), (9, true), (10, false), (11, false), (12, false), (13, false)] (by kernel_rfl) ?_ | refine Drw.ofP (T := tt) (i := 22) [10, 11, 12, 13] [0, 1, 2, 3, 4, 5, 6, 7, 8, 9] [0, 1, 2, 3, 4, 5, 6, 7, 8, 9] (OT.alt 10 (OT.alt 11 (OT.alt 12 (OT.alt 13 OT.nil OT.nil) OT.nil) OT.nil) OT.nil) (by kernel_rfl) ?_ | refine Drw.of (T := tt) (i := 29) [] [] [(0, true), (1, true), (2, true), (3, true), (4, true), (5, true), (6, true), (7, true), (8, true)] (by kernel_rfl) ?_ | (refine CL.mk (Or.inl ?_); (conv => whnf); first | refine Cl.is (hi) rfl (by first | exact fun _ => rfl | (intro e; cases e; done) | fail) ?_) | (refine CL.mk (Or.inl ?_); (conv => whnf); refine ClO.mk (Or.inl ?_); (repeat ((conv => whnf); refine Len.mk (by first | rfl | (simp; done) | (simp only [smT]; assumption) | (simp only [smT]; omega)) ?_)); (conv => whnf); first | refine Cl.is (hi) rfl (by first | exact fun _ => rfl | (intro e; cases e; done) | fail) ?_) | (refine CL.mk (Or.inl ?_); (conv => whnf); refine ClO.mk (Or.inr ?_); (repeat ((conv => whnf); refine Len.mk (by first | rfl | (simp; done) | (simp only [smT]; assumption) | (simp only [smT]; omega)) ?_)); (conv => whnf); first | refine Cl.is (hi) rfl (by first | exact fun _ => rfl | (intro e; cases e; done) | fail) ?_) | (refine CL.mk (Or.inr (Raw.callI [] [905] rfl rfl rfl rfl rfl rfl rfl (hl) ?_)); rintro _ _ ⟨rfl, rfl⟩; refine Bk.mk rfl rfl ?_))
    all_goals (conv => whnf)
    all_goals exact Ret.is rfl
theorem law_stay_T (l : List Un) (hb : Lb l) (ns : List ByteArray) (hns : ns.length ≤ 9000000000) : CallsA Tryd.prog 7 [.d (.u (uns l)), .d (.u (strs' ns))] [] (Is (db true)) := by
  by_cases h1 : (validateM l).1 = 0
  · cases h2 : (finS l).full
    · exact stay_ok_T l hb ns hns h1 h2
    · exact stay_flt_T l ns (21, -1) (.inr ⟨h1, h2, rfl⟩) (by decide)
  · exact stay_flt_T l ns (validateM l) (.inl ⟨h1, rfl⟩) h1
end Go.Proofs.YtgloielnnakknaaDoor
namespace Go.Proofs.YtgloielnnakknaaDoor
open Go.ChangeShapes Go.WideShapes Go.Deep

section
variable {H : Type} {enc : TypeId × Value → H} {P : Program} {w : World} {base : Nat} {spare : Nat → Bool} {held : Bool}

theorem cell_lt {p : Addr} {v : Value} (h : w.cell? p = some v) : p.block < w.heap.size := by
  by_cases hl : p.block < w.heap.size
  · exact hl
  · have : w.heap[p.block]? = none := by simp; omega
    simp [World.cell?, this] at h

end

section
variable {H : Type} {P : Program} {ts : List TypeId} {ds : List (DataW H)}
/-- What a field of a struct weighs is weighed. -/
theorem weights_field {t u : TypeId} {fs : Array Field} {parts : List (DataW H)} {j : Nat} {d : DataW H} (hu : P.underlying t = some (.struct fs)) (hf : (fs.toList.map (·.type))[j]? = some u) (hd : parts[j]? = some d) {n : Nat} (hn : n ∈ d.weights P u) : n ∈ (DataW.agg parts).weights P t := by
  simp only [DataW.weights, hu]
  exact DataW.weights_mem_each hf hd n hn
theorem weights_slice {t e : TypeId} {el sp : List (DataW H)} (hu : P.underlying t = some (.slice e)) : (el.length + sp.length) * P.bytesOf e ∈ (DataW.slice el sp).weights P t := by
  simp [DataW.weights, hu]
end
end Go.Proofs.YtgloielnnakknaaDoor
namespace Go.Proofs.YtgloielnnakknaaDoor
open Go.ChangeShapes Go.WideShapes Go.Deep Go.RowKit
/-- What a cell of an argument is. -/
inductive Sh where
  | int (k : IntKind)
  | bool
  | str
  | sl (by_ : Nat) (e : List Sh)
abbrev bigB : Nat := 9000000000
inductive HasSh : Sh → V → Prop
  | int {k : IntKind} {n : Int} (h : (Lit.int k n).wf = true) : HasSh (.int k) (.int k n)
  | bool {b : Bool} : HasSh .bool (.bool b)
  | str {s : ByteArray} (h : s.size ≤ bigB) : HasSh .str (.str s)
  | sl {by_ sz : Nat} {e : List Sh} {rs : List (List V)} (hl : rs.length * by_ ≤ bigB) (hm : rs.length ≤ maxLen) (hs : sz = e.length) (hr : ∀ r ∈ rs, r.length = sz) (h : ∀ r ∈ rs, ∀ (j : Nat) s x, e[j]? = some s → r[j]? = some x → HasSh s x) : HasSh (.sl by_ e) (.sl sz rs)
/-- Cells. -/
structure HasL (e : List Sh) (r : List V) : Prop where
  len : r.length = e.length
  has : ∀ (j : Nat) s x, e[j]? = some s → r[j]? = some x → HasSh s x
theorem HasL.nil : HasL [] [] := ⟨rfl, fun _ _ _ h => by simp at h⟩
theorem HasL.app {e f : List Sh} {r q : List V} (h : HasL e r) (k : HasL f q) : HasL (e ++ f) (r ++ q) := ⟨by simp [h.len, k.len], fun j s x h1 h2 => by
  by_cases hj : j < e.length
  · rw [List.getElem?_append_left hj] at h1
    rw [List.getElem?_append_left (by rw [h.len]; exact hj)] at h2
    exact h.has j s x h1 h2
  · rw [List.getElem?_append_right (by omega)] at h1
    rw [List.getElem?_append_right (by rw [h.len]; omega), h.len] at h2
    exact k.has _ s x h1 h2⟩
theorem HasL.one {s : Sh} {x : V} (h : HasSh s x) : HasL [s] [x] := ⟨rfl, fun j a b h1 h2 => by
  cases j with
  | zero => simp at h1 h2; subst h1 h2; exact h
  | succ j => simp at h1⟩
theorem HasL.cons_inv {s : Sh} {e : List Sh} {r : List V} (h : HasL (s :: e) r) : ∃ x q, r = x :: q ∧ HasSh s x ∧ HasL e q := by
  cases r with
  | nil => have := h.len; simp at this
  | cons x q => exact ⟨x, q, rfl, h.has 0 s x rfl rfl, by have := h.len; simpa using this, fun j a b h1 h2 => h.has (j + 1) a b (by simpa using h1) (by simpa using h2)⟩
theorem HasL.nil_inv {r : List V} (h : HasL [] r) : r = [] := List.eq_nil_of_length_eq_zero h.len
def shFs (g : Nat → Option (List Sh)) : List (Nat × TypeId) → Nat → Option (List Sh)
  | [], _ => some []
  | (off, t) :: r, o => bif Nat.beq off o then match g t with
      | none => none
      | some l => match shFs g r (o + l.length) with
        | none => none
        | some m => some (l ++ m)
    else none
/-- The shape of a type. -/
def shT (T : List (Nat × Ty)) : Nat → Nat → Option (List Sh)
  | 0, _ => none
  | f + 1, t => match lk t T with
    | none => none
    | some i => match i.k with
      | .in_ k => bif Nat.beq i.size 1 then some [.int k] else none
      | .bo => bif Nat.beq i.size 1 then some [.bool] else none
      | .sr => bif Nat.beq i.size 1 then some [.str] else none
      | .sl e => match lk e T with
        | none => none
        | some j => match shT T f e with
          | none => none
          | some l => bif Nat.beq l.length j.size && (Nat.blt 0 j.size && Nat.beq i.size 1) then some [.sl j.bytes l] else none
      | .st fs => match shFs (shT T f) fs 0 with
        | none => none
        | some l => bif Nat.beq l.length i.size then some l else none
      | _ => none
section
variable {H : Type} {enc : TypeId × Value → H} {P : Program} {T : List (Nat × Ty)} [hT : Tys P T] {w : World} {base : Nat} {spare : Nat → Bool} {held : Bool}
abbrev zW (w : World) : Fz := ⟨⟨fun b => b < w.heap.size, fun _ => [], fun _ => True⟩, w⟩
omit hT in
theorem weightsAll_mem {e : TypeId} : ∀ {ds : List (DataW H)} {d : DataW H}, d ∈ ds → ∀ m ∈ d.weights P e, m ∈ DataW.weightsAll P e ds
  | x :: r, d, h, m, hm => by
    simp only [DataW.weightsAll, List.mem_append]
    rcases List.mem_cons.1 h with rfl | h
    · exact .inl hm
    · exact .inr (weightsAll_mem h m hm)
/-- What a cell reader of type t tells. -/
def Opn (enc : TypeId × Value → H) (P : Program) (w : World) (base : Nat) (spare : Nat → Bool) (held : Bool) (t : TypeId) (sh : List Sh) : Prop :=
  ∀ (n : Nat) (cs : List Value) (y : DataW H × List MemPlace), DataW.trod enc P w base spare held n t cs = some y → (∀ m ∈ y.1.weights P t, m ≤ bigB) → ∃ xs : List V, HasL sh xs ∧ DenVL (zW w) xs cs
theorem opn_slice {t e : TypeId} {l : List Sh} {i j : Ty} (ht : lk t T = some i) (hi : i.k = .sl e) (hj : lk e T = some j) (hl : l.length = j.size) (hp : 0 < j.size) (ih : Opn enc P w base spare held e l) : Opn enc P w base spare held t [.sl j.bytes l] := by
  intro n cs y h hw
  have ku := (hT.ok t i ht).kind
  rw [hi] at ku
  have ku : P.underlying t = some (.slice e) := ku
  obtain ⟨f, z, q1, q2, q3, _⟩ := (hT.ok e j hj).info
  have hC : P.cellsOf e = j.size := by simp [Program.cellsOf, q1, q2]
  have hBy : P.bytesOf e = j.bytes := by simp [Program.bytesOf, q1, q3]
  rcases open_slice ku h with ⟨rfl, rfl⟩ | ⟨a, len, cap, k, n', D, Pl, rfl, hb, hlc, hmx, hk, hx, hcell⟩
  · exact ⟨[.sl j.size []], .one (.sl (by simp) (by simp) (by rw [hl]) (by simp) (by simp)), ⟨rfl, rfl, fun m d u e1 e2 => by
      cases m with
      | zero => simp at e1 e2; subst e1 e2; exact .sl (b := 0) (o := 0) [] rfl (Nat.le_refl _) (Nat.zero_le _) (by simp) (fun h => absurd rfl h) rfl (by simp) rfl (by simp)
      | succ m => simp at e1⟩⟩
  · have hlk : len ≤ k := by rw [hk]; split <;> omega
    have hwt : (((List.range len).map D).length + ((List.range (k - len)).map fun j => D (len + j)).length) * P.bytesOf e ≤ bigB := hw _ (by rw [hx]; exact weights_slice ku)
    have hwe : ∀ i, i < len → ∀ m ∈ (D i).weights P e, m ≤ bigB := fun i hi m hm => hw m (by
      rw [hx]
      simp only [DataW.weights, ku, List.mem_cons, List.mem_append]
      exact .inr (.inl (weightsAll_mem (List.mem_map.2 ⟨i, List.mem_range.2 hi, rfl⟩) m hm)))
    have hE : ∀ i, i < len → ∃ (xs : List V) (cs : List Value), HasL l xs ∧ DenVL (zW w) xs cs ∧ ∀ m, m < j.size → w.cell? (a.add (i * j.size + m)) = cs[m]? := by
      intro i hil
      obtain ⟨cs', hc, ht'⟩ := hcell i (by omega)
      obtain ⟨xs, h1, h2⟩ := ih _ _ _ ht' (hwe i hil)
      rw [hC] at hc
      obtain ⟨_, hcl, hat⟩ := World.cells?_some hc
      exact ⟨xs, cs', h1, h2, fun m hm => by rw [← add_of_add]; exact hat m hm⟩
    have hL : ∀ k, k ≤ len → ∃ (rs : List (List V)) (us : List Value), rs.length = k ∧ (∀ r ∈ rs, HasL l r) ∧ DenVL (zW w) rs.flatten us ∧ us.length = k * j.size ∧ ∀ m u, us[m]? = some u → w.cell? (a.add m) = some u := by
      intro k
      induction k with
      | zero => intro _; exact ⟨[], [], rfl, by simp, .nil, by simp, by simp⟩
      | succ k ihk =>
        intro hk
        obtain ⟨rs, us, h1, h2, h3, h4, h5⟩ := ihk (by omega)
        obtain ⟨xs, cs, g1, g2, g3⟩ := hE k (by omega)
        have gl : cs.length = j.size := by rw [g2.len, g1.len, hl]
        refine ⟨rs ++ [xs], us ++ cs, by simp [h1], fun r hr => ?_, by rw [List.flatten_append]; simpa using h3.app g2, by rw [List.length_append, h4, gl, Nat.add_mul, Nat.one_mul], fun m u hu => ?_⟩
        · rcases List.mem_append.1 hr with hr | hr
          · exact h2 r hr
          · rw [List.mem_singleton.1 hr]; exact g1
        · by_cases hm : m < k * j.size
          · rw [List.getElem?_append_left (by omega)] at hu
            exact h5 m u hu
          · rw [List.getElem?_append_right (by omega), h4] at hu
            have hlt : m - k * j.size < j.size := by have := (List.getElem?_eq_some_iff.1 hu).1; omega
            have := g3 _ hlt
            rw [show k * j.size + (m - k * j.size) = m by omega] at this
            rw [this, hu]
    obtain ⟨rs, us, h1, h2, h3, h4, h5⟩ := hL len (Nat.le_refl _)
    have hlen : len * j.bytes ≤ bigB := by
      simp only [List.length_map, List.length_range, hBy] at hwt
      exact Nat.le_trans (Nat.mul_le_mul_right _ (Nat.le_add_right _ _)) hwt
    have hr : ∀ r ∈ rs, r.length = j.size := fun r hr => by rw [(h2 r hr).len, hl]
    refine ⟨[.sl j.size rs], .one (.sl (by rw [h1]; exact hlen) (by omega) hl.symm hr (fun r hr => (h2 r hr).has)), ⟨rfl, rfl, fun m d u e1 e2 => ?_⟩⟩
    cases m with
    | succ m => simp at e1
    | zero =>
      simp at e1 e2
      subst e1 e2
      by_cases hrs : rs = []
      · subst hrs
        have : len = 0 := by simpa using h1.symm
        subst this
        exact .sl (b := 0) (o := 0) [] rfl (Nat.zero_le _) (Nat.zero_le _) hr (fun h => absurd rfl h) rfl (by simp) rfl (by simp)
      · have hus : 0 < us.length := by
          rw [h4]
          have : 0 < len := by rw [← h1]; exact List.length_pos_iff.2 hrs
          exact Nat.mul_pos this hp
        obtain ⟨b, off, spot⟩ := a
        have hc0 := h5 0 _ (List.getElem?_eq_getElem hus)
        have hspot : spot = none := by simpa [Addr.add] using World.cell?_spot hc0
        subst hspot
        have hlt := cell_lt hc0
        refine .sl (b := b) (o := off) us h1 hlc (by omega) hr (fun _ => ⟨rfl, by simpa [block_of_add] using hlt⟩) h3.len (fun m u hu => ?_) h3.one h3.den
        have := h5 m u hu
        rwa [add_plain] at this
theorem opn_struct {t : TypeId} {g : Nat → Option (List Sh)} {fs : List (Nat × TypeId)} {sh : List Sh} {i : Ty} (ht : lk t T = some i) (hi : i.k = .st fs) (hs : shFs g fs 0 = some sh) (hl : sh.length = i.size) (ih : ∀ u l, g u = some l → Opn enc P w base spare held u l) (hg : ∀ u l, g u = some l → P.cellsOf u = l.length) : Opn enc P w base spare held t sh := by
  intro n cs y h hw
  have ku := (hT.ok t i ht).kind
  rw [hi] at ku
  obtain ⟨fields, k1, k2⟩ := ku
  obtain ⟨f, z, q1, q2, _⟩ := (hT.ok t i ht).info
  have hC : P.cellsOf t = i.size := by simp [Program.cellsOf, q1, q2]
  obtain ⟨xs, n', _, rfl, hcl, hxl, hf⟩ := DataW.trod_struct k1 h
  rw [hC] at hcl
  have hwf : ∀ (m : Nat) (fd : Field) (x : DataW H × List MemPlace), fields[m]? = some fd → xs[m]? = some x → ∀ q ∈ x.1.weights P fd.type, q ≤ bigB := fun m fd x e1 e2 q hq => hw q (weights_field (j := m) k1 (by rw [List.getElem?_map, Array.getElem?_toList, e1]; rfl) (by rw [List.getElem?_map, e2]; rfl) hq)
  have key : ∀ (l : List (Nat × TypeId)) (m o : Nat) (sh : List Sh), (∀ (q : Nat) p, l[q]? = some p → fs[m + q]? = some p) → shFs g l o = some sh → ∃ vs : List V, HasL sh vs ∧ ((o + sh.length ≤ cs.length) → DenVL (zW w) vs ((cs.drop o).take sh.length)) := by
    intro l
    induction l with
    | nil => intro m o sh _ hs; simp [shFs] at hs; subst hs; exact ⟨[], .nil, fun _ => by simpa using DenVL.nil⟩
    | cons p r ihl =>
      intro m o sh hp hs
      obtain ⟨off, u⟩ := p
      simp only [shFs] at hs
      cases hb : Nat.beq off o <;> rw [hb] at hs
      · cases hs
      · simp only [cond_true] at hs
        have := Nat.eq_of_beq_eq_true hb
        subst this
        cases hgu : g u with
        | none => simp only [hgu] at hs; cases hs
        | some l1 =>
          simp only [hgu] at hs
          cases hr : shFs g r (off + l1.length) with
          | none => simp only [hr] at hs; cases hs
          | some l2 =>
            simp only [hr] at hs
            injection hs with hs
            subst hs
            obtain ⟨vs, v1, v2⟩ := ihl (m + 1) _ l2 (fun q p hq => by have := hp (q + 1) p (by simpa using hq); rwa [show m + (q + 1) = m + 1 + q by omega] at this) hr
            have hfs := hp 0 (off, u) rfl
            rw [Nat.add_zero, ← k2, List.getElem?_map] at hfs
            cases hfd : fields.toList[m]? with
            | none => rw [hfd] at hfs; cases hfs
            | some fd =>
              rw [hfd] at hfs
              simp only [Option.map_some, Option.some.injEq, Prod.mk.injEq] at hfs
              obtain ⟨e1, e2⟩ := hfs
              rw [Array.getElem?_toList] at hfd
              have hrd := hf m fd hfd
              rw [e1, e2, hg u l1 hgu] at hrd
              have hmx : m < xs.length := by rw [hxl]; exact (Array.getElem?_eq_some_iff.1 hfd).1
              have hxm := List.getElem?_eq_getElem hmx
              rw [hxm] at hrd
              have hww := hwf m fd _ hfd hxm
              rw [e2] at hww
              obtain ⟨ws, w1, w2⟩ := ih u l1 hgu _ _ _ hrd hww
              refine ⟨ws ++ vs, w1.app v1, fun ho => ?_⟩
              simp only [List.length_append] at ho
              have h2 := v2 (by omega)
              have hsp : (cs.drop off).take (l1 ++ l2).length = (cs.drop off).take l1.length ++ (cs.drop (off + l1.length)).take l2.length := by
                rw [List.length_append, List.take_add, List.drop_drop]
              rw [hsp]
              exact w2.app h2
  obtain ⟨vs, v1, v2⟩ := key fs 0 0 sh (fun q p h => by rwa [Nat.zero_add]) hs
  refine ⟨vs, v1, ?_⟩
  have := v2 (by omega)
  rwa [List.drop_zero, List.take_of_length_le (by omega)] at this
omit hT in
theorem den_one {x : V} {v : Value} (h : DenV (zW w) x v) : DenVL (zW w) [x] [v] := ⟨rfl, by simp [h.one], fun m d u e1 e2 => by
  cases m with
  | zero => simp at e1 e2; subst e1 e2; exact h
  | succ m => simp at e1⟩
theorem shT_cells : ∀ {f t : Nat} {sh : List Sh}, shT T f t = some sh → P.cellsOf t = sh.length
  | 0, t, sh, h => by cases h
  | f + 1, t, sh, h => by
    simp only [shT] at h
    cases ht : lk t T with
    | none => rw [ht] at h; cases h
    | some i =>
      rw [ht] at h
      simp only at h
      obtain ⟨q, z, q1, q2, _⟩ := (hT.ok t i ht).info
      have hC : P.cellsOf t = i.size := by simp [Program.cellsOf, q1, q2]
      rw [hC]
      split at h
      · cases hb : Nat.beq i.size 1 <;> rw [hb] at h
        · cases h
        · injection h with h; subst h; exact Nat.eq_of_beq_eq_true hb
      · cases hb : Nat.beq i.size 1 <;> rw [hb] at h
        · cases h
        · injection h with h; subst h; exact Nat.eq_of_beq_eq_true hb
      · cases hb : Nat.beq i.size 1 <;> rw [hb] at h
        · cases h
        · injection h with h; subst h; exact Nat.eq_of_beq_eq_true hb
      · rename_i e hk
        split at h
        · cases h
        · rename_i j hj
          split at h
          · cases h
          · rename_i l hl
            cases hb : (Nat.beq l.length j.size && (Nat.blt 0 j.size && Nat.beq i.size 1)) <;> rw [hb] at h
            · cases h
            · injection h with h; subst h
              simp only [Bool.and_eq_true] at hb
              exact Nat.eq_of_beq_eq_true hb.2.2
      · split at h
        · cases h
        · rename_i l hl
          cases hb : Nat.beq l.length i.size <;> rw [hb] at h
          · cases h
          · injection h with h; subst h; exact (Nat.eq_of_beq_eq_true hb).symm
      · cases h
/-- An argument of a readable type is a tree of its shape. -/
theorem opn : ∀ {f t : Nat} {sh : List Sh}, shT T f t = some sh → Opn enc P w base spare held t sh
  | 0, t, sh, h => by cases h
  | f + 1, t, sh, h => by
    simp only [shT] at h
    cases ht : lk t T with
    | none => rw [ht] at h; cases h
    | some i =>
      rw [ht] at h
      simp only at h
      split at h
      · rename_i k hk
        cases hb : Nat.beq i.size 1 <;> rw [hb] at h
        · cases h
        · injection h with h; subst h
          have ku := (hT.ok t i ht).kind
          rw [hk] at ku
          have ku : P.underlying t = some (.int k) := ku
          intro n cs y hy _
          obtain ⟨z, rfl, _, hz⟩ := DataW.trod_int ku hy
          exact ⟨[.int k z], .one (.int hz), den_one (.int _ _)⟩
      · rename_i hk
        cases hb : Nat.beq i.size 1 <;> rw [hb] at h
        · cases h
        · injection h with h; subst h
          have ku := (hT.ok t i ht).kind
          rw [hk] at ku
          have ku : P.underlying t = some .bool := ku
          intro n cs y hy _
          obtain ⟨z, rfl, _⟩ := DataW.trod_bool ku hy
          exact ⟨[.bool z], .one .bool, den_one (.bool _)⟩
      · rename_i hk
        cases hb : Nat.beq i.size 1 <;> rw [hb] at h
        · cases h
        · injection h with h; subst h
          have ku := (hT.ok t i ht).kind
          rw [hk] at ku
          have ku : P.underlying t = some .string := ku
          intro n cs y hy hw
          obtain ⟨z, rfl, rfl, hz⟩ := DataW.trod_string ku hy
          have := hw z.data.toList.length (show _ ∈ [z.data.toList.length] from List.mem_singleton.2 rfl)
          have e : z.data.toList.length = z.size := Array.length_toList
          rw [e] at this
          exact ⟨[.str z], .one (.str this), den_one (.str _ hz)⟩
      · rename_i e hk
        split at h
        · cases h
        · rename_i j hj
          split at h
          · cases h
          · rename_i l hl
            cases hb : (Nat.beq l.length j.size && (Nat.blt 0 j.size && Nat.beq i.size 1)) <;> rw [hb] at h
            · cases h
            · injection h with h; subst h
              simp only [Bool.and_eq_true] at hb
              exact opn_slice ht hk hj (Nat.eq_of_beq_eq_true hb.1) (by simpa [Nat.blt_eq] using hb.2.1) (opn hl)
      · rename_i fs hk
        split at h
        · cases h
        · rename_i l hl
          cases hb : Nat.beq l.length i.size <;> rw [hb] at h
          · cases h
          · injection h with h; subst h
            exact opn_struct ht hk hl (Nat.eq_of_beq_eq_true hb) (fun u l hu => opn hu) (fun u l hu => shT_cells hu)
      · cases h
/-- An argument of one cell. -/
theorem arg_open {f t : Nat} {s : Sh} {v : Value} {d : DataW H} {p : List MemPlace} (hs : shT T f t = some [s]) (h : DataW.Trod enc P w base spare held t v d p) (hz : ∀ n ∈ d.weights P t, n ≤ bigB) (hv : v.cells = #[v]) : ∃ x, HasSh s x ∧ ∀ ρ, DenS ρ (zW w) (.d (.u x)) v := by
  obtain ⟨n, hn⟩ := h
  rw [hv] at hn
  obtain ⟨xs, h1, h2⟩ := opn hs n _ _ hn hz
  obtain ⟨x, q, rfl, h3, h4⟩ := h1.cons_inv
  have := h4.nil_inv
  subst this
  exact ⟨x, h3, fun ρ => .d (.u (h2.den 0 x v rfl rfl))⟩
end
end Go.Proofs.YtgloielnnakknaaDoor
namespace Go.Proofs.YtgloielnnakknaaDoor
open Go.ChangeShapes Go.WideShapes Go.ChangeAt Go.RowKit

section
variable {H : Type} {enc : TypeId × Value → H} {P : Program}

theorem trodAll_stays (hl : laidOutB P = true) {W W' : World} {sp' : Nat → Bool} : ∀ {ts : List TypeId} {vs : List Value} {ds : List (DataW H)} {ps : List MemPlace}, (∀ t ∈ ts, P.readableRec t = true ∧ t < P.types.size) →
    DataW.TrodAll enc P W 0 (fun _ => true) true ts vs ds ps → (∀ p ∈ ps, W.sameAt W' p) → (∀ p ∈ ps, sp' p.block = true) → DataW.TrodAll enc P W' 0 sp' true ts vs ds ps
  | [], [], [], _, _, h, _, _ => h
  | _ :: _, _ :: _, _ :: _, _, hT, ⟨p, q, h1, h2, e⟩, hm, hs =>
    ⟨p, q, WideElems.Trod_stays hl (hT _ (List.mem_cons.2 (Or.inl rfl))).1 (hT _ (List.mem_cons.2 (Or.inl rfl))).2 h1 (fun x hx => hm x (by rw [e]; exact List.mem_append_left _ hx)) (fun x hx => hs x (by rw [e]; exact List.mem_append_left _ hx)),
      trodAll_stays hl (fun t ht => hT t (List.mem_cons.2 (Or.inr ht))) h2 (fun x hx => hm x (by rw [e]; exact List.mem_append_right _ hx)) (fun x hx => hs x (by rw [e]; exact List.mem_append_right _ hx)), e⟩
  | [], [], _ :: _, _, _, h, _, _ => h.elim
  | [], _ :: _, _, _, _, h, _, _ => h.elim
  | _ :: _, [], _, _, _, h, _, _ => h.elim
  | _ :: _, _ :: _, [], _, _, h, _, _ => h.elim

/-- One closed fact: each parameter's type can be read and is a row of the table. -/
def paramsRead (P : Program) (fn : Func) : Bool := fn.params.toList.all fun t => P.readableRec t && decide (t < P.types.size)

theorem post_of_below {f : Func} {s : ChangeSpec} {apart fresh handsOn again : Bool} {W W' : World} {args : Array Value} {ds : List (DataW H)} {before : List MemPlace} {tb : TypeId}
    (hl : laidOutB P = true) (hT : paramsRead P f = true) (hres : f.resultTypes = #[tb]) (htb : P.underlying tb = some .bool) (hvars : s.vars = [])
    (hsp : s.fn H ds = { results := [.lit (.bool true)], args := ds })
    (hW : DataW.Whole enc P f.params.toList s.vars apart W args.toList ds [] before) (hb : Below W.heap.size W W') :
    s.post enc P f apart fresh handsOn again W args (.bool true) W' := by
  have hT' : ∀ t ∈ f.params.toList, P.readableRec t = true ∧ t < P.types.size := fun t ht => by
    have := List.all_eq_true.1 hT t ht
    simpa using this
  have hlt := hW.lt
  have hW' := hW
  obtain ⟨p, q, hA, hV, he, hz, hn⟩ := hW
  have hq : q = [] := by
    rw [hvars] at hV
    exact (trodVars_none hV).2
  subst hq
  rw [List.append_nil] at he
  subst he
  have hR : ∀ (b : Nat) (sp : Nat → Bool) (hd : Bool), DataW.TrodAll enc P W' b sp hd f.resultTypes.toList ((Value.bool true).resultList f.resultTypes.size) (s.fn H (ds ++ [])).results [] := by
    intro b sp hd
    rw [List.append_nil, hsp, hres]
    exact trodAll_mk1 (shut_bool htb _)
  have hG : ∀ sp : Nat → Bool, (∀ p' ∈ before, sp p'.block = true) → DataW.TrodAll enc P W' 0 sp true f.params.toList args.toList (s.fn H (ds ++ [])).args before := by
    intro sp h
    rw [List.append_nil, hsp]
    exact trodAll_stays hl hT' hA (fun x hx => hb.same (hlt x hx)) h
  have hU : ∀ sp : Nat → Bool, DataW.TrodVars enc P W' sp s.vars (s.fn H (ds ++ [])).vars [] := by
    intro sp
    rw [hvars, List.append_nil, hsp]
    rfl
  refine ⟨ds, [], before, [], before, [], hW', hR _ _ _, hG _ (fun x hx => by simpa using hlt x hx), hU _, hb.frame _, fun _ => ?_⟩
  refine ⟨ok_one hres rfl (okWide_bool_mk htb _), _, _, ([] ++ before) ++ [], ⟨[] ++ before, [], trodAll_append (hG _ (fun _ _ => rfl)) (hR _ _ _), hU _, rfl, ?_, ?_⟩, ?_⟩
  · intro b off hp
    have hp' := by simpa using hp
    rw [hb.frozen (hlt _ hp')]
    exact hz b off hp'
  · intro ha
    simpa using hn ha
  · intro x hx _
    simpa using hx
end

end Go.Proofs.YtgloielnnakknaaDoor
namespace Go.Proofs.YtgloielnnakknaaDoor
theorem bulk_one {H : Type} (d : DataW H) : 1 ≤ Rows.uptoBulk d := by
  cases d with
  | lit l => cases l <;> simp [Rows.uptoBulk]
  | nil => simp [Rows.uptoBulk]
  | ptr d => simp [Rows.uptoBulk]
  | slice elems spare => simp [Rows.uptoBulk]
  | agg parts => simp [Rows.uptoBulk]
  | iface t d => simp [Rows.uptoBulk]
  | map entries => simp [Rows.uptoBulk]
  | held h => simp [Rows.uptoBulk]
theorem bulk_len {H : Type} : ∀ (l : List (DataW H)), l.length ≤ Rows.uptoBulkAll l
  | [] => by simp [Rows.uptoBulkAll]
  | x :: r => by have := bulk_one x; have := bulk_len r; simp only [Rows.uptoBulkAll, List.length_cons]; omega
theorem bulk_entry {H : Type} (x : Lit × DataW H) : Rows.uptoBulk x.2 + 1 ≤ Rows.uptoBulkEntry x := by
  obtain ⟨l, d⟩ := x
  cases l <;> simp [Rows.uptoBulkEntry] <;> omega
theorem bulk_entries {H : Type} : ∀ (l : List (Lit × DataW H)), l.length ≤ Rows.uptoBulkEntries l
  | [] => by simp [Rows.uptoBulkEntries]
  | x :: r => by have := bulk_entry x; have := bulk_entries r; simp only [Rows.uptoBulkEntries, List.length_cons]; omega
theorem bulk_mem {H : Type} {d : DataW H} {l : List (DataW H)} (h : d ∈ l) : Rows.uptoBulk d ≤ Rows.uptoBulkAll l := by
  induction l with
  | nil => cases h
  | cons x r ih =>
    simp only [Rows.uptoBulkAll]
    rcases List.mem_cons.1 h with rfl | h
    · omega
    · have := ih h; omega
theorem le_of_mul {m a b C : Nat} (h : m ≤ a * C) (hab : a ≤ b) : m ≤ b * C := Nat.le_trans h (Nat.mul_le_mul_right C hab)
/-- The types of a type's parts are in the table; what they weigh. -/
def closedT (P : Program) : Bool := (List.range P.types.size).all fun t => decide (P.bytesOf t ≤ 4096) && match P.underlying t with
  | some (.slice e) => decide (e < P.types.size)
  | some (.pointer e) => decide (e < P.types.size)
  | some (.array _ e) => decide (e < P.types.size)
  | some (.map k e) => decide (k < P.types.size) && decide (e < P.types.size)
  | some (.struct fs) => (fs.toList.map (·.type)).all fun e => decide (e < P.types.size)
  | _ => true
theorem closed_at {P : Program} (hP : closedT P = true) {t : TypeId} (h : t < P.types.size) : P.bytesOf t ≤ 4096 ∧ (∀ e, P.underlying t = some (.slice e) → e < P.types.size) ∧ (∀ e, P.underlying t = some (.pointer e) → e < P.types.size) ∧ (∀ n e, P.underlying t = some (.array n e) → e < P.types.size) ∧ (∀ k e, P.underlying t = some (.map k e) → k < P.types.size ∧ e < P.types.size) ∧ (∀ fs, P.underlying t = some (.struct fs) → ∀ e ∈ fs.toList.map (·.type), e < P.types.size) := by
  have h1 := List.all_eq_true.1 hP t (List.mem_range.2 h)
  rw [Bool.and_eq_true] at h1
  obtain ⟨h1, h2⟩ := h1
  refine ⟨of_decide_eq_true h1, fun e q => ?_, fun e q => ?_, fun n e q => ?_, fun k e q => ?_, fun fs q => ?_⟩
  · rw [q] at h2; exact of_decide_eq_true h2
  · rw [q] at h2; exact of_decide_eq_true h2
  · rw [q] at h2; exact of_decide_eq_true h2
  · rw [q] at h2
    rw [Bool.and_eq_true] at h2
    exact ⟨of_decide_eq_true h2.1, of_decide_eq_true h2.2⟩
  · rw [q] at h2
    exact fun e he => of_decide_eq_true (List.all_eq_true.1 h2 e he)
theorem one_C {C : Nat} (hC : C = 8192) : 1 ≤ C := by rw [hC]; decide
theorem two_C {P : Program} {C : Nat} (hC : C = 8192) (hP : closedT P = true) {e k : TypeId} (h : e < P.types.size) (h' : k < P.types.size) : P.bytesOf e + P.bytesOf k ≤ C := by
  have h1 := (closed_at hP h).1
  have h2 := (closed_at hP h').1
  rw [hC]
  exact Nat.add_le_add h1 h2
mutual
theorem wb {H : Type} {P : Program} {C : Nat} (hC : C = 8192) (hP : closedT P = true) : ∀ (d : DataW H) (t : TypeId), t < P.types.size → ∀ m ∈ d.weights P t, m ≤ Rows.uptoBulk d * C
  | .lit l, t, hlt, m, h => by
    cases l with
    | string b =>
      simp only [DataW.weights, List.mem_singleton] at h
      subst h
      simp only [Rows.uptoBulk]
      exact Nat.le_trans (Nat.le_succ _) (Nat.le_trans (Nat.le_of_eq (Nat.mul_one _).symm) (Nat.mul_le_mul_left _ (one_C hC)))
    | _ => simp [DataW.weights] at h
  | .nil, t, hlt, m, h => by simp [DataW.weights] at h
  | .ptr d, t, hlt, m, h => by
    simp only [DataW.weights] at h
    simp only [Rows.uptoBulk]
    split at h
    · rename_i e q; exact le_of_mul (wb hC hP d _ ((closed_at hP hlt).2.2.1 e q) m h) (by omega)
    · cases h
  | .slice es sp, t, hlt, m, h => by
    simp only [DataW.weights] at h
    simp only [Rows.uptoBulk]
    split at h
    · rename_i e q
      have he := (closed_at hP hlt).2.1 e q
      rcases List.mem_cons.1 h with rfl | h
      · have h1 := bulk_len es
        have h2 := bulk_len sp
        exact le_of_mul (Nat.mul_le_mul (show es.length + sp.length ≤ Rows.uptoBulkAll es + Rows.uptoBulkAll sp by omega) (Nat.le_trans (Nat.le_add_right _ _) (two_C hC hP he he))) (by omega)
      · rcases List.mem_append.1 h with h | h
        · exact le_of_mul (wbAll hC hP es e he m h) (by omega)
        · exact le_of_mul (wbAll hC hP sp e he m h) (by omega)
    · cases h
  | .agg ps, t, hlt, m, h => by
    simp only [DataW.weights] at h
    simp only [Rows.uptoBulk]
    split at h
    · rename_i fs q; exact le_of_mul (wbEach hC hP ps _ ((closed_at hP hlt).2.2.2.2.2 fs q) m h) (by omega)
    · rename_i n e q; exact le_of_mul (wbAll hC hP ps _ ((closed_at hP hlt).2.2.2.1 n e q) m h) (by omega)
    · cases h
  | .iface n d, t, hlt, m, h => by simp [DataW.weights] at h
  | .map es, t, hlt, m, h => by
    simp only [DataW.weights] at h
    simp only [Rows.uptoBulk]
    split at h
    · rename_i k e q
      obtain ⟨hk, he⟩ := (closed_at hP hlt).2.2.2.2.1 k e q
      rcases List.mem_cons.1 h with rfl | h
      · exact le_of_mul (Nat.mul_le_mul (bulk_entries es) (two_C hC hP hk he)) (by omega)
      · exact le_of_mul (wbEntries hC hP es e he m h) (by omega)
    · cases h
  | .held x, t, hlt, m, h => by simp [DataW.weights] at h
theorem wbAll {H : Type} {P : Program} {C : Nat} (hC : C = 8192) (hP : closedT P = true) : ∀ (l : List (DataW H)) (t : TypeId), t < P.types.size → ∀ m ∈ DataW.weightsAll P t l, m ≤ Rows.uptoBulkAll l * C
  | [], t, hlt, m, h => by simp [DataW.weightsAll] at h
  | d :: r, t, hlt, m, h => by
    simp only [DataW.weightsAll, List.mem_append] at h
    simp only [Rows.uptoBulkAll]
    rcases h with h | h
    · exact le_of_mul (wb hC hP d t (by first | exact hlt | exact hlt _ (by simp)) m h) (by omega)
    · exact le_of_mul (wbAll hC hP r t hlt m h) (by omega)
theorem wbEach {H : Type} {P : Program} {C : Nat} (hC : C = 8192) (hP : closedT P = true) : ∀ (l : List (DataW H)) (ts : List TypeId), (∀ t ∈ ts, t < P.types.size) → ∀ m ∈ DataW.weightsEach P ts l, m ≤ Rows.uptoBulkAll l * C
  | [], ts, hlt, m, h => by cases ts <;> simp [DataW.weightsEach] at h
  | d :: r, [], hlt, m, h => by simp [DataW.weightsEach] at h
  | d :: r, t :: ts, hlt, m, h => by
    simp only [DataW.weightsEach, List.mem_append] at h
    simp only [Rows.uptoBulkAll]
    rcases h with h | h
    · exact le_of_mul (wb hC hP d t (by first | exact hlt | exact hlt _ (by simp)) m h) (by omega)
    · exact le_of_mul (wbEach hC hP r ts (fun t ht => hlt t (by simp [ht])) m h) (by omega)
theorem wbEntries {H : Type} {P : Program} {C : Nat} (hC : C = 8192) (hP : closedT P = true) : ∀ (l : List (Lit × DataW H)) (t : TypeId), t < P.types.size → ∀ m ∈ DataW.weightsEntries P t l, m ≤ Rows.uptoBulkEntries l * C
  | [], t, hlt, m, h => by simp [DataW.weightsEntries] at h
  | x :: r, t, hlt, m, h => by
    simp only [DataW.weightsEntries, List.mem_append] at h
    simp only [Rows.uptoBulkEntries]
    rcases h with h | h
    · exact le_of_mul (wbEntry hC hP x t hlt m h) (by omega)
    · exact le_of_mul (wbEntries hC hP r t hlt m h) (by omega)
theorem wbEntry {H : Type} {P : Program} {C : Nat} (hC : C = 8192) (hP : closedT P = true) : ∀ (x : Lit × DataW H) (t : TypeId), t < P.types.size → ∀ m ∈ DataW.weightsEntry P t x, m ≤ Rows.uptoBulkEntry x * C
  | (l, d), t, hlt, m, h => by
    have hb := wb hC hP d t hlt
    cases l with
    | string b =>
      simp only [DataW.weightsEntry, List.mem_cons] at h
      simp only [Rows.uptoBulkEntry]
      rcases h with rfl | h
      · exact le_of_mul (a := b.length) (Nat.le_trans (Nat.le_of_eq (Nat.mul_one _).symm) (Nat.mul_le_mul_left _ (one_C hC))) (by omega)
      · exact le_of_mul (hb m h) (by omega)
    | _ =>
      simp only [DataW.weightsEntry] at h
      simp only [Rows.uptoBulkEntry]
      exact le_of_mul (hb m h) (by omega)
end
/-- What an argument weighs. -/
theorem bulk_weights {H : Type} {P : Program} {C : Nat} (hC : C = 8192) (hP : closedT P = true) {ds : List (DataW H)} {d : DataW H} {t : TypeId} (h : Rows.uptoBulkAll ds ≤ 1048576) (hlt : t < P.types.size) (hd : d ∈ ds) {m : Nat} (hm : m ∈ d.weights P t) : m ≤ 9000000000 :=
  Nat.le_trans (wb hC hP d t hlt m hm) (Nat.le_trans (Nat.mul_le_mul (Nat.le_trans (bulk_mem hd) h) (Nat.le_of_eq hC)) (by decide))
end Go.Proofs.YtgloielnnakknaaDoor
namespace Go.Proofs.YtgloielnnakknaaDoor
open Go.ChangeShapes Go.WideShapes Go.ChangeAt Go.RowKit
theorem law_liftedU {C : Checked} {os : Os} {f : FuncId} {fn : Func} {s : ChangeSpec} {tb : TypeId} {apart fresh : Bool} {conds : List PathCond} {laid : List (String × DataW Unit)} (started : os.Started) (H : Type) (enc : TypeId × Value → H) (F : Stop.Interp)
    (own : ownKnob C.prog.godebug = none) (noInit : C.prog.inits.idxOf? f = none) (hfn : C.prog.funcs[f]? = some fn)
    (witness : ∃ (w : World) (tape : Tape) (i : Input), w.os = os ∧ (w.forCall tape i).Shaped C.prog ∧ i.vars = [] ∧ Input.okWide C.prog (w.forCall tape i) .any w.heap.size f i ∧
      (Rows.OpenSpec.upto s).preRow enc C.prog fn conds apart laid (w.forCall tape i).memory i.args ∧ ({} : Assume).holds C.prog (lone (Frame.enter C.prog f i.args .normal) [] (w.forCall tape i)))
    (hl : laidOutB C.prog = true) (hT : paramsRead C.prog fn = true) (hres : fn.resultTypes = #[tb]) (htb : C.prog.underlying tb = some .bool) (hvars : s.vars = [])
    (hsp : ∀ ds : List (DataW H), ds.length = fn.params.size → s.fn H ds = { results := [.lit (.bool true)], args := ds })
    (walk : ∀ (W : World) (base : Nat) (args : Array Value) (ds : List (DataW H)) (p : List MemPlace),
      (∀ (j : Nat) t v, fn.params[j]? = some t → args[j]? = some v → Value.okWide C.prog W .any base t v) →
      DataW.TrodAll enc C.prog W 0 (fun _ => true) true fn.params.toList args.toList ds p → (∀ x ∈ p, x.block < W.heap.size) →
      Rows.uptoBulkAll ds ≤ 1048576 →
      Calls C.prog f args W fun e W' => e = .returned (.bool true) ∧ Below W.heap.size W W') :
    ReturnsInHanded {} C os f .any ((Rows.OpenSpec.upto s).preRow enc C.prog fn conds apart laid) (((Rows.OpenSpec.upto s).at F).post enc C.prog fn apart fresh false false) := by
  refine returnsInHanded_of_row (s := Rows.OpenSpec.upto s) own started noInit hfn witness ?_
  intro W base args ds gs before hval hW0 _ hk _ _ _ _
  have hW : DataW.Whole enc C.prog fn.params.toList s.vars apart W args.toList ds gs before := hW0
  have hgs : gs = [] := by
    obtain ⟨p, q, hA, hV, he, _, _⟩ := hW
    rw [hvars] at hV
    exact (trodVars_none hV).1
  subst hgs
  have hlen : ds.length = fn.params.size := by
    obtain ⟨p, q, hA, _⟩ := hW
    have hlt : ∀ {ts : List TypeId} {vs : List Value} {ds : List (DataW H)} {ps : List MemPlace}, DataW.TrodAll enc C.prog W 0 (fun _ => true) true ts vs ds ps → ds.length = ts.length := by
      intro ts
      induction ts with
      | nil => intro vs ds ps h; cases vs <;> cases ds <;> first | rfl | exact h.elim
      | cons t ts ih =>
        intro vs ds ps h
        cases vs with
        | nil => exact h.elim
        | cons v vs =>
          cases ds with
          | nil => exact h.elim
          | cons d ds =>
            obtain ⟨p, q, _, h2, _⟩ := h
            simp [ih h2]
    simpa using hlt hA
  have hb := of_decide_eq_true (hk _ rfl)
  rw [List.append_nil] at hb
  have hlt := hW.lt
  have hp : ∃ p, DataW.TrodAll enc C.prog W 0 (fun _ => true) true fn.params.toList args.toList ds p ∧ ∀ x ∈ p, x.block < W.heap.size := by
    obtain ⟨p, q, hA, hV, he, _, _⟩ := hW
    exact ⟨p, hA, fun x hx => hlt x (by rw [he]; exact List.mem_append_left _ hx)⟩
  obtain ⟨p, hA, hpl⟩ := hp
  refine (walk W base args ds p hval hA hpl hb).mono fun e W' ⟨he, hb⟩ => ?_
  exact ⟨_, he, post_of_below hl hT hres htb hvars (hsp ds hlen) hW hb⟩
end Go.Proofs.YtgloielnnakknaaDoor
namespace Go.Proofs.YtgloielnnakknaaDoor
open Go.ChangeShapes Go.WideShapes Go.ChangeAt Go.RowKit
theorem laid_out : laidOutB Tryd.prog = true := by kernel_rfl
theorem own_knob : ownKnob Tryd.prog.godebug = none := by kernel_rfl
mutual
def cellsD : DataW Unit → List Value
  | .lit (.int k n) => [.int k n]
  | .agg ps => cellsDs ps
  | _ => []
def cellsDs : List (DataW Unit) → List Value
  | [] => []
  | d :: r => cellsD d ++ cellsDs r
end
def setCs (cs : List Value) : Obj → Obj
  | .cells _ t frozen => .cells cs.toArray t frozen
  | o => o
noncomputable def laidWorld (os : Os) : World :=
  { World.holding Tryd.prog os ⟨#[], #[], []⟩ with heap := ((World.holding Tryd.prog os ⟨#[], #[], []⟩).heap.modify 1 (setCs (cellsD Rows.laid_unicode_utf8_first))).modify 2 (setCs (cellsD Rows.laid_unicode_utf8_acceptRanges)) }
abbrev laidL : List (String × DataW Unit) := [("unicode/utf8.acceptRanges", Rows.laid_unicode_utf8_acceptRanges), ("unicode/utf8.first", Rows.laid_unicode_utf8_first)]
theorem laid_met (os : Os) (args : Array Value) : laidMet Tryd.prog laidL ((laidWorld os).forCall (fun _ _ => 0) ⟨#[], args, []⟩).memory :=
  laidMet_of_run' 8 (by kernel_rfl) (by kernel_rfl)
theorem closed_T : closedT Tryd.prog = true := by kernel_rfl
end Go.Proofs.YtgloielnnakknaaDoor
namespace Go.Proofs.YtgloielnnakknaaDoor
open Go.ChangeShapes Go.WideShapes Go.Deep Go.RowKit
abbrev shSteps : Sh := .sl 40 [.int .i64, .str, .str]
abbrev shUnits : Sh := .sl 40 [.str, shSteps]
theorem shUnits_eq : shT tt 6 32 = some [shUnits] := by rfl
structure SOk (t : Stp) : Prop where
  name : t.name.size ≤ 9000000000
  part : t.part.size ≤ 9000000000
structure UOk (u : Un) : Prop where
  name : u.name.size ≤ 9000000000
  len : u.steps.length ≤ 9000000000
  steps : ∀ t ∈ u.steps, SOk t
structure LOk (l : List Un) : Prop where
  len : l.length ≤ 9000000000
  units : ∀ u ∈ l, UOk u
theorem LOk.lb {l : List Un} (h : LOk l) : Lb l := ⟨h.len, fun u hu => (h.units u hu).len⟩
theorem rows_ofP {α β : Type} {f : α → β} {P : α → Prop} : ∀ {rs : List β}, (∀ r ∈ rs, ∃ a, r = f a ∧ P a) → ∃ l : List α, rs = l.map f ∧ ∀ a ∈ l, P a
  | [], _ => ⟨[], rfl, fun _ h => by cases h⟩
  | r :: rs, h => by
    obtain ⟨a, rfl, ha⟩ := h r (by simp)
    obtain ⟨l, rfl, hl⟩ := rows_ofP (rs := rs) fun q hq => h q (by simp [hq])
    exact ⟨a :: l, rfl, fun b hb => by
      rcases List.mem_cons.1 hb with rfl | hb
      · exact ha
      · exact hl b hb⟩
theorem steps_of {x : V} (h : HasSh shSteps x) : ∃ l : List Stp, x = .sl 3 (l.map Stp.row) ∧ l.length ≤ 9000000000 ∧ ∀ t ∈ l, SOk t := by
  cases h with | sl hl hm hs hr h =>
  rename_i rs
  subst hs
  have : ∀ r ∈ rs, ∃ a : Stp, r = a.row ∧ SOk a := fun r hr' => by
    obtain ⟨x0, q, rfl, h0, hq⟩ := HasL.cons_inv ⟨hr r hr', h r hr'⟩
    obtain ⟨x1, q, rfl, h1, hq⟩ := hq.cons_inv
    obtain ⟨x2, q, rfl, h2, hq⟩ := hq.cons_inv
    have := hq.nil_inv
    subst this
    cases h0 with | int =>
    cases h1 with | str h1 =>
    cases h2 with | str h2 =>
    exact ⟨⟨_, _, _⟩, rfl, h1, h2⟩
  obtain ⟨l, rfl, hl2⟩ := rows_ofP this
  refine ⟨l, rfl, ?_, hl2⟩
  rw [List.length_map] at hl
  have : bigB = 9000000000 := rfl
  omega
theorem units_of {x : V} (h : HasSh shUnits x) : ∃ l : List Un, x = uns l ∧ LOk l := by
  cases h with | sl hl hm hs hr h =>
  rename_i rs
  subst hs
  have : ∀ r ∈ rs, ∃ a : Un, r = a.row ∧ UOk a := fun r hr' => by
    obtain ⟨x0, q, rfl, h0, hq⟩ := HasL.cons_inv ⟨hr r hr', h r hr'⟩
    obtain ⟨x1, q, rfl, h1, hq⟩ := hq.cons_inv
    have := hq.nil_inv
    subst this
    cases h0 with | str h0 =>
    obtain ⟨b, rfl, hb1, hb2⟩ := steps_of h1
    exact ⟨⟨_, b⟩, rfl, h0, hb1, hb2⟩
  obtain ⟨l, rfl, hl2⟩ := rows_ofP this
  refine ⟨l, rfl, ?_, hl2⟩
  rw [List.length_map] at hl
  have : bigB = 9000000000 := rfl
  omega
end Go.Proofs.YtgloielnnakknaaDoor
namespace Go.Proofs.YtgloielnnakknaaDoor
open Go.ChangeShapes Go.WideShapes Go.ChangeAt Go.RowKit
abbrev rhoN : Rho := ⟨fun _ => none, fun _ _ _ => none⟩
abbrev shNames : Sh := .sl 16 [.str]
theorem shNames_eq : shT tt 6 22 = some [shNames] := by rfl
theorem names_of {x : V} (h : HasSh shNames x) : ∃ l : List ByteArray, x = strs' l ∧ l.length ≤ 9000000000 := by
  cases h with | sl hl hm hs hr h =>
  rename_i rs
  subst hs
  have : ∀ r ∈ rs, ∃ a : ByteArray, r = [V.str a] ∧ True := fun r hr' => by
    obtain ⟨x0, q, rfl, h0, hq⟩ := HasL.cons_inv ⟨hr r hr', h r hr'⟩
    have := hq.nil_inv
    subst this
    cases h0 with | str h0 => exact ⟨_, rfl, trivial⟩
  obtain ⟨l, rfl, _⟩ := rows_ofP this
  refine ⟨l, rfl, ?_⟩
  rw [List.length_map] at hl
  have : bigB = 9000000000 := rfl
  omega
set_option maxRecDepth 100000 in
theorem stay_lifted (os : Os) (started : os.Started) (H : Type) (enc : TypeId × Value → H) (F : Stop.Interp) :
    ReturnsInHanded {} Tryd.checked os 7 .any ((Rows.OpenSpec.upto Rows.modulesDefinitionsStaySpec).preRow enc Tryd.prog Tryd.f7 Rows.modulesDefinitionsStayUptoRow.domain false Rows.modulesDefinitionsStayUptoRow.laid) (((Rows.OpenSpec.upto Rows.modulesDefinitionsStaySpec).at F).post enc Tryd.prog Tryd.f7 false true false false) := by
  have hx : ∃ places, DataW.whole enc Tryd.prog ((laidWorld os).forCall (fun _ _ => 0) ⟨#[], #[.slice none 0 0, .slice none 0 0], []⟩).memory Tryd.f7.params.toList Rows.modulesDefinitionsStaySpec.vars false #[Value.slice none 0 0, .slice none 0 0].toList 8 = some ([.nil, .nil], [], places) := ⟨[], by kernel_rfl⟩
  obtain ⟨places, hx⟩ := hx
  refine law_liftedU (C := Tryd.checked) (s := Rows.modulesDefinitionsStaySpec) (tb := 4) started H enc F own_knob (by kernel_rfl) Tryd.func7
    (witness_row_at (enc := enc) (C := Tryd.checked) false (laidWorld os) #[.slice none 0 0, .slice none 0 0] rfl (by kernel_rfl) (by kernel_rfl) (by kernel_rfl)
      (OpenSpec.preRow_of_cond 8 hx (by kernel_rfl) (fun k hk => by cases hk; kernel_rfl) (by kernel_rfl) (laid_met os _)))
    laid_out (by kernel_rfl) (by kernel_rfl) Tryd.underlying4 rfl ?_ ?_
  · intro ds hl
    match ds, hl with
    | [d, d'], _ => rfl
  · intro W base args ds p hval hA hp hz
    have hval' : ∀ (j : Nat) t v, Tryd.f7.params[j]? = some t → args[j]? = some v → Value.okWide Tryd.prog W .any base t v := hval
    have hA' : DataW.TrodAll enc Tryd.prog W 0 (fun _ => true) true Tryd.f7.params.toList args.toList ds p := hA
    rw [Tryd.params7] at hA' hval'
    obtain ⟨v0, v1, d0, d1, p0, p1, rfl, rfl, rfl, h0, h1⟩ := trodAll_two hA'
    obtain ⟨A1, l1, c1, rfl⟩ := okWide_slice Tryd.underlying22 (hval' 1 _ v1 rfl rfl)
    obtain ⟨A0, l0, c0, rfl⟩ := okWide_slice Tryd.underlying32 (hval' 0 _ v0 rfl rfl)
    obtain ⟨x, q1, q2⟩ := arg_open (T := tt) shUnits_eq h0 (fun n hn => bulk_weights rfl closed_T hz (by decide +kernel) List.mem_cons_self hn) rfl
    obtain ⟨l, rfl, hok⟩ := units_of q1
    obtain ⟨y, r1, r2⟩ := arg_open (T := tt) shNames_eq h1 (fun n hn => bulk_weights rfl closed_T hz (by decide +kernel) (List.mem_cons_of_mem _ List.mem_cons_self) hn) rfl
    obtain ⟨ns, rfl, hns⟩ := names_of r1
    refine calls_of_A (vs := [.slice A0 l0 c0, .slice A1 l1 c1]) (law_stay_T l hok.lb ns hns) ⟨rfl, fun j s v e1 e2 => ?_, fun _ h => h⟩
    match j with
    | 0 => simp at e1 e2; subst e1 e2; exact q2 rhoN
    | 1 => simp at e1 e2; subst e1 e2; exact r2 rhoN
    | j + 2 => simp at e1
theorem stay_said : Rows.ModulesDefinitionsStayUptoSaid :=
  OpenClaim.holds_of_cond 7 Tryd.f7 rfl rfl rfl rfl rfl rfl rfl ⟨rfl, rfl, rfl, rfl, rfl⟩ rfl rfl rfl rfl rfl (by kernel_rfl) Tryd.func7 (by kernel_rfl)
    (of_decide_eq_true (by kernel_rfl)) (by unfold Func.isWrapper; first | (rw [if_pos (by decide +kernel)]; kernel_rfl) | (rw [if_neg (by decide +kernel)]; exact ⟨rfl, rfl⟩))
    (fun os started H enc _ F => by rw [OpenClaim.pre_eq_preRow]; exact stay_lifted os started H enc F)
theorem stay_plain (f : FuncId) (fn : Func) (hf : Tryd.pinned.checked.prog.funcNamed "brindlewood/brindlewoodlaw6.ModulesDefinitionsStay" = some f) (hfn : Tryd.pinned.checked.prog.funcs[f]? = some fn) :
    false = Tryd.pinned.checked.prog.looks [] ∧ ∀ (j : Nat) t, fn.params[j]? = some t → Tryd.pinned.checked.prog.wantsStandIn t = false := by
  obtain rfl : f = 7 := Option.some.inj ((show Tryd.prog.funcNamed "brindlewood/brindlewoodlaw6.ModulesDefinitionsStay" = some 7 by kernel_rfl).symm.trans hf) |>.symm
  obtain rfl : fn = Tryd.f7 := (Option.some.inj (Tryd.func7.symm.trans hfn)).symm
  refine ⟨by kernel_rfl, fun j t ht => ?_⟩
  rw [Tryd.params7] at ht
  have hm := Array.mem_of_getElem? ht
  simp only [List.mem_toArray, List.mem_cons, List.not_mem_nil, or_false] at hm
  rcases hm with rfl | rfl
  · exact (show Tryd.prog.wantsStandIn 32 = false by kernel_rfl)
  · exact (show Tryd.prog.wantsStandIn 22 = false by kernel_rfl)
theorem stay_holds : Rows.ModulesDefinitionsStayUptoCardSaid :=
  Claim7.holds_tied_plain_at .later [] _ _ _ _ stay_said (fun _ h => by cases h) (by kernel_rfl) (fun _ h => by cases h) modulesDefinitionsStayUpto_row_tie rfl ⟨rfl, rfl⟩ (by kernel_rfl) rfl stay_plain (by kernel_rfl)
#print axioms stay_holds
end Go.Proofs.YtgloielnnakknaaDoor
