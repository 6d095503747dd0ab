/-
  EventloopNextMatchesSpec: the walk.
-/
import Derived.Test.YtgiebofmfkacgaaCk4
import Derived.Test.YtgiebofmfkacgaaElP3
namespace Go.Proofs.Ytgiebofmfkacgaa
open Go.RowKit

theorem folF_spec (a : Int) : ∀ (l : List Tm) (rs : List Int) (acc : List Tm), folF a rs acc l = (rs ++ (l.filter (·.at_ == a)).map (·.task), acc ++ l.filter (fun t => !(t.at_ == a)))
  | [], rs, acc => by simp [folF]
  | t :: l, rs, acc => by
    simp only [folF]
    by_cases h : t.at_ == a
    · rw [if_pos h, folF_spec a l]; simp [h, List.append_assoc]
    · rw [if_neg h, folF_spec a l]; simp [h, List.append_assoc]
theorem filter_sorted (a : Int) {l : List Tm} (h : l.Pairwise Later) (ha : ∀ x ∈ l, a ≤ x.at_) : l.filter (·.at_ == a) = l.takeWhile (·.at_ == a) ∧ l.filter (fun t => !(t.at_ == a)) = l.dropWhile (·.at_ == a) := by
  have hd := dropWhile_gt a l h ha
  have ht : ∀ x ∈ l.takeWhile (·.at_ == a), (x.at_ == a) = true := fun x hx => List.all_eq_true.1 (List.all_takeWhile (p := fun t : Tm => t.at_ == a) (l := l)) x hx
  constructor
  · conv => lhs; rw [← List.takeWhile_append_dropWhile (p := fun t : Tm => t.at_ == a) (l := l)]
    rw [List.filter_append, List.filter_eq_self.2 ht, List.filter_eq_nil_iff.2 (fun x hx => by have := hd x hx; simp; omega), List.append_nil]
  · conv => lhs; rw [← List.takeWhile_append_dropWhile (p := fun t : Tm => t.at_ == a) (l := l)]
    rw [List.filter_append, List.filter_eq_nil_iff.2 (fun x hx => by simp [ht x hx]), List.filter_eq_self.2 (fun x hx => by have := hd x hx; simp; omega), List.nil_append]
theorem fol_fire {c : Ck} (h : Valid c) : folC c = fire c := by
  obtain ⟨now, ser, rs, ts⟩ := c
  cases rs with
  | cons n l => rfl
  | nil =>
    cases ts with
    | nil => rfl
    | cons t l =>
      have hs := h.sorted
      dsimp only at hs
      have ha : ∀ x ∈ t :: l, t.at_ ≤ x.at_ := by
        intro x hx
        rcases List.mem_cons.1 hx with rfl | hx
        · exact Int.le_refl _
        · have := (later_iff t x).1 ((List.pairwise_cons.1 hs).1 x hx)
          omega
      obtain ⟨e1, e2⟩ := filter_sorted t.at_ hs ha
      rw [fire_cons]
      simp only [folC, folF_spec, List.nil_append, e1, e2]
theorem cf_valid {c : Ck} (h : (clockFault c).1 = 0) : Valid c := (valid_iff c).1 (by rw [← fault_eq]; exact h)
theorem valid_len {c : Ck} (h : Valid c) : c.rs.length ≤ 1000 ∧ c.ts.length ≤ 1000 := by
  have := h.len; omega
theorem cf_len {c : Ck} (h : (clockFault c).1 = 0) : c.rs.length ≤ 1000 ∧ c.ts.length ≤ 1000 := valid_len (cf_valid h)
theorem fire_len (c : Ck) : (fire c).rs.length + (fire c).ts.length = c.rs.length + c.ts.length := by
  have := congrArg List.length (tasks_fire c)
  simpa using this
theorem popM_small {c : Ck} (h : Small c) : Small (popM c).1 := by
  obtain ⟨now, ser, rs, ts⟩ := c
  cases rs with
  | nil => exact ⟨by simp [popM], by simp [popM]⟩
  | cons n l => exact ⟨by have := h.rs; simp [popM] at this ⊢; omega, by have := h.ts; simpa [popM] using this⟩
theorem popF_small {c : Ck} (h : Small c) : Small (popF c).1 := by
  obtain ⟨now, ser, rs, ts⟩ := c
  cases rs with
  | nil => exact ⟨by simp [popF], by simp [popF]⟩
  | cons n l => exact ⟨by have := h.rs; simp [popF] at this ⊢; omega, by have := h.ts; simpa [popF] using this⟩
theorem valid_small {c : Ck} (h : Valid c) : Small c := by
  have := h.len; exact ⟨by omega, by omega⟩
theorem next_small (c : Ck) : Small (nextM c).1 := by
  unfold nextM
  split
  · rename_i h
    exact popM_small (valid_small (fire_valid ((valid_iff c).1 h)))
  · exact ⟨by simp, by simp⟩
theorem fol_small {c : Ck} (h : (clockFault c).1 = 0) : Small (popF (folC c)).1 := by
  rw [fol_fire (cf_valid h)]
  exact popF_small (valid_small (fire_valid (cf_valid h)))
theorem sameCk_refl (c : Ck) : sameCk c c = true := by
  have h1 : ∀ l : List Int, sameInts l l = true := fun l => by simp [sameInts]
  have h2 : ∀ l : List Tm, sameTms l l = true := fun l => by simp [sameTms]
  simp [sameCk, h1, h2]
theorem next_bad {c : Ck} (h : ¬ (clockFault c).1 = 0) : nextM c = (⟨0, 0, [], []⟩, (0, clockFault c)) := by
  rw [fault_eq] at h ⊢
  simp [nextM, h]
theorem pop_eq (c : Ck) : ((popF c).2.2 = false → popM c = (⟨0, 0, [], []⟩, (0, (10, -1)))) ∧ ((popF c).2.2 = true → popM c = ((popF c).1, ((popF c).2.1, (0, 0)))) := by
  obtain ⟨now, ser, rs, ts⟩ := c
  cases rs <;> simp [popF, popM]
theorem next_none {c : Ck} (h : (clockFault c).1 = 0) (hp : (popF (folC c)).2.2 = false) : nextM c = (⟨0, 0, [], []⟩, (0, (10, -1))) := by
  rw [fol_fire (cf_valid h)] at hp
  have h' := h
  rw [fault_eq] at h'
  simp only [nextM, h', if_true]
  exact (pop_eq _).1 hp
theorem next_some {c : Ck} (h : (clockFault c).1 = 0) (hp : (popF (folC c)).2.2 = true) : nextM c = ((popF (folC c)).1, ((popF (folC c)).2.1, (0, 0))) := by
  rw [fol_fire (cf_valid h)] at hp ⊢
  have h' := h
  rw [fault_eq] at h'
  simp only [nextM, h', if_true]
  exact (pop_eq _).2 hp
set_option maxHeartbeats 1000000 in
theorem law_next_T (c : Ck) (hs : Small c) : CallsA Try.prog 4 [.a c.d] [] (Is (db true)) := by
  obtain ⟨now, ser, rs, ts⟩ := c
  have hn := next_small ⟨now, ser, rs, ts⟩
  dsimp only [Ck.d]
  refine callsA_of_vc (T := tt) Try.func4 rfl rfl rfl rfl rfl ?_
  repeat' ((conv => whnf); first | with_reducible refine And.intro ?_ ?_ | with_reducible refine Brn.T rfl ?_ | with_reducible refine Brn.F rfl ?_ | refine Brn.T (by (try simp only [smT]); first | rfl | assumption | omega | (simp only [*]; done) | (simp [*]; done) | fail) ?_ | refine Brn.F (by (try simp only [smT]); first | rfl | assumption | omega | (simp only [*]; done) | (simp [*]; done) | fail) ?_ | (refine Brn.mk (fun hb => ?_) (fun hb => ?_) <;> (try simp only [smT] at hb) <;> (try (exfalso; omega))) | (refine Bnd.mk (fun hm => ?_); (try simp only [smT] at hm)) | refine Rng.mk (by (try simp only [smT]); omega) ?_ | refine Ix.map rfl (by (try simp only [smT]); omega) ?_ | refine Ix.map (m := 0) rfl (by (try simp only [smT]); omega) ?_ | refine Ix.lit (m := 0) rfl rfl ?_ | refine Ixo.mk ⟨_, rfl, (by (try simp only [smT]); omega), ?_⟩ | refine Rw.map (by (try simp only [smT]); omega) ?_ | refine Len.mk (by first | rfl | (simp; done) | (simp only [smT]; assumption) | (simp only [smT]; omega)) ?_ | refine Eqv.mk (by kernel_rfl) ?_ | refine Apd.mk (by first | rfl | simp) (by first | rfl | simp) (by (try simp only [smT]); first | omega | (simp; omega)) (by unfold maxLen; first | (simp; done) | (simp; omega) | omega) ?_ | refine Raw.appendIn (T := tt) rfl rfl rfl rfl rfl rfl rfl rfl rfl rfl (by (try simp only [smT]); omega) (by (try simp only [smT]); omega) ?_ | refine Raw.clear (T := tt) rfl rfl rfl rfl rfl rfl rfl (by (try simp only [smT]); omega) ?_ | refine Slc.mk ⟨_, _, rfl, rfl, (by (try simp only [smT]); omega), (by (try simp only [smT]); omega), ?_⟩ | refine Slc.mk ⟨0, _, rfl, rfl, (by (try simp only [smT]); omega), (by (try simp only [smT]); omega), ?_⟩ | refine Slc.mk ⟨1, _, rfl, rfl, (by (try simp only [smT]); omega), (by (try simp only [smT]); omega), ?_⟩ | refine Slc3.mk ⟨_, _, _, rfl, rfl, rfl, (by (try simp only [smT]); omega), (by (try simp only [smT]); omega), (by (try simp only [smT]); omega)⟩ ?_ | refine Drw.of (T := tt) (i := 7) [] [(0, true), (1, false), (2, true), (3, true), (4, true), (5, false), (6, true), (7, true), (8, true), (9, true), (10, true), (11, true), (12, false), (13, true), (14, true)] (by kernel_rfl) ?_ | (refine CL.mk (Or.inl ?_); (conv => whnf); first | refine Cl.is (next_T ⟨_, _, _, _⟩ hs) rfl (by first | exact fun _ => rfl | (intro e; cases e; done) | fail) ?_ | refine Cl.is (clockfault_T ⟨_, _, _, _⟩ hs) rfl (by first | exact fun _ => rfl | (intro e; cases e; done) | fail) ?_ | refine Cl.is (none_T ⟨_, _, _, _⟩ hn) rfl (by first | exact fun _ => rfl | (intro e; cases e; done) | fail) ?_ | refine Cl.is (clocked_T) rfl (by first | exact fun _ => rfl | (intro e; cases e; done) | fail) ?_ | refine Cl.is (following_T ⟨_, _, _, _⟩ (cf_len (by assumption)).1 (cf_len (by assumption)).2) rfl (by first | exact fun _ => rfl | (intro e; cases e; done) | fail) ?_ | refine Cl.is (at_T _ _) rfl (by first | exact fun _ => rfl | (intro e; cases e; done) | fail) ?_ | refine Cl.is (sameclock_T ⟨_, _, _, _⟩ ⟨_, _, _, _⟩ hn (fol_small (by assumption))) rfl (by first | exact fun _ => rfl | (intro e; cases e; done) | fail) ?_) | (refine CL.mk (Or.inl ?_); (conv => whnf); refine ClO.mk (Or.inl ?_); (repeat ((conv => whnf); refine Len.mk (by first | rfl | (simp; done) | (simp only [smT]; assumption) | (simp only [smT]; omega)) ?_)); (conv => whnf); first | refine Cl.is (next_T ⟨_, _, _, _⟩ hs) rfl (by first | exact fun _ => rfl | (intro e; cases e; done) | fail) ?_ | refine Cl.is (clockfault_T ⟨_, _, _, _⟩ hs) rfl (by first | exact fun _ => rfl | (intro e; cases e; done) | fail) ?_ | refine Cl.is (none_T ⟨_, _, _, _⟩ hn) rfl (by first | exact fun _ => rfl | (intro e; cases e; done) | fail) ?_ | refine Cl.is (clocked_T) rfl (by first | exact fun _ => rfl | (intro e; cases e; done) | fail) ?_ | refine Cl.is (following_T ⟨_, _, _, _⟩ (cf_len (by assumption)).1 (cf_len (by assumption)).2) rfl (by first | exact fun _ => rfl | (intro e; cases e; done) | fail) ?_ | refine Cl.is (at_T _ _) rfl (by first | exact fun _ => rfl | (intro e; cases e; done) | fail) ?_ | refine Cl.is (sameclock_T ⟨_, _, _, _⟩ ⟨_, _, _, _⟩ hn (fol_small (by assumption))) rfl (by first | exact fun _ => rfl | (intro e; cases e; done) | fail) ?_) | (refine CL.mk (Or.inl ?_); (conv => whnf); refine ClO.mk (Or.inr ?_); (repeat ((conv => whnf); refine Len.mk (by first | rfl | (simp; done) | (simp only [smT]; assumption) | (simp only [smT]; omega)) ?_)); (conv => whnf); first | refine Cl.is (next_T ⟨_, _, _, _⟩ hs) rfl (by first | exact fun _ => rfl | (intro e; cases e; done) | fail) ?_ | refine Cl.is (clockfault_T ⟨_, _, _, _⟩ hs) rfl (by first | exact fun _ => rfl | (intro e; cases e; done) | fail) ?_ | refine Cl.is (none_T ⟨_, _, _, _⟩ hn) rfl (by first | exact fun _ => rfl | (intro e; cases e; done) | fail) ?_ | refine Cl.is (clocked_T) rfl (by first | exact fun _ => rfl | (intro e; cases e; done) | fail) ?_ | refine Cl.is (following_T ⟨_, _, _, _⟩ (cf_len (by assumption)).1 (cf_len (by assumption)).2) rfl (by first | exact fun _ => rfl | (intro e; cases e; done) | fail) ?_ | refine Cl.is (at_T _ _) rfl (by first | exact fun _ => rfl | (intro e; cases e; done) | fail) ?_ | refine Cl.is (sameclock_T ⟨_, _, _, _⟩ ⟨_, _, _, _⟩ hn (fol_small (by assumption))) rfl (by first | exact fun _ => rfl | (intro e; cases e; done) | fail) ?_))
  all_goals (conv => whnf)
  all_goals first
    | exact Ret.is rfl
    | skip
  all_goals exfalso
  all_goals clear hs hn
  all_goals first
    | (have e := next_bad (by assumption); simp only [e] at *; simp_all [sameCk_refl]; done)
    | (have e := next_none (by assumption) (by assumption); simp only [e] at *; simp_all [sameCk_refl]; done)
    | (have e := next_some (by assumption) (by assumption); simp only [e] at *; simp_all [sameCk_refl]; done)
end Go.Proofs.Ytgiebofmfkacgaa
