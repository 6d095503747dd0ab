/-
  EventloopSleepMatchesSpec: the walk.
-/
import Derived.Test.YtgiebofmfkacgaaLw2
namespace Go.Proofs.Ytgiebofmfkacgaa
open Go.RowKit

theorem slpA_placed (t : Tm) : ∀ (l acc : List Tm), l.foldl (slpS t) (acc, true) = (acc ++ l, true)
  | [], acc => by simp
  | x :: l, acc => by
    have : slpS t (acc, true) x = (acc ++ [x], true) := by simp [slpS]
    rw [List.foldl_cons, this, slpA_placed t l]; simp
theorem slpA_open (t : Tm) : ∀ (l acc : List Tm), l.foldl (slpS t) (acc, false) = (if l.any (fun x => laterB x t) then (acc ++ l.takeWhile (fun x => !laterB x t) ++ t :: l.dropWhile (fun x => !laterB x t), true) else (acc ++ l, false))
  | [], acc => by simp
  | x :: l, acc => by
    rw [List.foldl_cons]
    by_cases h : laterB x t
    · have : slpS t (acc, false) x = (acc ++ [t] ++ [x], true) := by simp [slpS, h]
      rw [this, slpA_placed]
      simp [h]
    · have : slpS t (acc, false) x = (acc ++ [x], false) := by simp [slpS, h]
      rw [this, slpA_open t l]
      simp [h]
theorem while_all {α : Type} {p : α → Bool} : ∀ {l : List α}, (∀ x ∈ l, p x = true) → l.takeWhile p = l ∧ l.dropWhile p = []
  | [], _ => by simp
  | x :: l, h => by
    have := while_all (l := l) fun y hy => h y (List.mem_cons_of_mem _ hy)
    simp [h x List.mem_cons_self, this.1, this.2]
theorem sleptT_eq (t : Tm) (ts : List Tm) : sleptT t ts = ts.takeWhile (fun x => !laterB x t) ++ t :: ts.dropWhile (fun x => !laterB x t) := by
  unfold sleptT slpA
  rw [slpA_open]
  by_cases h : ts.any (fun x => laterB x t)
  · simp [h]
  · have h' : ∀ x ∈ ts, (!laterB x t) = true := by simpa using h
    rw [if_neg h]
    simp only [Bool.false_eq_true, if_false, List.nil_append]
    obtain ⟨e1, e2⟩ := while_all h'
    rw [e1, e2]
theorem while_at {α : Type} {p : α → Bool} : ∀ {l : List α} {i : Nat}, i ≤ l.length → (∀ a (h : a < l.length), a < i → p l[a] = true) → (∀ (h : i < l.length), p l[i] = false) → l.takeWhile p = l.take i ∧ l.dropWhile p = l.drop i
  | [], i, hi, _, _ => by simp at hi; subst hi; simp
  | x :: l, 0, hi, _, h2 => by have := h2 (by simp); simp at this; simp [this]
  | x :: l, i + 1, hi, h1, h2 => by
    have hx := h1 0 (by simp) (by omega)
    simp only [List.getElem_cons_zero] at hx
    have := while_at (l := l) (i := i) (by simpa using hi) (fun a h ha => by have := h1 (a + 1) (by simpa using h) (by omega); simpa using this) (fun h => by have := h2 (by simpa using h); simpa using this)
    simp [hx, this.1, this.2]
theorem ins_slept {ts : List Tm} {t : Tm} (hs : ts.Pairwise Later) (ht : ∀ x ∈ ts, x.ser < t.ser) : insT ts (bsf ts t) t = sleptT t ts := by
  have hb : ∀ a (h : a < ts.length), before ts t a = !laterB ts[a] t := fun a h => by
    simp only [before, List.getElem?_eq_getElem h]
    have hx := ht ts[a] (List.getElem_mem h)
    generalize ts[a] = x at *
    obtain ⟨x1, x2, x3⟩ := x
    obtain ⟨t1, t2, t3⟩ := t
    simp only [orderI, orI, cmpI, laterB] at *
    by_cases h1 : x1 < t1
    · have : ¬ t1 < x1 := by omega
      have : ¬ x1 = t1 := by omega
      simp [*]
    · by_cases h2 : t1 < x1
      · simp [h1, h2]
      · have : x1 = t1 := by omega
        subst this
        have : ¬ t2 < x2 := by omega
        simp [*]
  have hmono : ∀ a b, a < b → b < ts.length → before ts t b = true → before ts t a = true := fun a b hab hbl h => by
    rw [hb b hbl] at h
    rw [hb a (by omega)]
    have hl : Later ts[a] ts[b] := List.pairwise_iff_getElem.1 hs a b (by omega) hbl hab
    have h' : laterB ts[b] t = false := by simpa using h
    cases hq : laterB ts[a] t
    · rfl
    · have : laterB ts[b] t = true := later_trans (a := t) (b := ts[a]) (c := ts[b]) hq hl
      rw [this] at h'; cases h'
  obtain ⟨q1, q2, q3, q4⟩ := bs_spec (before ts t) ts.length hmono (ts.length - 0) 0 ts.length (Nat.le_refl _) (Nat.zero_le _) (Nat.le_refl _)
  rw [sleptT_eq, insT]
  obtain ⟨w1, w2⟩ := while_at (p := fun x => !laterB x t) (l := ts) (i := bsf ts t) q2 (fun a h ha => by rw [← hb a h]; exact q3 a (Nat.zero_le _) ha) (fun h => by rw [← hb _ h]; exact q4 _ (Nat.le_refl _) h)
  rw [w1, w2]
theorem ready_small (c : Ck) (n : Int) : Small (readyM c n).1 := by
  unfold readyM
  split
  · rename_i h
    have := idle_small h
    exact ⟨by simp; omega, by dsimp only; omega⟩
  · exact ⟨by simp, by simp⟩
theorem sleep_small (c : Ck) (n d : Int) : Small (sleepM c n d).1 := by
  unfold sleepM
  split
  · rename_i h
    have := idle_small h
    split
    · exact ⟨by simp, by simp⟩
    · split
      · exact ready_small c n
      · split
        · refine ⟨by dsimp only; omega, ?_⟩
          dsimp only
          rw [insT_length _ _ _ (bsf_le _ _)]; omega
        · exact ⟨by simp, by simp⟩
  · exact ⟨by simp, by simp⟩
theorem in_T' (n lo hi : Int) : CallsA Try.prog 15 [di n, di lo, di hi] [] (Is (db (decide (lo ≤ n) && decide (n ≤ hi)))) := in_T n lo hi
theorem slept_T' (c : Ck) (x d : Int) (y : Ck) (e : sleptM c x d = y) (h : c.rs.length ≤ 1000000) (h2 : c.ts.length ≤ 1000000) (hs : -4611686018427387904 ≤ c.now + d ∧ c.now + d ≤ 4611686018427387904) (hs2 : -4611686018427387904 ≤ c.ser ∧ c.ser ≤ 4611686018427387904) : CallsA Try.prog 22 [.a c.d, di x, di d] [] (Is (.a y.d)) := e ▸ slept_T c x d h h2 hs hs2
theorem sleptT_len (t : Tm) (ts : List Tm) : (sleptT t ts).length = ts.length + 1 := by
  rw [sleptT_eq]
  have := congrArg List.length (List.takeWhile_append_dropWhile (p := fun x => !laterB x t) (l := ts))
  simp only [List.length_append, List.length_cons] at this ⊢
  omega
theorem slept_small {c : Ck} (n d : Int) (h : Valid c) : Small (sleptM c n d) := by
  have := h.len
  unfold sleptM
  split
  · exact ⟨by simp [enq]; omega, by dsimp only [enq]; omega⟩
  · exact ⟨by dsimp only; omega, by dsimp only; rw [sleptT_len]; omega⟩
/-- What Ready and Sleep answer. -/
theorem idle_eq {c : Ck} {n : Int} (hv : (clockFault c).1 = 0) : idleF c n = if timeB n then (if busy c.rs c.ts n then (8, -2) else if c.rs.length + c.ts.length = 1000 then (2, -2) else (0, 0)) else (4, -2) := by
  rw [fault_eq] at hv
  have h : (has c.rs n || busyT c.ts n) = (busyT c.ts n || has c.rs n) := Bool.or_comm _ _
  unfold idleF busy
  rw [if_pos hv, h]
theorem timeB_iff (n : Int) : timeB n = true ↔ 0 ≤ n ∧ n ≤ 1000000000000000 := by simp [timeB]
theorem both_of_bad {c : Ck} {n : Int} (d : Int) {f : Int × Int} (h : idleF c n = f) (hf : f.1 ≠ 0) : readyM c n = (⟨0, 0, [], []⟩, f) ∧ sleepM c n d = (⟨0, 0, [], []⟩, f) := by
  subst h
  simp [readyM, sleepM, hf]
theorem idle_rng {c : Ck} {n : Int} (d : Int) (hv : (clockFault c).1 = 0) (h : n < 0 ∨ 1000000000000000 < n) : readyM c n = (⟨0, 0, [], []⟩, (4, -2)) ∧ sleepM c n d = (⟨0, 0, [], []⟩, (4, -2)) := by
  have : ¬ timeB n = true := by rw [timeB_iff]; omega
  exact both_of_bad d (by rw [idle_eq hv, if_neg this]) (by decide)
theorem idle_busy {c : Ck} {n : Int} (d : Int) (hv : (clockFault c).1 = 0) (h : 0 ≤ n ∧ n ≤ 1000000000000000) (hb : busy c.rs c.ts n = true) : readyM c n = (⟨0, 0, [], []⟩, (8, -2)) ∧ sleepM c n d = (⟨0, 0, [], []⟩, (8, -2)) :=
  both_of_bad d (by rw [idle_eq hv, if_pos ((timeB_iff n).2 h), if_pos hb]) (by decide)
theorem idle_full {c : Ck} {n : Int} (d : Int) (hv : (clockFault c).1 = 0) (h : 0 ≤ n ∧ n ≤ 1000000000000000) (hb : busy c.rs c.ts n = false) (hl : (c.rs.length : Int) + (c.ts.length : Int) = 1000) : readyM c n = (⟨0, 0, [], []⟩, (2, -2)) ∧ sleepM c n d = (⟨0, 0, [], []⟩, (2, -2)) :=
  both_of_bad d (by rw [idle_eq hv, if_pos ((timeB_iff n).2 h), hb, if_neg (by simp), if_pos (by omega)]) (by decide)
theorem idle_ok {c : Ck} {n : Int} (hv : (clockFault c).1 = 0) (h : 0 ≤ n ∧ n ≤ 1000000000000000) (hb : busy c.rs c.ts n = false) (hl : ¬ (c.rs.length : Int) + (c.ts.length : Int) = 1000) : (idleF c n).1 = 0 := by
  rw [idle_eq hv, if_pos ((timeB_iff n).2 h), hb, if_neg (by simp), if_neg (by omega)]
theorem ready_ok {c : Ck} {n : Int} (hv : (clockFault c).1 = 0) (h : 0 ≤ n ∧ n ≤ 1000000000000000) (hb : busy c.rs c.ts n = false) (hl : ¬ (c.rs.length : Int) + (c.ts.length : Int) = 1000) : readyM c n = (enq c n, (0, 0)) := by
  simp [readyM, idle_ok hv h hb hl, enq]
theorem sleep_rng {c : Ck} {n d : Int} (hv : (clockFault c).1 = 0) (h : 0 ≤ n ∧ n ≤ 1000000000000000) (hb : busy c.rs c.ts n = false) (hl : ¬ (c.rs.length : Int) + (c.ts.length : Int) = 1000) (hd : d < 0 ∨ 1000000000 < d) : sleepM c n d = (⟨0, 0, [], []⟩, (4, -3)) := by
  simp [sleepM, idle_ok hv h hb hl, hd]
theorem sleep_big {c : Ck} {n d : Int} (hv : (clockFault c).1 = 0) (h : 0 ≤ n ∧ n ≤ 1000000000000000) (hb : busy c.rs c.ts n = false) (hl : ¬ (c.rs.length : Int) + (c.ts.length : Int) = 1000) (hd : 0 < d) (hd2 : d ≤ 1000000000) (hx : 1000000000000000 < c.now + d ∨ c.ser = 1000000000000000) : sleepM c n d = (⟨0, 0, [], []⟩, (14, -3)) := by
  have e1 : ¬ (d < 0 ∨ 1000000000 < d) := by omega
  have e2 : ¬ d = 0 := by omega
  have e3 : ¬ (timeB (c.now + d) && timeB (c.ser + 1)) = true := by
    rw [Bool.and_eq_true, timeB_iff, timeB_iff]; omega
  simp only [sleepM, idle_ok hv h hb hl, if_true, if_neg e1, if_neg e2, if_neg e3]
theorem sleep_ok {c : Ck} {n d : Int} (hv : (clockFault c).1 = 0) (h : 0 ≤ n ∧ n ≤ 1000000000000000) (hb : busy c.rs c.ts n = false) (hl : ¬ (c.rs.length : Int) + (c.ts.length : Int) = 1000) (hd : 0 ≤ d ∧ d ≤ 1000000000) (hx : d = 0 ∨ c.now + d ≤ 1000000000000000 ∧ ¬ c.ser = 1000000000000000) : sleepM c n d = (sleptM c n d, (0, 0)) := by
  have hV := cf_valid hv
  have hnow := timeB_le hV.now
  have hser := timeB_le hV.ser
  have e1 : ¬ (d < 0 ∨ 1000000000 < d) := by omega
  by_cases e2 : d = 0
  · simp [sleepM, idle_ok hv h hb hl, e2, ready_ok hv h hb hl, sleptM]
  · have e3 : (timeB (c.now + d) && timeB (c.ser + 1)) = true := by
      rw [Bool.and_eq_true, timeB_iff, timeB_iff]; omega
    have e4 := ins_slept (ts := c.ts) (t := newT c n d) hV.sorted (fun x hx => by have := hV.times x hx; simp [okT] at this; simp [newT]; omega)
    simp only [sleepM, idle_ok hv h hb hl, if_true, if_neg e1, if_neg e2, if_pos e3, sleptM, e4]
    rfl
set_option maxHeartbeats 2000000 in
theorem law_sleep_T (c : Ck) (hs : Small c) (n d : Int) : CallsA Try.prog 3 [.a c.d, di n, di d] [] (Is (db true)) := by
  obtain ⟨now, ser, rs, ts⟩ := c
  have hr := ready_small ⟨now, ser, rs, ts⟩ n
  have hl := sleep_small ⟨now, ser, rs, ts⟩ n d
  by_cases hv : (clockFault ⟨now, ser, rs, ts⟩).1 = 0
  · have hV := cf_valid hv
    have hy := slept_small n d hV
    have hlen := hV.len
    have hnow := timeB_le hV.now
    have hser := timeB_le hV.ser
    generalize ey : sleptM ⟨now, ser, rs, ts⟩ n d = y at hy
    obtain ⟨y1, y2, y3, y4⟩ := y
    dsimp only [Ck.d] at hlen hnow hser ⊢
    refine callsA_of_vc (T := tt) Try.func3 rfl rfl rfl rfl rfl ?_
    repeat' ((conv => whnf); first | with_reducible refine And.intro ?_ ?_ | with_reducible refine Brn.T rfl ?_ | with_reducible refine Brn.F rfl ?_ | refine Brn.T (by (try simp only [smT]); first | rfl | assumption | omega | (simp only [*]; done) | (simp [*]; done) | fail) ?_ | refine Brn.F (by (try simp only [smT]); first | rfl | assumption | omega | (simp only [*]; done) | (simp [*]; done) | fail) ?_ | (refine Brn.mk (fun hb => ?_) (fun hb => ?_) <;> (try simp only [smT] at hb) <;> (try (exfalso; omega))) | (refine Bnd.mk (fun hm => ?_); (try simp only [smT] at hm)) | refine Rng.mk (by (try simp only [smT]); omega) ?_ | refine Ix.map rfl (by (try simp only [smT]); omega) ?_ | refine Ix.map (m := 0) rfl (by (try simp only [smT]); omega) ?_ | refine Ix.lit (m := 0) rfl rfl ?_ | refine Ixo.mk ⟨_, rfl, (by (try simp only [smT]); omega), ?_⟩ | refine Rw.map (by (try simp only [smT]); omega) ?_ | refine Len.mk (by first | rfl | (simp; done) | (simp only [smT]; assumption) | (simp only [smT]; omega)) ?_ | refine Eqv.mk (by kernel_rfl) ?_ | refine Apd.mk (by first | rfl | simp) (by first | rfl | simp) (by (try simp only [smT]); first | omega | (simp; omega)) (by unfold maxLen; first | (simp; done) | (simp; omega) | omega) ?_ | refine Raw.appendIn (T := tt) rfl rfl rfl rfl rfl rfl rfl rfl rfl rfl (by (try simp only [smT]); omega) (by (try simp only [smT]); omega) ?_ | refine Raw.clear (T := tt) rfl rfl rfl rfl rfl rfl rfl (by (try simp only [smT]); omega) ?_ | refine Slc.mk ⟨_, _, rfl, rfl, (by (try simp only [smT]); omega), (by (try simp only [smT]); omega), ?_⟩ | refine Slc.mk ⟨0, _, rfl, rfl, (by (try simp only [smT]); omega), (by (try simp only [smT]); omega), ?_⟩ | refine Slc.mk ⟨1, _, rfl, rfl, (by (try simp only [smT]); omega), (by (try simp only [smT]); omega), ?_⟩ | refine Slc3.mk ⟨_, _, _, rfl, rfl, rfl, (by (try simp only [smT]); omega), (by (try simp only [smT]); omega), (by (try simp only [smT]); omega)⟩ ?_ | refine Drw.of (T := tt) (i := 4) [] [(0, true), (2, true), (1, false), (3, true)] (by kernel_rfl) ?_ | refine Drw.of (T := tt) (i := 15) [] [(0, true), (1, true), (2, true), (3, true), (4, true), (5, true), (6, true), (7, false), (8, false), (9, true), (10, true)] (by kernel_rfl) ?_ | refine Drw.of (T := tt) (i := 23) [] [(0, true), (1, true), (2, true), (3, true), (4, true), (5, true), (6, true), (7, true), (8, false), (9, false), (10, true), (11, true), (12, false), (13, true), (14, true)] (by kernel_rfl) ?_ | (refine CL.mk (Or.inl ?_); (conv => whnf); first | refine Cl.is (ready_T ⟨_, _, _, _⟩ hs _) rfl (by first | exact fun _ => rfl | (intro e; cases e; done) | fail) ?_ | refine Cl.is (sleep_T ⟨_, _, _, _⟩ hs _ _) rfl (by first | exact fun _ => rfl | (intro e; cases e; done) | fail) ?_ | refine Cl.is (clockfault_T ⟨_, _, _, _⟩ hs) rfl (by first | exact fun _ => rfl | (intro e; cases e; done) | fail) ?_ | refine Cl.is (validate_T ⟨_, _, _, _⟩ hs) rfl (by first | exact fun _ => rfl | (intro e; cases e; done) | fail) ?_ | refine Cl.is (in_T' _ _ _) rfl (by first | exact fun _ => rfl | (intro e; cases e; done) | fail) ?_ | refine Cl.is (busy_T ⟨_, _, _, _⟩ hs _) rfl (by first | exact fun _ => rfl | (intro e; cases e; done) | fail) ?_ | refine Cl.is (at_T _ _) rfl (by first | exact fun _ => rfl | (intro e; cases e; done) | fail) ?_ | refine Cl.is (none_T ⟨_, _, _, _⟩ hr) rfl (by first | exact fun _ => rfl | (intro e; cases e; done) | fail) ?_ | refine Cl.is (none_T ⟨_, _, _, _⟩ hl) rfl (by first | exact fun _ => rfl | (intro e; cases e; done) | fail) ?_ | refine Cl.is (clocked_T) rfl (by first | exact fun _ => rfl | (intro e; cases e; done) | fail) ?_ | refine Cl.is (enqueued_T ⟨_, _, _, _⟩ _ (by dsimp only; omega)) rfl (by first | exact fun _ => rfl | (intro e; cases e; done) | fail) ?_ | refine Cl.is (slept_T' ⟨_, _, _, _⟩ _ _ ⟨_, _, _, _⟩ ey (by dsimp only; omega) (by dsimp only; omega) (by dsimp only; omega) (by dsimp only; omega)) rfl (by first | exact fun _ => rfl | (intro e; cases e; done) | fail) ?_ | refine Cl.is (sameclock_T ⟨_, _, _, _⟩ ⟨_, _, _, _⟩ hr (by constructor <;> simp [enq] <;> omega)) rfl (by first | exact fun _ => rfl | (intro e; cases e; done) | fail) ?_ | refine Cl.is (sameclock_T ⟨_, _, _, _⟩ ⟨_, _, _, _⟩ hl hy) rfl (by first | exact fun _ => rfl | (intro e; cases e; done) | fail) ?_) | (refine CL.mk (Or.inl ?_); (conv => whnf); refine ClO.mk (Or.inl ?_); (repeat ((conv => whnf); refine Len.mk (by first | rfl | (simp; done) | (simp only [smT]; assumption) | (simp only [smT]; omega)) ?_)); (conv => whnf); first | refine Cl.is (ready_T ⟨_, _, _, _⟩ hs _) rfl (by first | exact fun _ => rfl | (intro e; cases e; done) | fail) ?_ | refine Cl.is (sleep_T ⟨_, _, _, _⟩ hs _ _) rfl (by first | exact fun _ => rfl | (intro e; cases e; done) | fail) ?_ | refine Cl.is (clockfault_T ⟨_, _, _, _⟩ hs) rfl (by first | exact fun _ => rfl | (intro e; cases e; done) | fail) ?_ | refine Cl.is (validate_T ⟨_, _, _, _⟩ hs) rfl (by first | exact fun _ => rfl | (intro e; cases e; done) | fail) ?_ | refine Cl.is (in_T' _ _ _) rfl (by first | exact fun _ => rfl | (intro e; cases e; done) | fail) ?_ | refine Cl.is (busy_T ⟨_, _, _, _⟩ hs _) rfl (by first | exact fun _ => rfl | (intro e; cases e; done) | fail) ?_ | refine Cl.is (at_T _ _) rfl (by first | exact fun _ => rfl | (intro e; cases e; done) | fail) ?_ | refine Cl.is (none_T ⟨_, _, _, _⟩ hr) rfl (by first | exact fun _ => rfl | (intro e; cases e; done) | fail) ?_ | refine Cl.is (none_T ⟨_, _, _, _⟩ hl) rfl (by first | exact fun _ => rfl | (intro e; cases e; done) | fail) ?_ | refine Cl.is (clocked_T) rfl (by first | exact fun _ => rfl | (intro e; cases e; done) | fail) ?_ | refine Cl.is (enqueued_T ⟨_, _, _, _⟩ _ (by dsimp only; omega)) rfl (by first | exact fun _ => rfl | (intro e; cases e; done) | fail) ?_ | refine Cl.is (slept_T' ⟨_, _, _, _⟩ _ _ ⟨_, _, _, _⟩ ey (by dsimp only; omega) (by dsimp only; omega) (by dsimp only; omega) (by dsimp only; omega)) rfl (by first | exact fun _ => rfl | (intro e; cases e; done) | fail) ?_ | refine Cl.is (sameclock_T ⟨_, _, _, _⟩ ⟨_, _, _, _⟩ hr (by constructor <;> simp [enq] <;> omega)) rfl (by first | exact fun _ => rfl | (intro e; cases e; done) | fail) ?_ | refine Cl.is (sameclock_T ⟨_, _, _, _⟩ ⟨_, _, _, _⟩ hl hy) rfl (by first | exact fun _ => rfl | (intro e; cases e; done) | fail) ?_) | (refine CL.mk (Or.inl ?_); (conv => whnf); refine ClO.mk (Or.inr ?_); (repeat ((conv => whnf); refine Len.mk (by first | rfl | (simp; done) | (simp only [smT]; assumption) | (simp only [smT]; omega)) ?_)); (conv => whnf); first | refine Cl.is (ready_T ⟨_, _, _, _⟩ hs _) rfl (by first | exact fun _ => rfl | (intro e; cases e; done) | fail) ?_ | refine Cl.is (sleep_T ⟨_, _, _, _⟩ hs _ _) rfl (by first | exact fun _ => rfl | (intro e; cases e; done) | fail) ?_ | refine Cl.is (clockfault_T ⟨_, _, _, _⟩ hs) rfl (by first | exact fun _ => rfl | (intro e; cases e; done) | fail) ?_ | refine Cl.is (validate_T ⟨_, _, _, _⟩ hs) rfl (by first | exact fun _ => rfl | (intro e; cases e; done) | fail) ?_ | refine Cl.is (in_T' _ _ _) rfl (by first | exact fun _ => rfl | (intro e; cases e; done) | fail) ?_ | refine Cl.is (busy_T ⟨_, _, _, _⟩ hs _) rfl (by first | exact fun _ => rfl | (intro e; cases e; done) | fail) ?_ | refine Cl.is (at_T _ _) rfl (by first | exact fun _ => rfl | (intro e; cases e; done) | fail) ?_ | refine Cl.is (none_T ⟨_, _, _, _⟩ hr) rfl (by first | exact fun _ => rfl | (intro e; cases e; done) | fail) ?_ | refine Cl.is (none_T ⟨_, _, _, _⟩ hl) rfl (by first | exact fun _ => rfl | (intro e; cases e; done) | fail) ?_ | refine Cl.is (clocked_T) rfl (by first | exact fun _ => rfl | (intro e; cases e; done) | fail) ?_ | refine Cl.is (enqueued_T ⟨_, _, _, _⟩ _ (by dsimp only; omega)) rfl (by first | exact fun _ => rfl | (intro e; cases e; done) | fail) ?_ | refine Cl.is (slept_T' ⟨_, _, _, _⟩ _ _ ⟨_, _, _, _⟩ ey (by dsimp only; omega) (by dsimp only; omega) (by dsimp only; omega) (by dsimp only; omega)) rfl (by first | exact fun _ => rfl | (intro e; cases e; done) | fail) ?_ | refine Cl.is (sameclock_T ⟨_, _, _, _⟩ ⟨_, _, _, _⟩ hr (by constructor <;> simp [enq] <;> omega)) rfl (by first | exact fun _ => rfl | (intro e; cases e; done) | fail) ?_ | refine Cl.is (sameclock_T ⟨_, _, _, _⟩ ⟨_, _, _, _⟩ hl hy) rfl (by first | exact fun _ => rfl | (intro e; cases e; done) | fail) ?_))
    all_goals (conv => whnf)
    all_goals first
      | exact Ret.is rfl
      | skip
    all_goals exfalso
    all_goals clear hs hr hl hlen hnow hser hy hV
    all_goals first
      | (simp only [fault_eq] at *; simp_all; done)
      | (have ee := idle_rng d hv (by assumption); obtain ⟨e1, e2⟩ := ee; simp only [e1, e2] at *; simp_all [sameCk_refl]; done)
      | (have ee := idle_busy d hv (by assumption) (by assumption); obtain ⟨e1, e2⟩ := ee; simp only [e1, e2] at *; simp_all [sameCk_refl]; done)
      | (have ee := idle_full d hv (by assumption) (by assumption) (by assumption); obtain ⟨e1, e2⟩ := ee; simp only [e1, e2] at *; simp_all [sameCk_refl]; done)
      | (have e1 := ready_ok hv (by assumption) (by assumption) (by assumption); simp only [e1] at *; simp_all [enq, sameCk_refl]; done)
      | (have e1 := sleep_rng hv (by assumption) (by assumption) (by assumption) (by assumption); simp only [e1] at *; simp_all [sameCk_refl]; done)
      | (have e1 := sleep_big hv (by assumption) (by assumption) (by assumption) (d := d) (by omega) (by omega) (by first | (left; assumption) | (right; assumption)); simp only [e1] at *; simp_all [sameCk_refl]; done)
      | (have e1 := sleep_ok hv (by assumption) (by assumption) (by assumption) (d := d) (by omega) (by first | (left; omega) | (right; exact ⟨by assumption, by assumption⟩)); simp only [e1, ey] at *; simp_all [sameCk_refl]; done)
      | skip
  · dsimp only [Ck.d]
    have hq : readyM ⟨now, ser, rs, ts⟩ n = (⟨0, 0, [], []⟩, clockFault ⟨now, ser, rs, ts⟩) ∧ sleepM ⟨now, ser, rs, ts⟩ n d = (⟨0, 0, [], []⟩, clockFault ⟨now, ser, rs, ts⟩) := by
      have hv' := hv
      rw [fault_eq] at hv' ⊢
      exact both_of_bad d (by simp [idleF, hv']) hv'
    obtain ⟨e1, e2⟩ := hq
    refine callsA_of_vc (T := tt) Try.func3 rfl rfl rfl rfl rfl ?_
    repeat' ((conv => whnf); first | with_reducible refine And.intro ?_ ?_ | with_reducible refine Brn.T rfl ?_ | with_reducible refine Brn.F rfl ?_ | refine Brn.T (by (try simp only [smT]); first | rfl | assumption | omega | (simp only [*]; done) | (simp [*]; done) | fail) ?_ | refine Brn.F (by (try simp only [smT]); first | rfl | assumption | omega | (simp only [*]; done) | (simp [*]; done) | fail) ?_ | (refine Brn.mk (fun hb => ?_) (fun hb => ?_) <;> (try simp only [smT] at hb) <;> (try (exfalso; omega))) | (refine Bnd.mk (fun hm => ?_); (try simp only [smT] at hm)) | refine Rng.mk (by (try simp only [smT]); omega) ?_ | refine Ix.map rfl (by (try simp only [smT]); omega) ?_ | refine Ix.map (m := 0) rfl (by (try simp only [smT]); omega) ?_ | refine Ix.lit (m := 0) rfl rfl ?_ | refine Ixo.mk ⟨_, rfl, (by (try simp only [smT]); omega), ?_⟩ | refine Rw.map (by (try simp only [smT]); omega) ?_ | refine Len.mk (by first | rfl | (simp; done) | (simp only [smT]; assumption) | (simp only [smT]; omega)) ?_ | refine Eqv.mk (by kernel_rfl) ?_ | refine Apd.mk (by first | rfl | simp) (by first | rfl | simp) (by (try simp only [smT]); first | omega | (simp; omega)) (by unfold maxLen; first | (simp; done) | (simp; omega) | omega) ?_ | refine Raw.appendIn (T := tt) rfl rfl rfl rfl rfl rfl rfl rfl rfl rfl (by (try simp only [smT]); omega) (by (try simp only [smT]); omega) ?_ | refine Raw.clear (T := tt) rfl rfl rfl rfl rfl rfl rfl (by (try simp only [smT]); omega) ?_ | refine Slc.mk ⟨_, _, rfl, rfl, (by (try simp only [smT]); omega), (by (try simp only [smT]); omega), ?_⟩ | refine Slc.mk ⟨0, _, rfl, rfl, (by (try simp only [smT]); omega), (by (try simp only [smT]); omega), ?_⟩ | refine Slc.mk ⟨1, _, rfl, rfl, (by (try simp only [smT]); omega), (by (try simp only [smT]); omega), ?_⟩ | refine Slc3.mk ⟨_, _, _, rfl, rfl, rfl, (by (try simp only [smT]); omega), (by (try simp only [smT]); omega), (by (try simp only [smT]); omega)⟩ ?_ | refine Drw.of (T := tt) (i := 4) [] [(0, true), (2, true), (1, false), (3, true)] (by kernel_rfl) ?_ | refine Drw.of (T := tt) (i := 15) [] [(0, true), (1, true), (2, true), (3, true), (4, true), (5, true), (6, true), (7, false), (8, false), (9, true), (10, true)] (by kernel_rfl) ?_ | refine Drw.of (T := tt) (i := 23) [] [(0, true), (1, true), (2, true), (3, true), (4, true), (5, true), (6, true), (7, true), (8, false), (9, false), (10, true), (11, true), (12, false), (13, true), (14, true)] (by kernel_rfl) ?_ | (refine CL.mk (Or.inl ?_); (conv => whnf); first | refine Cl.is (ready_T ⟨_, _, _, _⟩ hs _) rfl (by first | exact fun _ => rfl | (intro e; cases e; done) | fail) ?_ | refine Cl.is (sleep_T ⟨_, _, _, _⟩ hs _ _) rfl (by first | exact fun _ => rfl | (intro e; cases e; done) | fail) ?_ | refine Cl.is (clockfault_T ⟨_, _, _, _⟩ hs) rfl (by first | exact fun _ => rfl | (intro e; cases e; done) | fail) ?_ | refine Cl.is (validate_T ⟨_, _, _, _⟩ hs) rfl (by first | exact fun _ => rfl | (intro e; cases e; done) | fail) ?_ | refine Cl.is (at_T _ _) rfl (by first | exact fun _ => rfl | (intro e; cases e; done) | fail) ?_ | refine Cl.is (none_T ⟨_, _, _, _⟩ hr) rfl (by first | exact fun _ => rfl | (intro e; cases e; done) | fail) ?_ | refine Cl.is (none_T ⟨_, _, _, _⟩ hl) rfl (by first | exact fun _ => rfl | (intro e; cases e; done) | fail) ?_ | refine Cl.is (clocked_T) rfl (by first | exact fun _ => rfl | (intro e; cases e; done) | fail) ?_) | (refine CL.mk (Or.inl ?_); (conv => whnf); refine ClO.mk (Or.inl ?_); (repeat ((conv => whnf); refine Len.mk (by first | rfl | (simp; done) | (simp only [smT]; assumption) | (simp only [smT]; omega)) ?_)); (conv => whnf); first | refine Cl.is (ready_T ⟨_, _, _, _⟩ hs _) rfl (by first | exact fun _ => rfl | (intro e; cases e; done) | fail) ?_ | refine Cl.is (sleep_T ⟨_, _, _, _⟩ hs _ _) rfl (by first | exact fun _ => rfl | (intro e; cases e; done) | fail) ?_ | refine Cl.is (clockfault_T ⟨_, _, _, _⟩ hs) rfl (by first | exact fun _ => rfl | (intro e; cases e; done) | fail) ?_ | refine Cl.is (validate_T ⟨_, _, _, _⟩ hs) rfl (by first | exact fun _ => rfl | (intro e; cases e; done) | fail) ?_ | refine Cl.is (at_T _ _) rfl (by first | exact fun _ => rfl | (intro e; cases e; done) | fail) ?_ | refine Cl.is (none_T ⟨_, _, _, _⟩ hr) rfl (by first | exact fun _ => rfl | (intro e; cases e; done) | fail) ?_ | refine Cl.is (none_T ⟨_, _, _, _⟩ hl) rfl (by first | exact fun _ => rfl | (intro e; cases e; done) | fail) ?_ | refine Cl.is (clocked_T) rfl (by first | exact fun _ => rfl | (intro e; cases e; done) | fail) ?_) | (refine CL.mk (Or.inl ?_); (conv => whnf); refine ClO.mk (Or.inr ?_); (repeat ((conv => whnf); refine Len.mk (by first | rfl | (simp; done) | (simp only [smT]; assumption) | (simp only [smT]; omega)) ?_)); (conv => whnf); first | refine Cl.is (ready_T ⟨_, _, _, _⟩ hs _) rfl (by first | exact fun _ => rfl | (intro e; cases e; done) | fail) ?_ | refine Cl.is (sleep_T ⟨_, _, _, _⟩ hs _ _) rfl (by first | exact fun _ => rfl | (intro e; cases e; done) | fail) ?_ | refine Cl.is (clockfault_T ⟨_, _, _, _⟩ hs) rfl (by first | exact fun _ => rfl | (intro e; cases e; done) | fail) ?_ | refine Cl.is (validate_T ⟨_, _, _, _⟩ hs) rfl (by first | exact fun _ => rfl | (intro e; cases e; done) | fail) ?_ | refine Cl.is (at_T _ _) rfl (by first | exact fun _ => rfl | (intro e; cases e; done) | fail) ?_ | refine Cl.is (none_T ⟨_, _, _, _⟩ hr) rfl (by first | exact fun _ => rfl | (intro e; cases e; done) | fail) ?_ | refine Cl.is (none_T ⟨_, _, _, _⟩ hl) rfl (by first | exact fun _ => rfl | (intro e; cases e; done) | fail) ?_ | refine Cl.is (clocked_T) rfl (by first | exact fun _ => rfl | (intro e; cases e; done) | fail) ?_))
    all_goals (conv => whnf)
    all_goals first
      | exact Ret.is rfl
      | skip
    all_goals exfalso
    all_goals clear hs hr hl
    all_goals simp only [e1, e2] at *
    all_goals first
      | (simp only [fault_eq] at *; simp_all; done)
      | (simp_all [sameCk_refl]; done)
end Go.Proofs.Ytgiebofmfkacgaa
