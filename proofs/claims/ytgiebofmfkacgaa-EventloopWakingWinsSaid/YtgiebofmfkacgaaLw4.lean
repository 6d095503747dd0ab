/-
  EventloopWakeMatchesSpec: the walk.
-/
import Derived.Test.YtgiebofmfkacgaaWk1
namespace Go.Proofs.Ytgiebofmfkacgaa
open Go.RowKit

theorem strike_filter (n : Int) : ∀ ts : List Tm, (ts.map (·.task)).Nodup → (match ts.findIdx? (·.task == n) with | some i => ts.eraseIdx i | none => ts) = ts.filter (fun t => t.task != n)
  | [], _ => by simp
  | t :: l, h => by
    simp only [List.map_cons, List.nodup_cons] at h
    have ih := strike_filter n l h.2
    rw [List.findIdx?_cons]
    cases ht : (t.task == n)
    · simp only [Bool.false_eq_true, if_false]
      have : (t.task != n) = true := by simp [bne, ht]
      rw [List.filter_cons]
      simp only [this, if_true]
      rw [← ih]
      cases l.findIdx? (·.task == n) <;> simp
    · have htn : t.task = n := by simpa using ht
      have : (t.task != n) = false := by simp [htn]
      rw [List.filter_cons]
      simp only [if_true, this, if_false, List.eraseIdx_cons_zero]
      simp only [Bool.false_eq_true, if_false]
      refine (List.filter_eq_self.2 fun x hx => ?_).symm
      have : x.task ≠ n := fun e => h.1 (by rw [htn, ← e]; exact List.mem_map_of_mem hx)
      simpa using this
theorem strike_woken {c : Ck} (h : Valid c) (n : Int) : strike c.ts n = wokenT n c.ts := by
  have hnd : (c.ts.map (·.task)).Nodup := (List.nodup_append.1 h.nodup).2.1
  have := strike_filter n c.ts hnd
  rw [wokenT, ← this, strike, tidx]
  cases c.ts.findIdx? (·.task == n) <;> simp
theorem tidx_none {ts : List Tm} {n : Int} (h : busyT ts n = false) : strike ts n = ts := by
  have := tidx_busy ts n
  rw [h] at this
  have : ¬ 0 ≤ tidx ts n := by simpa using this
  simp [strike, this]
theorem strike_len {ts : List Tm} {n : Int} (h : busyT ts n = true) : (strike ts n).length + 1 = ts.length := by
  have h1 := tidx_busy ts n
  rw [h] at h1
  have h2 : 0 ≤ tidx ts n := by simpa using h1
  have h3 := tidx_lt ts n
  rw [strike, if_pos h2, List.length_eraseIdx_of_lt (by omega)]
  omega
theorem cf_val {c : Ck} (h : (clockFault c).1 = 0) : (validate c).1 = 0 := by rw [← fault_eq]; exact h
theorem wake_rng {c : Ck} {n : Int} (h : (clockFault c).1 = 0) (hn : n < 0 ∨ 1000000000000000 < n) : wakeP c n = (⟨0, 0, [], []⟩, (4, -2)) := by
  have : ¬ timeB n = true := by rw [timeB_iff]; omega
  exact wakeP_rng (cf_val h) (by simpa using this)
theorem wake_full {c : Ck} {n : Int} (h : (clockFault c).1 = 0) (hn : 0 ≤ n ∧ n ≤ 1000000000000000) (hb : busy c.rs c.ts n = false) (hl : (c.rs.length : Int) + (c.ts.length : Int) = 1000) : wakeP c n = (⟨0, 0, [], []⟩, (2, -2)) := by
  simp only [busy, Bool.or_eq_false_iff] at hb
  exact wakeP_full (cf_val h) ((timeB_iff n).2 hn) hb.2 (by rw [tidx_none hb.1]; exact hl)
theorem wake_ok {c : Ck} {n : Int} (h : (clockFault c).1 = 0) (hn : 0 ≤ n ∧ n ≤ 1000000000000000) (hb : busy c.rs c.ts n = true ∨ ¬ (c.rs.length : Int) + (c.ts.length : Int) = 1000) : wakeP c n = (wokenM c n, (0, 0)) := by
  have hV := cf_valid h
  have hlen := hV.len
  have ht := (timeB_iff n).2 hn
  cases hh : has c.rs n
  · have hw := strike_woken hV n
    rw [wakeP_ok (cf_val h) ht hh ?_]
    · simp [wokenM, hh, enq, hw]
    · cases hq : busyT c.ts n
      · rw [tidx_none hq]
        rcases hb with hb | hb
        · simp [busy, hq, hh] at hb
        · exact hb
      · have := strike_len hq
        omega
  · rw [wakeP_has (cf_val h) ht hh]
    simp [wokenM, hh]
theorem wake_bad {c : Ck} {n : Int} (h : ¬ (clockFault c).1 = 0) : wakeP c n = (⟨0, 0, [], []⟩, clockFault c) := by
  rw [fault_eq] at h ⊢
  simp [wakeP, h]
theorem woken_small {c : Ck} {n : Int} (h : c.rs.length + c.ts.length ≤ 1000) : Small (wokenM c n) := by
  have := wokenT_len (x := n) (ts := c.ts)
  unfold wokenM
  split
  · exact ⟨by omega, by omega⟩
  · exact ⟨by simp [enq]; omega, by dsimp only [enq]; omega⟩
theorem wake_small {c : Ck} {n : Int} (h : c.rs.length + c.ts.length ≤ 1000) : Small (wakeP c n).1 := by
  have hs : (strike c.ts n).length ≤ c.ts.length := by
    unfold strike
    split
    · exact List.length_eraseIdx_le ..
    · exact Nat.le_refl _
  unfold wakeP
  split
  · split
    · split
      · exact ⟨by dsimp only; omega, by dsimp only; omega⟩
      · split
        · exact ⟨by simp, by simp⟩
        · exact ⟨by simp; omega, by dsimp only; omega⟩
    · exact ⟨by simp, by simp⟩
  · exact ⟨by simp, by simp⟩
theorem wake_T' (now ser : Int) (rs : List Int) (ts : List Tm) (hs : Small ⟨now, ser, rs, ts⟩) (n y1 y2 : Int) (y3 : List Int) (y4 : List Tm) (f : Int × Int) (e : wakeP ⟨now, ser, rs, ts⟩ n = (⟨y1, y2, y3, y4⟩, f)) : CallsA Try.prog 25 [.a [.u (.int .i64 now), .u (.int .i64 ser), .u (ivs rs), .u (tvs ts)], di n] [] (Is (.t [.a [.u (.int .i64 y1), .u (.int .i64 y2), .u (ivs y3), .u (tvs y4)], .a (fd f)])) := by
  have := wake_T ⟨now, ser, rs, ts⟩ hs n
  rw [e] at this
  exact this
set_option maxHeartbeats 2000000 in
theorem law_wake_T (c : Ck) (hs : Small c) (n : Int) : CallsA Try.prog 6 [.a c.d, di n] [] (Is (db true)) := by
  obtain ⟨now, ser, rs, ts⟩ := c
  by_cases hv : (clockFault ⟨now, ser, rs, ts⟩).1 = 0
  · have hV := cf_valid hv
    have hlen := hV.len
    have hw := wake_small (n := n) hlen
    have hy := woken_small (n := n) hlen
    rcases ew : wakeP ⟨now, ser, rs, ts⟩ n with ⟨⟨x1, x2, x3, x4⟩, f1, f2⟩
    rw [ew] at hw
    generalize ey : wokenM ⟨now, ser, rs, ts⟩ n = y at hy
    obtain ⟨y1, y2, y3, y4⟩ := y
    dsimp only [Ck.d] at hlen hw ⊢
    have hok := wake_ok hv (n := n)
    have hfull := wake_full hv (n := n)
    have hrng := wake_rng hv (n := n)
    rw [ew] at hok hfull hrng
    rw [ey] at hok
    dsimp only at hok hfull
    refine callsA_of_vc (T := tt) Try.func6 rfl rfl rfl rfl rfl ?_
    repeat' ((conv => whnf); first | with_reducible refine And.intro ?_ ?_ | with_reducible refine Brn.T rfl ?_ | with_reducible refine Brn.F rfl ?_ | refine Brn.T (by (try simp only [smT]); first | rfl | assumption | omega | (simp only [*]; done) | (simp [*]; done) | fail) ?_ | refine Brn.F (by (try simp only [smT]); first | rfl | assumption | omega | (simp only [*]; done) | (simp [*]; done) | fail) ?_ | (refine Brn.mk (fun hb => ?_) (fun hb => ?_) <;> (try simp only [smT] at hb) <;> (try (exact absurd trivial hb)) <;> (try (exfalso; omega))) | (refine Bnd.mk (fun hm => ?_); (try simp only [smT] at hm)) | refine Rng.mk (by (try simp only [smT]); omega) ?_ | refine Ix.map rfl (by (try simp only [smT]); omega) ?_ | refine Ix.map (m := 0) rfl (by (try simp only [smT]); omega) ?_ | refine Ix.lit (m := 0) rfl rfl ?_ | refine Ixo.mk ⟨_, rfl, (by (try simp only [smT]); omega), ?_⟩ | refine Rw.map (by (try simp only [smT]); omega) ?_ | refine Len.mk (by first | rfl | (simp; done) | (simp only [smT]; assumption) | (simp only [smT]; omega)) ?_ | refine Eqv.mk (by kernel_rfl) ?_ | refine Apd.mk (by first | rfl | simp) (by first | rfl | simp) (by (try simp only [smT]); first | omega | (simp; omega)) (by unfold maxLen; first | (simp; done) | (simp; omega) | omega) ?_ | refine Raw.appendIn (T := tt) rfl rfl rfl rfl rfl rfl rfl rfl rfl rfl (by (try simp only [smT]); omega) (by (try simp only [smT]); omega) ?_ | refine Raw.clear (T := tt) rfl rfl rfl rfl rfl rfl rfl (by (try simp only [smT]); omega) ?_ | refine Slc.mk ⟨_, _, rfl, rfl, (by (try simp only [smT]); omega), (by (try simp only [smT]); omega), ?_⟩ | refine Slc.mk ⟨0, _, rfl, rfl, (by (try simp only [smT]); omega), (by (try simp only [smT]); omega), ?_⟩ | refine Slc.mk ⟨1, _, rfl, rfl, (by (try simp only [smT]); omega), (by (try simp only [smT]); omega), ?_⟩ | refine Slc3.mk ⟨_, _, _, rfl, rfl, rfl, (by (try simp only [smT]); omega), (by (try simp only [smT]); omega), (by (try simp only [smT]); omega)⟩ ?_ | refine Drw.of (T := tt) (i := 9) [] [(0, true), (1, true), (2, true), (3, true), (4, true), (5, true), (6, true), (7, false), (8, false), (9, true), (10, true), (11, false), (12, true), (13, true)] (by kernel_rfl) ?_ | (refine CL.mk (Or.inl ?_); (conv => whnf); first | refine Cl.is (wake_T' _ _ rs ts hs _ _ _ _ _ _ ew) rfl (by first | exact fun _ => rfl | (intro e; cases e; done) | fail) ?_ | refine Cl.is (clockfault_T ⟨_, _, _, _⟩ hs) rfl (by first | exact fun _ => rfl | (intro e; cases e; done) | fail) ?_ | refine Cl.is (in_T' _ _ _) rfl (by first | exact fun _ => rfl | (intro e; cases e; done) | fail) ?_ | refine Cl.is (busy_T ⟨_, _, _, _⟩ hs _) rfl (by first | exact fun _ => rfl | (intro e; cases e; done) | fail) ?_ | refine Cl.is (at_T _ _) rfl (by first | exact fun _ => rfl | (intro e; cases e; done) | fail) ?_ | refine Cl.is (none_T ⟨_, _, _, _⟩ hw) rfl (by first | exact fun _ => rfl | (intro e; cases e; done) | fail) ?_ | refine Cl.is (clocked_T) rfl (by first | exact fun _ => rfl | (intro e; cases e; done) | fail) ?_ | refine Cl.is (woken_T' _ _ rs ts _ _ _ _ _ ey (by omega) (by omega)) rfl (by first | exact fun _ => rfl | (intro e; cases e; done) | fail) ?_ | refine Cl.is (sameclock_T ⟨_, _, _, _⟩ ⟨_, _, _, _⟩ hw hy) rfl (by first | exact fun _ => rfl | (intro e; cases e; done) | fail) ?_) | (refine CL.mk (Or.inl ?_); (conv => whnf); refine ClO.mk (Or.inl ?_); (repeat ((conv => whnf); refine Len.mk (by first | rfl | (simp; done) | (simp only [smT]; assumption) | (simp only [smT]; omega)) ?_)); (conv => whnf); first | refine Cl.is (wake_T' _ _ rs ts hs _ _ _ _ _ _ ew) rfl (by first | exact fun _ => rfl | (intro e; cases e; done) | fail) ?_ | refine Cl.is (clockfault_T ⟨_, _, _, _⟩ hs) rfl (by first | exact fun _ => rfl | (intro e; cases e; done) | fail) ?_ | refine Cl.is (in_T' _ _ _) rfl (by first | exact fun _ => rfl | (intro e; cases e; done) | fail) ?_ | refine Cl.is (busy_T ⟨_, _, _, _⟩ hs _) rfl (by first | exact fun _ => rfl | (intro e; cases e; done) | fail) ?_ | refine Cl.is (at_T _ _) rfl (by first | exact fun _ => rfl | (intro e; cases e; done) | fail) ?_ | refine Cl.is (none_T ⟨_, _, _, _⟩ hw) rfl (by first | exact fun _ => rfl | (intro e; cases e; done) | fail) ?_ | refine Cl.is (clocked_T) rfl (by first | exact fun _ => rfl | (intro e; cases e; done) | fail) ?_ | refine Cl.is (woken_T' _ _ rs ts _ _ _ _ _ ey (by omega) (by omega)) rfl (by first | exact fun _ => rfl | (intro e; cases e; done) | fail) ?_ | refine Cl.is (sameclock_T ⟨_, _, _, _⟩ ⟨_, _, _, _⟩ hw hy) rfl (by first | exact fun _ => rfl | (intro e; cases e; done) | fail) ?_) | (refine CL.mk (Or.inl ?_); (conv => whnf); refine ClO.mk (Or.inr ?_); (repeat ((conv => whnf); refine Len.mk (by first | rfl | (simp; done) | (simp only [smT]; assumption) | (simp only [smT]; omega)) ?_)); (conv => whnf); first | refine Cl.is (wake_T' _ _ rs ts hs _ _ _ _ _ _ ew) rfl (by first | exact fun _ => rfl | (intro e; cases e; done) | fail) ?_ | refine Cl.is (clockfault_T ⟨_, _, _, _⟩ hs) rfl (by first | exact fun _ => rfl | (intro e; cases e; done) | fail) ?_ | refine Cl.is (in_T' _ _ _) rfl (by first | exact fun _ => rfl | (intro e; cases e; done) | fail) ?_ | refine Cl.is (busy_T ⟨_, _, _, _⟩ hs _) rfl (by first | exact fun _ => rfl | (intro e; cases e; done) | fail) ?_ | refine Cl.is (at_T _ _) rfl (by first | exact fun _ => rfl | (intro e; cases e; done) | fail) ?_ | refine Cl.is (none_T ⟨_, _, _, _⟩ hw) rfl (by first | exact fun _ => rfl | (intro e; cases e; done) | fail) ?_ | refine Cl.is (clocked_T) rfl (by first | exact fun _ => rfl | (intro e; cases e; done) | fail) ?_ | refine Cl.is (woken_T' _ _ rs ts _ _ _ _ _ ey (by omega) (by omega)) rfl (by first | exact fun _ => rfl | (intro e; cases e; done) | fail) ?_ | refine Cl.is (sameclock_T ⟨_, _, _, _⟩ ⟨_, _, _, _⟩ hw hy) rfl (by first | exact fun _ => rfl | (intro e; cases e; done) | fail) ?_))
    all_goals (conv => whnf)
    all_goals first
      | exact Ret.is rfl
      | skip
    all_goals exfalso
    all_goals clear hs hw hlen hy hV
    all_goals first
      | (have e := hrng (by assumption); simp only [Prod.mk.injEq, Ck.mk.injEq] at e; simp_all [sameCk_refl]; done)
      | (have e := hfull (by assumption) (by assumption) (by assumption); simp only [Prod.mk.injEq, Ck.mk.injEq] at e; simp_all [sameCk_refl]; done)
      | (have e := hok (by assumption) (Or.inl (by assumption)); simp only [Prod.mk.injEq, Ck.mk.injEq] at e; simp_all [sameCk_refl]; done)
      | (have e := hok (by assumption) (Or.inr (by assumption)); simp only [Prod.mk.injEq, Ck.mk.injEq] at e; simp_all [sameCk_refl]; done)
      | skip
  · have e := wake_bad (n := n) hv
    have hz : Small ⟨0, 0, [], []⟩ := ⟨by simp, by simp⟩
    dsimp only [Ck.d]
    refine callsA_of_vc (T := tt) Try.func6 rfl rfl rfl rfl rfl ?_
    repeat' ((conv => whnf); first | with_reducible refine And.intro ?_ ?_ | with_reducible refine Brn.T rfl ?_ | with_reducible refine Brn.F rfl ?_ | refine Brn.T (by (try simp only [smT]); first | rfl | assumption | omega | (simp only [*]; done) | (simp [*]; done) | fail) ?_ | refine Brn.F (by (try simp only [smT]); first | rfl | assumption | omega | (simp only [*]; done) | (simp [*]; done) | fail) ?_ | (refine Brn.mk (fun hb => ?_) (fun hb => ?_) <;> (try simp only [smT] at hb) <;> (try (exact absurd trivial hb)) <;> (try (exfalso; omega))) | (refine Bnd.mk (fun hm => ?_); (try simp only [smT] at hm)) | refine Rng.mk (by (try simp only [smT]); omega) ?_ | refine Ix.map rfl (by (try simp only [smT]); omega) ?_ | refine Ix.map (m := 0) rfl (by (try simp only [smT]); omega) ?_ | refine Ix.lit (m := 0) rfl rfl ?_ | refine Ixo.mk ⟨_, rfl, (by (try simp only [smT]); omega), ?_⟩ | refine Rw.map (by (try simp only [smT]); omega) ?_ | refine Len.mk (by first | rfl | (simp; done) | (simp only [smT]; assumption) | (simp only [smT]; omega)) ?_ | refine Eqv.mk (by kernel_rfl) ?_ | refine Apd.mk (by first | rfl | simp) (by first | rfl | simp) (by (try simp only [smT]); first | omega | (simp; omega)) (by unfold maxLen; first | (simp; done) | (simp; omega) | omega) ?_ | refine Raw.appendIn (T := tt) rfl rfl rfl rfl rfl rfl rfl rfl rfl rfl (by (try simp only [smT]); omega) (by (try simp only [smT]); omega) ?_ | refine Raw.clear (T := tt) rfl rfl rfl rfl rfl rfl rfl (by (try simp only [smT]); omega) ?_ | refine Slc.mk ⟨_, _, rfl, rfl, (by (try simp only [smT]); omega), (by (try simp only [smT]); omega), ?_⟩ | refine Slc.mk ⟨0, _, rfl, rfl, (by (try simp only [smT]); omega), (by (try simp only [smT]); omega), ?_⟩ | refine Slc.mk ⟨1, _, rfl, rfl, (by (try simp only [smT]); omega), (by (try simp only [smT]); omega), ?_⟩ | refine Slc3.mk ⟨_, _, _, rfl, rfl, rfl, (by (try simp only [smT]); omega), (by (try simp only [smT]); omega), (by (try simp only [smT]); omega)⟩ ?_ | refine Drw.of (T := tt) (i := 9) [] [(0, true), (1, true), (2, true), (3, true), (4, true), (5, true), (6, true), (7, false), (8, false), (9, true), (10, true), (11, false), (12, true), (13, true)] (by kernel_rfl) ?_ | (refine CL.mk (Or.inl ?_); (conv => whnf); first | refine Cl.is (wake_T' _ _ rs ts hs _ _ _ _ _ _ e) rfl (by first | exact fun _ => rfl | (intro e; cases e; done) | fail) ?_ | refine Cl.is (clockfault_T ⟨_, _, _, _⟩ hs) rfl (by first | exact fun _ => rfl | (intro e; cases e; done) | fail) ?_ | refine Cl.is (none_T ⟨_, _, _, _⟩ hz) rfl (by first | exact fun _ => rfl | (intro e; cases e; done) | fail) ?_ | refine Cl.is (clocked_T) rfl (by first | exact fun _ => rfl | (intro e; cases e; done) | fail) ?_) | (refine CL.mk (Or.inl ?_); (conv => whnf); refine ClO.mk (Or.inl ?_); (repeat ((conv => whnf); refine Len.mk (by first | rfl | (simp; done) | (simp only [smT]; assumption) | (simp only [smT]; omega)) ?_)); (conv => whnf); first | refine Cl.is (wake_T' _ _ rs ts hs _ _ _ _ _ _ e) rfl (by first | exact fun _ => rfl | (intro e; cases e; done) | fail) ?_ | refine Cl.is (clockfault_T ⟨_, _, _, _⟩ hs) rfl (by first | exact fun _ => rfl | (intro e; cases e; done) | fail) ?_ | refine Cl.is (none_T ⟨_, _, _, _⟩ hz) rfl (by first | exact fun _ => rfl | (intro e; cases e; done) | fail) ?_ | refine Cl.is (clocked_T) rfl (by first | exact fun _ => rfl | (intro e; cases e; done) | fail) ?_) | (refine CL.mk (Or.inl ?_); (conv => whnf); refine ClO.mk (Or.inr ?_); (repeat ((conv => whnf); refine Len.mk (by first | rfl | (simp; done) | (simp only [smT]; assumption) | (simp only [smT]; omega)) ?_)); (conv => whnf); first | refine Cl.is (wake_T' _ _ rs ts hs _ _ _ _ _ _ e) rfl (by first | exact fun _ => rfl | (intro e; cases e; done) | fail) ?_ | refine Cl.is (clockfault_T ⟨_, _, _, _⟩ hs) rfl (by first | exact fun _ => rfl | (intro e; cases e; done) | fail) ?_ | refine Cl.is (none_T ⟨_, _, _, _⟩ hz) rfl (by first | exact fun _ => rfl | (intro e; cases e; done) | fail) ?_ | refine Cl.is (clocked_T) rfl (by first | exact fun _ => rfl | (intro e; cases e; done) | fail) ?_))
    all_goals (conv => whnf)
    all_goals first
      | exact Ret.is rfl
      | skip
    all_goals exfalso
    all_goals (simp_all [sameCk_refl]; done)
end Go.Proofs.Ytgiebofmfkacgaa
