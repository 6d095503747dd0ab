/-
  Part 6 of the proof of scale_holds: laws and contracts that it needs.
-/
import Derived.Test.YtgiebofmfkacgaaQb5
namespace Go.Proofs.Ytgiebofmfkacgaa
section
variable {jobs : List Jb} {s : Sm} {run : List Int} {M σ n : Nat} {x : Int}
theorem Good.run_lt (g : Good jobs s run M σ) {n : Nat} (h : (n : Int) ∈ run) : n < s.tasks.length := by
  obtain ⟨i, e, hi⟩ := alive_lt (g.pl.al _ (List.mem_append_left _ h))
  omega
theorem Good.noclk (g : Good jobs s [x] M σ) : x ∉ s.rs ++ s.ts.map (·.task) ∧ x ∉ wts s.tasks ∧ (0 ≤ x ∧ x ≤ 59) := by
  have h1 := g.pl.nd
  simp only [List.singleton_append, List.nodup_cons, Go.Proofs.Ytgiebofmfkacgaa.pl] at h1
  refine ⟨fun q => h1.1 (List.mem_append_left _ q), fun q => h1.1 (List.mem_append_right _ q), alive_rng (g.pl.al x (by simp)) g.len⟩
theorem Good.sleepEq (g : Good jobs s [x] M σ) {d : Int} (hd : 0 ≤ d ∧ d ≤ 1000000000) : sleepM s.ck x d = (sleptM s.ck x d, (0, 0)) := by
  obtain ⟨q1, _, q3⟩ := g.noclk
  have h1 := g.tm
  have h2 := g.se
  exact sleep_eq g.v q3 q1 g.clk hd ⟨by dsimp only [Sm.ck]; omega, by dsimp only [Sm.ck]; omega⟩
theorem Good.sleep (g : Good jobs s [x] M σ) (hp : Go.Proofs.Ytgiebofmfkacgaa.pot s + 2 ≤ M) {d : Int} (hd : 0 ≤ d ∧ d ≤ 1000000000) : Good jobs (s.put (sleptM s.ck x d)) [] (M - 1) σ := by
  obtain ⟨q1, q2, q3⟩ := g.noclk
  have h1 := g.tm
  have h2 := g.se
  have hv := slept_valid g.v ⟨q3.1, by omega⟩ q1 (by have := g.clk; dsimp only [Sm.ck]; omega) hd.1 (.inr ⟨by dsimp only [Sm.ck]; omega, by dsimp only [Sm.ck]; omega⟩)
  have hperm : (Go.Proofs.Ytgiebofmfkacgaa.pl (s.put (sleptM s.ck x d))).Perm (x :: Go.Proofs.Ytgiebofmfkacgaa.pl s) := by
    simp only [Go.Proofs.Ytgiebofmfkacgaa.pl, Sm.put, sleptM]
    split
    · simp only [enq, Sm.ck, List.append_assoc, List.singleton_append]
      exact List.perm_middle
    · simp only [Sm.ck]
      rw [← List.cons_append]
      refine List.Perm.append_right _ ?_
      exact ((slept_tasks _ _).map _).append_left _ |>.trans List.perm_middle
  have hse : (sleptM s.ck x d).ser ≤ s.ser + 1 ∧ (sleptM s.ck x d).now = s.now := by
    unfold sleptM
    split
    · simp [enq, Sm.ck]; omega
    · simp [Sm.ck]
  refine ⟨hv, g.len, ?_, g.tk, fun t ht => ?_, ?_, ?_, ?_, ?_⟩
  · exact g.pl.perm hperm.symm
  · simp only [Sm.put] at ht ⊢
    rw [hse.2]
    unfold sleptM at ht
    split at ht
    · exact g.ats t ht
    · rcases List.mem_cons.1 ((slept_tasks _ _).mem_iff.1 ht) with rfl | ht
      · dsimp only [Sm.ck]; omega
      · exact g.ats t ht
  · have : (s.put (sleptM s.ck x d)).tasks = s.tasks := rfl
    simp only [Go.Proofs.Ytgiebofmfkacgaa.pot, this, hperm.length_eq, List.length_cons] at hp ⊢
    omega
  · simp only [Sm.put]; rw [hse.2]; omega
  · simp only [Sm.put]; omega
  · have := g.lg; simp only [Sm.put]; omega
theorem Good.spawnEq (g : Good jobs s run M σ) : s.tasks.length < 60 → readyM s.ck s.tasks.length = (enq s.ck s.tasks.length, (0, 0)) := fun hl => by
  refine ready_eq g.v ⟨by omega, by omega⟩ (fun q => ?_) g.clk
  obtain ⟨i, e, hi⟩ := alive_lt (g.pl.al _ (List.mem_append_right run (show (s.tasks.length : Int) ∈ Go.Proofs.Ytgiebofmfkacgaa.pl s from List.mem_append_left _ q)))
  omega
theorem Good.spawn (g : Good jobs s run M σ) (hJ : Jok jobs) (hp : Go.Proofs.Ytgiebofmfkacgaa.pot s + 2 ≤ M) {j : Nat} (hj : j < jobs.length) : Good jobs (spawnM jobs s j) run (M - 1) σ := by
  have h1 := g.tm
  have h2 := g.se
  have h3 := g.lg
  unfold spawnM
  by_cases h6 : s.tasks.length = 60
  · rw [if_pos h6]
    exact ⟨g.v, g.len, g.pl, g.tk, g.ats, by omega, by omega, by omega, by omega⟩
  · rw [if_neg h6]
    have hlen := g.len
    rw [g.spawnEq (by omega)]
    have hnew : (s.tasks.length : Int) ∉ run ++ Go.Proofs.Ytgiebofmfkacgaa.pl s := fun q => by
      obtain ⟨i, e, hi⟩ := alive_lt (g.pl.al _ q)
      omega
    obtain ⟨k1, k2⟩ := hJ.acts j hj
    have hq : jobs.getD j ⟨[], []⟩ = jobs[j] := by simp [List.getD, hj]
    rw [hq]
    have hw : wts (s.tasks ++ [⟨j, false, false, false, false, jobs[j].acts, []⟩]) = wts s.tasks := by simp [wts]
    have hperm : (run ++ Go.Proofs.Ytgiebofmfkacgaa.pl ⟨s.now, s.ser, s.rs ++ [(s.tasks.length : Int)], s.ts, s.tasks ++ [⟨j, false, false, false, false, jobs[j].acts, []⟩], s.log⟩).Perm ((s.tasks.length : Int) :: (run ++ Go.Proofs.Ytgiebofmfkacgaa.pl s)) := by
      simp only [Go.Proofs.Ytgiebofmfkacgaa.pl, hw, List.append_assoc, List.singleton_append]
      refine (List.Perm.append_left run List.perm_middle).trans List.perm_middle
    refine ⟨?_, ?_, ?_, ?_, g.ats, ?_, by simp only [enq, Sm.ck]; omega, by simp only [enq, Sm.ck]; omega, by dsimp only; omega⟩
    · exact enq_valid g.v ⟨by omega, by omega⟩ (fun q => hnew (List.mem_append_right _ (List.mem_append_left _ q))) (by have := g.clk; dsimp only [Sm.ck]; omega)
    · simp; omega
    · refine Plc.perm (l := (s.tasks.length : Int) :: (run ++ Go.Proofs.Ytgiebofmfkacgaa.pl s)) ⟨List.nodup_cons.2 ⟨hnew, g.pl.nd⟩, fun x hx => ?_⟩ hperm.symm
      rcases List.mem_cons.1 hx with rfl | hx
      · exact ⟨s.tasks.length, ⟨j, false, false, false, false, jobs[j].acts, []⟩, rfl, by simp, rfl⟩
      · exact alive_app (g.pl.al x hx)
    · intro t ht
      simp only [List.mem_append, List.mem_singleton] at ht
      rcases ht with ht | rfl
      · exact g.tk t ht
      · exact ⟨⟨j, rfl, hj⟩, k1, k2⟩
    · have e := hperm.length_eq
      simp only [List.length_append, List.length_cons] at e
      simp only [Go.Proofs.Ytgiebofmfkacgaa.pot, work, enq, Sm.ck, List.map_append, List.sum_append, List.length_append, List.map_cons, List.map_nil, List.sum_cons, List.sum_nil, List.length_cons, List.length_nil] at hp ⊢
      have e2 : wk ⟨j, false, false, false, false, jobs[j].acts, []⟩ ≤ 60 := by simp [wk]; omega
      have e3 : (60 - (s.tasks.length + (0 + 1))) * 60 + 60 = (60 - s.tasks.length) * 60 := by omega
      omega
/-- A task waits for another one. -/
theorem Good.wait (g : Good jobs s [(n : Int)] M σ) (hp : Go.Proofs.Ytgiebofmfkacgaa.pot s + 2 ≤ M) {m : Nat} {t : Tsk} (h : s.tasks[m]? = some t) : Good jobs ⟨s.now, s.ser, s.rs, s.ts, s.tasks.set m { t with waiters := t.waiters ++ [(n : Int)] }, s.log⟩ [] (M - 1) σ := by
  have h1 := g.tm
  have h2 := g.se
  have h3 := g.lg
  obtain ⟨rest, w1, w2⟩ := wts_set h
  have w2' := w2 { t with waiters := t.waiters ++ [(n : Int)] }
  have hperm : (Go.Proofs.Ytgiebofmfkacgaa.pl ⟨s.now, s.ser, s.rs, s.ts, s.tasks.set m { t with waiters := t.waiters ++ [(n : Int)] }, s.log⟩).Perm ((n : Int) :: Go.Proofs.Ytgiebofmfkacgaa.pl s) := by
    simp only [Go.Proofs.Ytgiebofmfkacgaa.pl]
    refine (w2'.append_left _).trans ?_
    refine List.Perm.trans ?_ (List.Perm.cons (n : Int) ((w1.append_left (s.rs ++ s.ts.map (·.task))).symm))
    simp only [List.append_assoc, List.singleton_append]
    rw [← List.append_assoc, ← List.append_assoc]
    refine List.perm_middle.trans ?_
    simp
  have hs := sum_set (f := wk) (t' := { t with waiters := t.waiters ++ [(n : Int)] }) h
  refine ⟨g.v, by simpa using g.len, ?_, fun u hu => ?_, g.ats, ?_, by dsimp only; omega, by dsimp only; omega, by dsimp only; omega⟩
  · exact (g.pl.perm (List.Perm.symm (by simpa using hperm))).up fun x _ a => alive_set h rfl a
  · rcases List.mem_or_eq_of_mem_set hu with hu | rfl
    · exact g.tk u hu
    · exact g.tk t (List.mem_of_getElem? h)
  · simp only [Go.Proofs.Ytgiebofmfkacgaa.pot, hperm.length_eq, List.length_cons, work, List.length_set] at hp ⊢
    have : wk { t with waiters := t.waiters ++ [(n : Int)] } = wk t := rfl
    omega
theorem cancelTs_get (tasks : List Tsk) (m i : Nat) : (cancelTs tasks m)[i]? = (tasks[i]?).map fun t => { t with cancelled := (t.cancelled || decide (m = i)), waiters := t.waiters.filter fun w => w != m } := by
  simp only [cancelTs, List.getElem?_map, List.getElem?_modify]
  cases h : tasks[i]? with
  | none => simp
  | some t => by_cases hm : m = i <;> simp [hm]
theorem cancelTs_len (tasks : List Tsk) (m : Nat) : (cancelTs tasks m).length = tasks.length := by simp [cancelTs]
theorem alive_cancel {tasks : List Tsk} {m : Nat} {x : Int} (a : alive tasks x) : alive (cancelTs tasks m) x := by
  obtain ⟨i, t, rfl, h1, h2⟩ := a
  exact ⟨i, { t with cancelled := (t.cancelled || decide (m = i)), waiters := t.waiters.filter fun w => w != (m : Int) }, rfl, by rw [cancelTs_get, h1]; rfl, h2⟩
theorem cancelTs_wk (tasks : List Tsk) (m : Nat) : (cancelTs tasks m).map wk = tasks.map wk := by
  apply List.ext_getElem?
  intro i
  rw [List.getElem?_map, cancelTs_get, List.getElem?_map]
  cases tasks[i]? <;> rfl
theorem cancelTs_wts (tasks : List Tsk) (m : Nat) : wts (cancelTs tasks m) = (wts tasks).filter fun w => w != (m : Int) := by
  rw [cancelTs, wts_filter]
  congr 1
  simp only [wts]
  congr 1
  apply List.ext_getElem?
  intro i
  rw [List.getElem?_map, List.getElem?_modify, List.getElem?_map]
  cases h : tasks[i]? with
  | none => simp
  | some t => by_cases hm : m = i <;> simp [hm]
theorem cancelTs_mem {tasks : List Tsk} {m : Nat} {t : Tsk} (h : t ∈ cancelTs tasks m) : ∃ u ∈ tasks, t.job = u.job ∧ t.left = u.left ∧ t.guarding = u.guarding ∧ t.begun = u.begun ∧ t.ended = u.ended := by
  obtain ⟨i, hi⟩ := List.getElem?_of_mem h
  rw [cancelTs_get] at hi
  cases hu : tasks[i]? with
  | none => rw [hu] at hi; cases hi
  | some u =>
    rw [hu] at hi
    injection hi with hi
    subst hi
    exact ⟨u, List.mem_of_getElem? hu, rfl, rfl, rfl, rfl, rfl⟩
theorem Good.cancel (g : Good jobs s [(n : Int)] M σ) (hp : Go.Proofs.Ytgiebofmfkacgaa.pot s + 2 ≤ M) {m : Nat} {t : Tsk} (h : s.tasks[m]? = some t) (hmn : m ≠ n) (he : t.ended = false) :
    wakeP s.ck m = (wokenM s.ck m, (0, 0)) ∧ Good jobs ⟨(wokenM s.ck m).now, (wokenM s.ck m).ser, (wokenM s.ck m).rs, (wokenM s.ck m).ts, cancelTs s.tasks m, s.log⟩ [(n : Int)] (M - 1) σ := by
  have h1 := g.tm
  have h2 := g.se
  have h3 := g.lg
  have hlen := g.len
  have hclk := g.clk
  have hm : m < s.tasks.length := lt_of_get h
  have hwe := wake_eq (c := s.ck) (x := (m : Int)) g.v ⟨by omega, by omega⟩ hclk
  refine ⟨hwe, ?_⟩
  have hnd := g.pl
  by_cases hh : has s.rs m = true
  · have e : wokenM s.ck m = s.ck := by simp [wokenM, hh]
    rw [e]
    have hsub : ([(n : Int)] ++ Go.Proofs.Ytgiebofmfkacgaa.pl ⟨s.now, s.ser, s.rs, s.ts, cancelTs s.tasks m, s.log⟩).Sublist ([(n : Int)] ++ Go.Proofs.Ytgiebofmfkacgaa.pl s) := by
      simp only [Go.Proofs.Ytgiebofmfkacgaa.pl, cancelTs_wts]
      exact (List.Sublist.refl _).append ((List.Sublist.refl _).append List.filter_sublist)
    refine ⟨g.v, by rw [cancelTs_len]; exact hlen, (hnd.sub hsub).up fun x _ a => alive_cancel a, fun u hu => ?_, g.ats, ?_, by dsimp only; omega, by dsimp only; omega, by dsimp only; omega⟩
    · obtain ⟨v, v1, v2, v3, _⟩ := cancelTs_mem hu
      have := g.tk v v1
      rw [okK, v2, v3]; exact this
    · have e2 := hsub.length_le
      simp only [List.length_append, List.length_singleton] at e2
      simp only [Go.Proofs.Ytgiebofmfkacgaa.pot, work, cancelTs_wk, cancelTs_len] at hp ⊢
      omega
  · have hh' : has s.rs m = false := by simpa using hh
    have e : wokenM s.ck m = ⟨s.now, s.ser, s.rs ++ [(m : Int)], wokenT m s.ts⟩ := by simp [wokenM, hh', enq, Sm.ck]
    rw [e]
    have hnr : (m : Int) ∉ s.rs := (has_false_iff _ _).1 hh'
    have hv := woken_valid (c := s.ck) (n := (m : Int)) g.v ⟨by omega, by omega⟩ hh' (by have := wokenT_len (x := (m : Int)) (ts := s.ts); dsimp only [Sm.ck]; omega)
    have hfr : (s.rs.filter fun w => w != (m : Int)) = s.rs := List.filter_eq_self.2 fun x hx => by simp; exact fun e => hnr (e ▸ hx)
    have hft : (wokenT m s.ts).map (·.task) = (s.ts.map (·.task)).filter fun w => w != (m : Int) := by
      simp only [wokenT, List.filter_map]; rfl
    have hperm : ([(n : Int)] ++ Go.Proofs.Ytgiebofmfkacgaa.pl ⟨s.now, s.ser, s.rs ++ [(m : Int)], wokenT m s.ts, cancelTs s.tasks m, s.log⟩).Perm ((m : Int) :: ([(n : Int)] ++ Go.Proofs.Ytgiebofmfkacgaa.pl s).filter fun w => w != (m : Int)) := by
      have hn1 : ((n : Int) != (m : Int)) = true := by simp; omega
      simp only [Go.Proofs.Ytgiebofmfkacgaa.pl, cancelTs_wts, hft, List.filter_append, hfr, List.singleton_append, List.filter_cons, hn1, if_true, List.append_assoc, List.filter_nil]
      refine (List.Perm.cons _ List.perm_middle).trans (List.Perm.swap _ _ _)
    have hal : alive s.tasks m := ⟨m, t, rfl, h, he⟩
    refine ⟨hv, by rw [cancelTs_len]; exact hlen, ?_, fun u hu => ?_, fun u hu => ?_, ?_, by dsimp only; omega, by dsimp only; omega, by dsimp only; omega⟩
    · refine Plc.perm (l := (m : Int) :: ([(n : Int)] ++ Go.Proofs.Ytgiebofmfkacgaa.pl s).filter fun w => w != (m : Int)) ⟨List.nodup_cons.2 ⟨by simp, hnd.nd.sublist List.filter_sublist⟩, fun x hx => ?_⟩ hperm.symm
      rcases List.mem_cons.1 hx with rfl | hx
      · exact alive_cancel hal
      · exact alive_cancel (hnd.al x (List.mem_filter.1 hx).1)
    · obtain ⟨v, v1, v2, v3, _⟩ := cancelTs_mem hu
      have := g.tk v v1
      rw [okK, v2, v3]; exact this
    · exact g.ats u (List.mem_filter.1 hu).1
    · have e2 := hperm.length_eq
      have e3 := List.length_filter_le (fun w => w != (m : Int)) ([(n : Int)] ++ Go.Proofs.Ytgiebofmfkacgaa.pl s)
      simp only [List.length_append, List.length_singleton, List.length_cons] at e2 e3
      simp only [Go.Proofs.Ytgiebofmfkacgaa.pot, work, cancelTs_wk, cancelTs_len] at hp ⊢
      omega
/-- The end of a task. -/
theorem Good.end_ (g : Good jobs s [(n : Int)] M (σ + 1)) {t : Tsk} (h : s.tasks[n]? = some t) : wakes s.ck t.waiters = ⟨s.now, s.ser, s.rs ++ t.waiters, s.ts⟩ ∧ Good jobs (endM s n) [] M σ := by
  have h1 := g.tm
  have h2 := g.se
  have h3 := g.lg
  have hlen := g.len
  obtain ⟨rest, w1, w2⟩ := wts_set h
  have w2' := w2 { t with ended := true, waiters := [] }
  rw [List.nil_append] at w2'
  have hpl1 : (Go.Proofs.Ytgiebofmfkacgaa.pl s).Perm (s.rs ++ s.ts.map (·.task) ++ t.waiters ++ rest) := by
    simp only [Go.Proofs.Ytgiebofmfkacgaa.pl]
    refine (w1.append_left _).trans ?_
    simp
  have hnd := g.pl.perm (hpl1.append_left [(n : Int)])
  have hwk := wakes_eq t.waiters (c := s.ck) g.v (by
    have := hnd.nd
    rw [List.singleton_append, List.nodup_cons, List.nodup_append] at this
    exact this.2.1) (fun x hx => alive_rng (hnd.al x (by simp [hx])) hlen) (by
    have := hnd.len
    simp only [List.length_append, List.length_map, List.length_singleton] at this
    dsimp only [Sm.ck]; omega)
  refine ⟨hwk.1, ?_⟩
  rw [endM, h]
  simp only [hwk.1]
  have hperm : (Go.Proofs.Ytgiebofmfkacgaa.pl ⟨s.now, s.ser, s.rs ++ t.waiters, s.ts, s.tasks.set n { t with ended := true, waiters := [] }, s.log ++ [⟨s.now, n, 3, 0⟩]⟩).Perm (Go.Proofs.Ytgiebofmfkacgaa.pl s) := by
    refine List.Perm.trans ?_ hpl1.symm
    simp only [Go.Proofs.Ytgiebofmfkacgaa.pl]
    refine (w2'.append_left _).trans (List.Perm.append_right _ ?_)
    rw [List.append_assoc, List.append_assoc]
    exact (List.perm_append_comm).append_left _
  have hs := sum_set (f := wk) (t' := { t with ended := true, waiters := [] }) h
  have hpot := g.pot
  have hno := List.nodup_cons.1 (show ((n : Int) :: Go.Proofs.Ytgiebofmfkacgaa.pl s).Nodup from g.pl.nd)
  refine ⟨hwk.2, by simpa using hlen, ?_, fun u hu => ?_, g.ats, ?_, h1, h2, by simp; omega⟩
  · refine Plc.perm (l := Go.Proofs.Ytgiebofmfkacgaa.pl s) ⟨hno.2, fun x hx => ?_⟩ (by simpa using hperm.symm)
    exact alive_ne (fun e => hno.1 (e ▸ hx)) (g.pl.al x (by simp [hx]))
  · rcases List.mem_or_eq_of_mem_set hu with hu | rfl
    · exact g.tk u hu
    · exact g.tk t (List.mem_of_getElem? h)
  · simp only [Go.Proofs.Ytgiebofmfkacgaa.pot, hperm.length_eq, work, List.length_set] at hpot ⊢
    have : wk { t with ended := true, waiters := [] } = wk t := rfl
    omega
/-- An action. -/
theorem Good.act (g : Good jobs s [(n : Int)] M σ) (hJ : Jok jobs) (hp : Go.Proofs.Ytgiebofmfkacgaa.pot s + 2 ≤ M) {a : Ac} (ha : okB jobs a) : Good jobs (actM jobs s n a.kind a.n.toNat).1 (if (actM jobs s n a.kind a.n.toNat).2 then [] else [(n : Int)]) (M - 1) σ := by
  obtain ⟨ak, an⟩ := a
  obtain ⟨⟨a1, a2⟩, a3, a4, a5⟩ := ha
  dsimp only at a1 a2 a3 a4 a5 ⊢
  have h1 := g.tm
  have h2 := g.se
  have h3 := g.lg
  have stay : Good jobs s [(n : Int)] (M - 1) σ := ⟨g.v, g.len, g.pl, g.tk, g.ats, by omega, by omega, by omega, by omega⟩
  unfold actM
  split
  · exact Good.note (σ := σ) ⟨g.v, g.len, g.pl, g.tk, g.ats, by omega, by omega, by omega, by omega⟩ n 2 _
  split
  · rename_i _ hk
    have hd : 0 ≤ ((an.toNat : Nat) : Int) ∧ ((an.toNat : Nat) : Int) ≤ 1000000000 := ⟨by omega, by have := a4 hk; omega⟩
    simp only [g.sleepEq hd, if_true]
    exact g.sleep hp hd
  split
  · rename_i _ _ hk
    exact g.spawn hJ hp (a5 hk)
  split
  · exact stay
  · rename_i t ht
    split
    · split
      · rename_i hc
        simp only [if_true]
        exact g.wait hp ht
      · exact stay
    · split
      · rename_i hc
        obtain ⟨e, k⟩ := g.cancel hp ht hc.1 hc.2.1
        simp only [e]
        exact k
      · exact stay
theorem actM_begun (jobs : List Jb) (s : Sm) (n m : Nat) (k : Int) (t : Tsk) (h : s.tasks[n]? = some t) (hf : (actM jobs s n k m).2 = false) : ∃ u, (actM jobs s n k m).1.tasks[n]? = some u ∧ u.left = t.left ∧ u.job = t.job ∧ u.begun = t.begun ∧ u.guarding = t.guarding := by
  have hn := lt_of_get h
  unfold actM at hf ⊢
  split
  · exact ⟨t, h, rfl, rfl, rfl, rfl⟩
  split
  · exact ⟨t, h, rfl, rfl, rfl, rfl⟩
  split
  · unfold spawnM
    split
    · exact ⟨t, h, rfl, rfl, rfl, rfl⟩
    · exact ⟨t, by simp [List.getElem?_append_left hn, h], rfl, rfl, rfl, rfl⟩
  split
  · exact ⟨t, h, rfl, rfl, rfl, rfl⟩
  · rename_i v hv
    split
    · split
      · rename_i hc
        exact ⟨t, by simp [List.getElem?_set_ne hc.1, h], rfl, rfl, rfl, rfl⟩
      · exact ⟨t, h, rfl, rfl, rfl, rfl⟩
    · split
      · exact ⟨{ t with cancelled := (t.cancelled || decide (m = n)), waiters := t.waiters.filter fun w => w != (m : Int) }, by rw [cancelTs_get, h]; rfl, rfl, rfl, rfl, rfl⟩
      · exact ⟨t, h, rfl, rfl, rfl, rfl⟩
/-- A task goes on. -/
theorem Good.go (hJ : Jok jobs) : ∀ {l : List Ac} {s : Sm} {M : Nat} {t : Tsk}, Good jobs s [(n : Int)] M (σ + 1) → s.tasks[n]? = some t → t.left = l → ∃ M', M' ≤ M ∧ Good jobs (goM jobs n l s) [] M' σ
  | [], s, M, t, g, ht, _ => ⟨M, Nat.le_refl _, (g.end_ ht).2⟩
  | a :: l, s, M, t, g, ht, hl => by
    obtain ⟨g1, hp⟩ := g.take ht hl
    have ha := (g.tk t (List.mem_of_getElem? ht)).2.2 a (by rw [hl]; simp)
    have g2 := g1.act hJ hp ha
    have hn := lt_of_get ht
    rw [goM, ht]
    simp only [Sm.set]
    have hbeg := actM_begun jobs ⟨s.now, s.ser, s.rs, s.ts, s.tasks.set n { t with left := l }, s.log⟩ n a.n.toNat a.kind { t with left := l } (by simp [hn])
    obtain ⟨s', b, hr⟩ : ∃ s' b, actM jobs ⟨s.now, s.ser, s.rs, s.ts, s.tasks.set n { t with left := l }, s.log⟩ n a.kind a.n.toNat = (s', b) := ⟨_, _, rfl⟩
    simp only [hr] at g2 hbeg ⊢
    cases b
    · obtain ⟨u, u1, u2, _⟩ := hbeg rfl
      obtain ⟨M', m1, m2⟩ := Good.go hJ (l := l) g2 u1 u2
      exact ⟨M', by omega, m2⟩
    · exact ⟨M - 1, by omega, g2.weak⟩
/-- A task proceeds. -/
theorem Good.proceed (hJ : Jok jobs) (g : Good jobs s [(n : Int)] M (σ + 2)) : ∃ M', M' ≤ M ∧ Good jobs (proceedM jobs s n) [] M' σ := by
  have hn := g.run_lt (n := n) (by simp)
  obtain ⟨t, ht⟩ : ∃ t, s.tasks[n]? = some t := ⟨_, List.getElem?_eq_getElem hn⟩
  obtain ⟨⟨j, hj1, hj2⟩, k2, k3⟩ := g.tk t (List.mem_of_getElem? ht)
  rw [proceedM, ht]
  dsimp only
  have g1 : Good jobs (s.set n { t with cancelled := false }) [(n : Int)] M (σ + 2) := g.upd ht rfl rfl ⟨⟨j, hj1, hj2⟩, k2, k3⟩ (Nat.le_refl _)
  have ht1 : (s.set n { t with cancelled := false }).tasks[n]? = some { t with cancelled := false } := by simp [Sm.set, hn]
  split
  · split
    · exact ⟨M, Nat.le_refl _, (Good.end_ (σ := σ) (g1.note n 4 0) ht1).2⟩
    · rename_i hc
      have hg : t.guarding = false := by simp at hc; exact hc.2
      have hjd : jobs.getD t.job.toNat ⟨[], []⟩ = jobs[j] := by simp [hj1, List.getD, hj2]
      obtain ⟨q1, q2⟩ := hJ.guard j hj2
      rw [hjd]
      have g2 := (g1.note n 4 0).upd (t' := { t with cancelled := false, guarding := true, left := jobs[j].guard }) ht1 rfl rfl ⟨⟨j, hj1, hj2⟩, q1, q2⟩ (by simp [wk, hg]; omega)
      exact Good.go hJ (t := { t with cancelled := false, guarding := true, left := jobs[j].guard }) g2 (by simp [hn, Sm.set, Sm.note]) rfl
  · split
    · have g2 := (g.note n 1 t.job).upd (t' := { t with begun := true }) ht rfl rfl ⟨⟨j, hj1, hj2⟩, k2, k3⟩ (Nat.le_refl _)
      exact Good.go hJ (t := { t with begun := true }) g2 (by simp [hn, Sm.set, Sm.note]) rfl
    · exact Good.go hJ g.weak ht rfl
end
end Go.Proofs.Ytgiebofmfkacgaa
namespace Go.Proofs.Ytgiebofmfkacgaa
open Go.RowKit

theorem okB_A {jobs : List Jb} {a : Ac} (h : okB jobs a) : okA jobs a := ⟨h.1, h.2.1, h.2.2.2⟩
theorem Good.inv {jobs : List Jb} {s : Sm} {n M σ : Nat} {t : Tsk} (g : Good jobs s [(n : Int)] M σ) (h : s.tasks[n]? = some t) : Inv jobs n t.left s := by
  obtain ⟨_, k2, k3⟩ := g.tk t (List.mem_of_getElem? h)
  have h3 := g.lg
  have hc := g.clk
  have hl := g.pl.len
  have hlen := g.len
  refine ⟨⟨t, h, rfl⟩, g.len, by omega, ⟨by dsimp only [Sm.ck]; omega, by dsimp only [Sm.ck]; omega⟩, fun u hu => ?_, fun a ha => okB_A (k3 a ha)⟩
  obtain ⟨i, hi⟩ := List.getElem?_of_mem hu
  obtain ⟨rest, w1, _⟩ := wts_set hi
  have := w1.length_eq
  simp only [List.length_append] at this
  simp only [Go.Proofs.Ytgiebofmfkacgaa.pl, List.length_append, List.length_singleton] at hl
  omega
theorem proceed_T (jobs : List Jb) (hJ : Jok jobs) (now ser : Int) (rs : List Int) (ts : List Tm) (tasks : List Tsk) (log : List Rc) (n M : Nat) (g : Good jobs ⟨now, ser, rs, ts, tasks, log⟩ [(n : Int)] M 3) (y1 y2 : Int) (y3 : List Int) (y4 : List Tm) (ys : List Tsk) (yl : List Rc) (e : proceedM jobs ⟨now, ser, rs, ts, tasks, log⟩ n = ⟨y1, y2, y3, y4, ys, yl⟩) (r1 r2 : List (List E)) (e1 : r1 = [smRow jobs now ser rs ts tasks.length log]) (e2 : r2 = tasks.map Tsk.row) :
    CallsA Try.prog 47 [smP, di n] [(1, .fm 80 r1), (2, .fm 104 r2)] (Iso (.t []) (smOb jobs y1 y2 y3 y4 ys yl)) := by
  have hn := g.run_lt (n := n) (by simp)
  dsimp only at hn
  obtain ⟨t, ht⟩ : ∃ t, tasks[n]? = some t := ⟨_, List.getElem?_eq_getElem hn⟩
  obtain ⟨⟨j, hj1, hj2⟩, k2, k3⟩ := g.tk t (List.mem_of_getElem? ht)
  have hlg := g.lg
  have hclk := g.clk
  dsimp only at hlg hclk
  have hs : Small ⟨now, ser, rs, ts⟩ := ⟨by dsimp only; omega, by dsimp only; omega⟩
  obtain ⟨job, begun, guarding, ended, cancelled, left, ws⟩ := t
  dsimp only at hj1 k2 k3
  subst hj1
  rw [proceedM] at e
  dsimp only at e
  rw [ht] at e
  dsimp only at e
  cases cancelled
  · simp only [Bool.false_eq_true, if_false] at e
    cases begun
    · simp only [Bool.not_false, if_true] at e
      have g2 := (g.note n 1 j).upd (t' := ⟨j, true, guarding, ended, false, left, ws⟩) ht rfl rfl ⟨⟨j, rfl, hj2⟩, k2, k3⟩ (Nat.le_refl _)
      exact proceedB_T jobs now ser rs ts tasks log n j guarding ended left ws ht (by omega) (g2.inv (t := ⟨j, true, guarding, ended, false, left, ws⟩) (by simp [hn])) y1 y2 y3 y4 ys yl e r1 r2 e1 e2
    · simp only [Bool.not_true, Bool.false_eq_true, if_false] at e
      exact proceedA_T jobs now ser rs ts tasks log n j guarding ended left ws ht (g.inv ht) y1 y2 y3 y4 ys yl e r1 r2 e1 e2
  · simp only [if_true] at e
    by_cases hc : begun = false ∨ (begun = true ∧ guarding = true)
    · rw [if_pos (by rcases hc with h | ⟨h1, h2⟩ <;> simp [*])] at e
      rw [endM] at e
      simp only [Sm.set, Sm.note] at e
      have ht2 : (tasks.set n ⟨j, begun, guarding, ended, false, left, ws⟩)[n]? = some ⟨j, begun, guarding, ended, false, left, ws⟩ := by simp [hn]
      rw [ht2] at e
      dsimp only [Sm.ck] at e
      generalize hw : wakes ⟨now, ser, rs, ts⟩ ws = w at e
      obtain ⟨w1, w2, w3, w4⟩ := w
      injection e with q1 q2 q3 q4 q5 q6
      subst q1 q2 q3 q4 q5 q6
      exact proceedC_T jobs now ser rs ts tasks log n j begun guarding ended left ws hc ht (by omega) hs w1 w2 w3 w4 hw r1 r2 e1 e2
    · have hb : begun = true ∧ guarding = false := by cases begun <;> cases guarding <;> simp_all
      obtain ⟨rfl, rfl⟩ := hb
      rw [if_neg (by simp)] at e
      have hjd : jobs.getD ((j : Int).toNat) ⟨[], []⟩ = jobs[j] := by simp [List.getD, hj2]
      rw [hjd] at e
      obtain ⟨q1, q2⟩ := hJ.guard j hj2
      have g1 : Good jobs ⟨now, ser, rs, ts, tasks.set n ⟨j, true, false, ended, false, left, ws⟩, log⟩ [(n : Int)] M 3 := g.upd (t' := ⟨j, true, false, ended, false, left, ws⟩) ht rfl rfl ⟨⟨j, rfl, hj2⟩, k2, k3⟩ (Nat.le_refl _)
      have g2 := (g1.note n 4 0).upd (n := n) (t := ⟨j, true, false, ended, false, left, ws⟩) (t' := ⟨j, true, true, ended, false, jobs[j].guard, ws⟩) (by simp [hn]) rfl rfl ⟨⟨j, rfl, hj2⟩, q1, q2⟩ (by simp [wk]; omega)
      exact proceedD_T jobs now ser rs ts tasks log n j hj2 ended left ws ht (by omega) (g2.inv (t := ⟨j, true, true, ended, false, jobs[j].guard, ws⟩) (by simp [hn])) y1 y2 y3 y4 ys yl e r1 r2 e1 e2
end Go.Proofs.Ytgiebofmfkacgaa
namespace Go.Proofs.Ytgiebofmfkacgaa
open Go.RowKit

def rangeM (n most : Int) : Int := if n < 0 ∨ most < n then 4 else 0
def checkM (k n jobs : Int) : Int := if k = 1 then rangeM n 1000000000000000 else if k = 2 then rangeM n 1000000000 else if k = 3 then rangeM n (jobs - 1) else if k = 4 ∨ k = 5 then rangeM n 59 else 5
theorem check_T (k n j : Int) (hj : 0 ≤ j) (hj6 : j ≤ 60) : CallsA Try.prog 60 [.a [.u (.int .i64 k), .u (.int .i64 n)], di j] [] (Is (di (checkM k n j))) := by
  refine callsA_of_vc (T := tt) Try.func60 rfl rfl rfl rfl rfl ?_
  repeat' ((conv => whnf); first | refine Gs.id ?_ | with_reducible refine And.intro ?_ ?_ | with_reducible refine Brn.T rfl ?_ | with_reducible refine Brn.F rfl ?_ | refine Brn.T (by (try simp only [smT]); first | rfl | assumption | omega | (simp only [*]; done) | (simp [*]; done) | fail) ?_ | refine Brn.F (by (try simp only [smT]); first | rfl | assumption | omega | (simp only [*]; done) | (simp [*]; done) | fail) ?_ | (refine Brn.mk (fun hb => ?_) (fun hb => ?_) <;> (try simp only [smT] at hb) <;> (try (exact absurd trivial hb)) <;> (try (exfalso; omega))) | (refine Bnd.mk (fun hm => ?_); (try simp only [smT] at hm)) | refine Rng.mk (by (try simp only [smT]); omega) ?_ | refine Ix.map rfl (by (try simp only [smT]); omega) ?_ | refine Ix.map (m := 0) rfl (by (try simp only [smT]); omega) ?_ | refine Ix.lit (m := 0) rfl rfl ?_ | refine Ixo.mk ⟨_, rfl, (by (try simp only [smT]); omega), ?_⟩ | refine Rw.lit rfl ?_ | refine Rw.self (by (try simp only [smT]); omega) ?_ | refine Rw.map (by (try simp only [smT]); omega) ?_ | refine Len.mk (by first | rfl | (simp; done) | (simp only [smT]; assumption) | (simp only [smT]; omega)) ?_ | refine Eqv.mk (by kernel_rfl) ?_ | refine Apd.mk (by first | rfl | simp) (by first | rfl | simp) (by (try simp only [smT]); first | omega | (simp; omega)) (by unfold maxLen; first | (simp; done) | (simp; omega) | omega) ?_ | refine Raw.capNil (T := tt) rfl rfl rfl rfl ?_ | refine Raw.sliceNil (T := tt) rfl rfl (by first | rfl | omega | (simp; done)) rfl rfl rfl rfl ?_ | (refine Raw.appendR (T := tt) ?_; (conv => whnf); first | refine Rw.lit rfl ?_ | refine Rw.self (by (try simp only [smT]); omega) ?_ | refine Rw.map (by (try simp only [smT]); omega) ?_) | refine Raw.appendIn (T := tt) rfl rfl rfl rfl rfl rfl rfl rfl rfl rfl (by (try simp only [smT]); omega) (by (try simp only [smT]); omega) ?_ | refine Raw.clear (T := tt) rfl rfl rfl rfl rfl rfl rfl (by (try simp only [smT]); omega) ?_ | refine Slc.mk ⟨_, _, rfl, rfl, (by (try simp only [smT]); omega), (by (try simp only [smT]); omega), ?_⟩ | refine Slc.mk ⟨0, _, rfl, rfl, (by (try simp only [smT]); omega), (by (try simp only [smT]); omega), ?_⟩ | refine Slc.mk ⟨1, _, rfl, rfl, (by (try simp only [smT]); omega), (by (try simp only [smT]); omega), ?_⟩ | refine Slc3.mk ⟨_, _, _, rfl, rfl, rfl, (by (try simp only [smT]); omega), (by (try simp only [smT]); omega), (by (try simp only [smT]); omega)⟩ ?_)
  all_goals (conv => whnf)
  all_goals (refine Ret.is ?_; simp only [tupT, SC.up, upT]; simp [checkM, rangeM, *])
end Go.Proofs.Ytgiebofmfkacgaa
namespace Go.Proofs.Ytgiebofmfkacgaa
open Go.RowKit

abbrev aar (k : Nat) (l : List Ac) : Nat × Ob := (k, .ar 83 2 (l.map Ac.v))
theorem grow_T (n : Nat) (hn : n ≤ 1000000) : CallsA Try.prog 69 [.d (.u .nl), di n] [] (Iso (.d (.ow 903 0)) [aar 903 []]) := by
  by_cases h0 : n = 0
  · subst h0
    refine callsA_of_vcO (T := tt) Try.func69 rfl rfl rfl rfl rfl ?_
    repeat' ((conv => whnf); first | refine Gs.id ?_ | with_reducible refine And.intro ?_ ?_ | with_reducible refine Brn.T rfl ?_ | with_reducible refine Brn.F rfl ?_ | refine Brn.T (by (try simp only [smT]); first | rfl | assumption | omega | (simp only [*]; done) | (simp [*]; done) | fail) ?_ | refine Brn.F (by (try simp only [smT]); first | rfl | assumption | omega | (simp only [*]; done) | (simp [*]; done) | fail) ?_ | (refine Brn.mk (fun hb => ?_) (fun hb => ?_) <;> (try simp only [smT] at hb) <;> (try (exact absurd trivial hb)) <;> (try (exfalso; omega))) | (refine Bnd.mk (fun hm => ?_); (try simp only [smT] at hm)) | refine Rng.mk (by (try simp only [smT]); omega) ?_ | refine Ix.map rfl (by (try simp only [smT]); omega) ?_ | refine Ix.map (m := 0) rfl (by (try simp only [smT]); omega) ?_ | refine Ix.lit (m := 0) rfl rfl ?_ | refine Ixo.mk ⟨_, rfl, (by (try simp only [smT]); omega), ?_⟩ | refine Rw.lit rfl ?_ | refine Rw.self (by (try simp only [smT]); omega) ?_ | refine Rw.map (by (try simp only [smT]); omega) ?_ | refine Len.mk (by first | rfl | (simp; done) | (simp only [smT]; assumption) | (simp only [smT]; omega)) ?_ | refine Eqv.mk (by kernel_rfl) ?_ | refine Apd.mk (by first | rfl | simp) (by first | rfl | simp) (by (try simp only [smT]); first | omega | (simp; omega)) (by unfold maxLen; first | (simp; done) | (simp; omega) | omega) ?_ | refine Raw.capNil (T := tt) rfl rfl rfl rfl ?_ | refine Raw.sliceNil (T := tt) rfl rfl (by first | rfl | omega | (simp; done)) rfl rfl rfl rfl ?_ | (refine Raw.appendR (T := tt) ?_; (conv => whnf); first | refine Rw.lit rfl ?_ | refine Rw.self (by (try simp only [smT]); omega) ?_ | refine Rw.map (by (try simp only [smT]); omega) ?_) | refine Raw.appendIn (T := tt) rfl rfl rfl rfl rfl rfl rfl rfl rfl rfl (by (try simp only [smT]); omega) (by (try simp only [smT]); omega) ?_ | refine Raw.clear (T := tt) rfl rfl rfl rfl rfl rfl rfl (by (try simp only [smT]); omega) ?_ | refine Slc.mk ⟨_, _, rfl, rfl, (by (try simp only [smT]); omega), (by (try simp only [smT]); omega), ?_⟩ | refine Slc.mk ⟨0, _, rfl, rfl, (by (try simp only [smT]); omega), (by (try simp only [smT]); omega), ?_⟩ | refine Slc.mk ⟨1, _, rfl, rfl, (by (try simp only [smT]); omega), (by (try simp only [smT]); omega), ?_⟩ | refine Slc3.mk ⟨_, _, _, rfl, rfl, rfl, (by (try simp only [smT]); omega), (by (try simp only [smT]); omega), (by (try simp only [smT]); omega)⟩ ?_)
    all_goals (conv => whnf)
    · exact RetO.mk ⟨[(903, .n 2)], _, _, .d (.no rfl rfl), LeO.no rfl rfl .nil, rfl, rfl⟩
  · refine callsA_of_vcO (T := tt) Try.func69 rfl rfl rfl rfl rfl ?_
    repeat' ((conv => whnf); first | refine Raw.appendZ (T := tt) n rfl rfl (by simp) rfl rfl rfl rfl rfl rfl rfl rfl rfl (by omega) hn (by omega) ?_ | refine Gs.id ?_ | with_reducible refine And.intro ?_ ?_ | with_reducible refine Brn.T rfl ?_ | with_reducible refine Brn.F rfl ?_ | refine Brn.T (by (try simp only [smT]); first | rfl | assumption | omega | (simp only [*]; done) | (simp [*]; done) | fail) ?_ | refine Brn.F (by (try simp only [smT]); first | rfl | assumption | omega | (simp only [*]; done) | (simp [*]; done) | fail) ?_ | (refine Brn.mk (fun hb => ?_) (fun hb => ?_) <;> (try simp only [smT] at hb) <;> (try (exact absurd trivial hb)) <;> (try (exfalso; omega))) | (refine Bnd.mk (fun hm => ?_); (try simp only [smT] at hm)) | refine Rng.mk (by (try simp only [smT]); omega) ?_ | refine Ix.map rfl (by (try simp only [smT]); omega) ?_ | refine Ix.map (m := 0) rfl (by (try simp only [smT]); omega) ?_ | refine Ix.lit (m := 0) rfl rfl ?_ | refine Ixo.mk ⟨_, rfl, (by (try simp only [smT]); omega), ?_⟩ | refine Rw.lit rfl ?_ | refine Rw.self (by (try simp only [smT]); omega) ?_ | refine Rw.map (by (try simp only [smT]); omega) ?_ | refine Len.mk (by first | rfl | (simp; done) | (simp only [smT]; assumption) | (simp only [smT]; omega)) ?_ | refine Eqv.mk (by kernel_rfl) ?_ | refine Apd.mk (by first | rfl | simp) (by first | rfl | simp) (by (try simp only [smT]); first | omega | (simp; omega)) (by unfold maxLen; first | (simp; done) | (simp; omega) | omega) ?_ | refine Raw.capNil (T := tt) rfl rfl rfl rfl ?_ | refine Raw.sliceNil (T := tt) rfl rfl (by first | rfl | omega | (simp; done)) rfl rfl rfl rfl ?_ | (refine Raw.appendR (T := tt) ?_; (conv => whnf); first | refine Raw.appendZ (T := tt) n rfl rfl (by simp) rfl rfl rfl rfl rfl rfl rfl rfl rfl (by omega) hn (by omega) ?_ | refine Rw.lit rfl ?_ | refine Rw.self (by (try simp only [smT]); omega) ?_ | refine Rw.map (by (try simp only [smT]); omega) ?_) | refine Raw.appendIn (T := tt) rfl rfl rfl rfl rfl rfl rfl rfl rfl rfl (by (try simp only [smT]); omega) (by (try simp only [smT]); omega) ?_ | refine Raw.clear (T := tt) rfl rfl rfl rfl rfl rfl rfl (by (try simp only [smT]); omega) ?_ | refine Slc.mk ⟨_, _, rfl, rfl, (by (try simp only [smT]); omega), (by (try simp only [smT]); omega), ?_⟩ | refine Slc.mk ⟨0, _, rfl, rfl, (by (try simp only [smT]); omega), (by (try simp only [smT]); omega), ?_⟩ | refine Slc.mk ⟨1, _, rfl, rfl, (by (try simp only [smT]); omega), (by (try simp only [smT]); omega), ?_⟩ | refine Slc3.mk ⟨_, _, _, rfl, rfl, rfl, (by (try simp only [smT]); omega), (by (try simp only [smT]); omega), (by (try simp only [smT]); omega)⟩ ?_)
    all_goals (conv => whnf)
    · exact RetO.mk ⟨[(903, .k 22)], _, _, .d (.ow rfl rfl), LeO.tr (m := 0) rfl rfl (Nat.zero_le _) rfl .nil, rfl, rfl⟩
theorem concat_T (a b : List Ac) (ha : a.length ≤ 30) (hb : b.length ≤ 30) : CallsA Try.prog 59 [.d (.u (.sl 1 [[avs a], [avs b]]))] [] (Is (.d (.u (avs (a ++ b))))) := by
  refine callsA_of_vc (T := tt) Try.func59 rfl rfl rfl rfl rfl ?_
  repeat' ((conv => whnf); first | refine Gs.id ?_ | with_reducible refine And.intro ?_ ?_ | with_reducible refine Brn.T rfl ?_ | with_reducible refine Brn.F rfl ?_ | refine Brn.T (by (try simp only [smT]); first | rfl | assumption | omega | (simp only [*]; done) | (simp [*]; done) | fail) ?_ | refine Brn.F (by (try simp only [smT]); first | rfl | assumption | omega | (simp only [*]; done) | (simp [*]; done) | fail) ?_ | (refine Brn.mk (fun hb => ?_) (fun hb => ?_) <;> (try simp only [smT] at hb) <;> (try (exact absurd trivial hb)) <;> (try (exfalso; omega))) | (refine Bnd.mk (fun hm => ?_); (try simp only [smT] at hm)) | refine Rng.mk (by (try simp only [smT]); omega) ?_ | refine Ix.map rfl (by (try simp only [smT]); omega) ?_ | refine Ix.map (m := 0) rfl (by (try simp only [smT]); omega) ?_ | refine Ix.lit (m := 0) rfl rfl ?_ | refine Ixo.mk ⟨_, rfl, (by (try simp only [smT]); omega), ?_⟩ | refine Rw.lit rfl ?_ | refine Rw.self (by (try simp only [smT]); omega) ?_ | refine Rw.map (by (try simp only [smT]); omega) ?_ | refine Len.mk (by first | rfl | (simp; done) | (simp only [smT]; assumption) | (simp only [smT]; omega)) ?_ | refine Eqv.mk (by kernel_rfl) ?_ | refine Apd.mk (by first | rfl | simp) (by first | rfl | simp) (by (try simp only [smT]); first | omega | (simp; omega)) (by unfold maxLen; first | (simp; done) | (simp; omega) | omega) ?_ | refine Raw.capNil (T := tt) rfl rfl rfl rfl ?_ | refine Raw.sliceNil (T := tt) rfl rfl (by first | rfl | omega | (simp; done)) rfl rfl rfl rfl ?_ | (refine Raw.appendR (T := tt) ?_; (conv => whnf); first | refine Rw.lit rfl ?_ | refine Rw.self (by (try simp only [smT]); omega) ?_ | refine Rw.map (by (try simp only [smT]); omega) ?_) | refine Raw.appendIn (T := tt) rfl rfl rfl rfl rfl rfl rfl rfl rfl rfl (by (try simp only [smT]); omega) (by (try simp only [smT]); omega) ?_ | refine Raw.clear (T := tt) rfl rfl rfl rfl rfl rfl rfl (by (try simp only [smT]); omega) ?_ | refine Slc.mk ⟨_, _, rfl, rfl, (by (try simp only [smT]); omega), (by (try simp only [smT]); omega), ?_⟩ | refine Slc.mk ⟨0, _, rfl, rfl, (by (try simp only [smT]); omega), (by (try simp only [smT]); omega), ?_⟩ | refine Slc.mk ⟨1, _, rfl, rfl, (by (try simp only [smT]); omega), (by (try simp only [smT]); omega), ?_⟩ | refine Slc3.mk ⟨_, _, _, rfl, rfl, rfl, (by (try simp only [smT]); omega), (by (try simp only [smT]); omega), (by (try simp only [smT]); omega)⟩ ?_)
  all_goals (conv => whnf)
  refine ⟨⟨Nat, fun i => i ≤ 2, fun i => 2 - i, fun i => ⟨[(0, .d (.u (.sl 1 [[avs a], [avs b]]))), (3, di (match i with | 0 => 0 | 1 => a.length | _ => (a.length : Int) + b.length)), (9, .d (.u (.sl 1 [[avs a], [avs b]]))), (10, di 2), (11, di i)], []⟩, 0, by omega, ⟨[], ⟨by (try dsimp only); (repeat (refine LeT.cons rfl (by first | exact LeS.d (by first | exact LeD.u rfl | exact LeD.p rfl | exact LeD.ow rfl rfl | exact LeD.ow rfl (by simp) | exact LeD.no rfl rfl | exact LeD.nl (by first | rfl | simp) | exact LeD.u (by simp; done) | exact LeD.u (by congr 1; omega) | exact LeD.q rfl | exact LeD.r rfl | exact LeD.r (by simp; done) | exact LeD.re | exact LeD.ows rfl rfl rfl | exact LeD.u (by congr 1; congr 1; simp) | exact LeD.fn (by repeat (first | exact LeN.nil | refine LeN.cons rfl ?_))) | exact LeS.a (by repeat (first | exact LeL.nil | refine LeL.cons (by first | exact LeD.u rfl | exact LeD.p rfl | exact LeD.ow rfl rfl | exact LeD.ow rfl (by simp) | exact LeD.no rfl rfl | exact LeD.nl (by first | rfl | simp) | exact LeD.u (by simp; done) | exact LeD.u (by congr 1; omega) | exact LeD.q rfl | exact LeD.r rfl | exact LeD.r (by simp; done) | exact LeD.re | exact LeD.ows rfl rfl rfl | exact LeD.u (by congr 1; congr 1; simp) | exact LeD.fn (by repeat (first | exact LeN.nil | refine LeN.cons rfl ?_))) ?_))) ?_)); exact LeT.nil, by (try dsimp only); repeat (first | exact LeO.nil | refine LeO.bx rfl rfl (by repeat (first | exact LeL.nil | refine LeL.cons (by first | exact LeD.u rfl | exact LeD.p rfl | exact LeD.ow rfl rfl | exact LeD.ow rfl (by simp) | exact LeD.no rfl rfl | exact LeD.nl (by first | rfl | simp) | exact LeD.u (by simp; done) | exact LeD.u (by congr 1; omega) | exact LeD.q rfl | exact LeD.r rfl | exact LeD.r (by simp; done) | exact LeD.re | exact LeD.ows rfl rfl rfl | exact LeD.u (by congr 1; congr 1; simp) | exact LeD.fn (by repeat (first | exact LeN.nil | refine LeN.cons rfl ?_))) ?_)) ?_ | refine LeO.ar rfl rfl (by first | rfl | simp) ?_ | refine LeO.fm rfl (by first | rfl | simp) ?_ | refine LeO.no rfl rfl ?_)⟩⟩, fun i hi => ?_⟩⟩
  dsimp only at hi ⊢
  have h3 : i = 0 ∨ i = 1 ∨ i = 2 := by omega
  rcases h3 with rfl | rfl | rfl
  · repeat' ((conv => whnf); first | refine Gs.id ?_ | with_reducible refine And.intro ?_ ?_ | with_reducible refine Brn.T rfl ?_ | with_reducible refine Brn.F rfl ?_ | refine Brn.T (by (try simp only [smT]); first | rfl | assumption | omega | (simp only [*]; done) | (simp [*]; done) | fail) ?_ | refine Brn.F (by (try simp only [smT]); first | rfl | assumption | omega | (simp only [*]; done) | (simp [*]; done) | fail) ?_ | (refine Brn.mk (fun hb => ?_) (fun hb => ?_) <;> (try simp only [smT] at hb) <;> (try (exact absurd trivial hb)) <;> (try (exfalso; omega))) | (refine Bnd.mk (fun hm => ?_); (try simp only [smT] at hm)) | refine Rng.mk (by (try simp only [smT]); omega) ?_ | refine Ix.map rfl (by (try simp only [smT]); omega) ?_ | refine Ix.map (m := 0) rfl (by (try simp only [smT]); omega) ?_ | refine Ix.lit (m := 0) rfl rfl ?_ | refine Ixo.mk ⟨_, rfl, (by (try simp only [smT]); omega), ?_⟩ | refine Rw.lit rfl ?_ | refine Rw.self (by (try simp only [smT]); omega) ?_ | refine Rw.map (by (try simp only [smT]); omega) ?_ | refine Len.mk (by first | rfl | (simp; done) | (simp only [smT]; assumption) | (simp only [smT]; omega)) ?_ | refine Eqv.mk (by kernel_rfl) ?_ | refine Apd.mk (by first | rfl | simp) (by first | rfl | simp) (by (try simp only [smT]); first | omega | (simp; omega)) (by unfold maxLen; first | (simp; done) | (simp; omega) | omega) ?_ | refine Raw.capNil (T := tt) rfl rfl rfl rfl ?_ | refine Raw.sliceNil (T := tt) rfl rfl (by first | rfl | omega | (simp; done)) rfl rfl rfl rfl ?_ | (refine Raw.appendR (T := tt) ?_; (conv => whnf); first | refine Rw.lit rfl ?_ | refine Rw.self (by (try simp only [smT]); omega) ?_ | refine Rw.map (by (try simp only [smT]); omega) ?_) | refine Raw.appendIn (T := tt) rfl rfl rfl rfl rfl rfl rfl rfl rfl rfl (by (try simp only [smT]); omega) (by (try simp only [smT]); omega) ?_ | refine Raw.clear (T := tt) rfl rfl rfl rfl rfl rfl rfl (by (try simp only [smT]); omega) ?_ | refine Slc.mk ⟨_, _, rfl, rfl, (by (try simp only [smT]); omega), (by (try simp only [smT]); omega), ?_⟩ | refine Slc.mk ⟨0, _, rfl, rfl, (by (try simp only [smT]); omega), (by (try simp only [smT]); omega), ?_⟩ | refine Slc.mk ⟨1, _, rfl, rfl, (by (try simp only [smT]); omega), (by (try simp only [smT]); omega), ?_⟩ | refine Slc3.mk ⟨_, _, _, rfl, rfl, rfl, (by (try simp only [smT]); omega), (by (try simp only [smT]); omega), (by (try simp only [smT]); omega)⟩ ?_)
    all_goals (conv => whnf)
    · exact ⟨1, by omega, by omega, [], ⟨by (try dsimp only); (repeat (refine LeT.cons rfl (by first | exact LeS.d (by first | exact LeD.u rfl | exact LeD.p rfl | exact LeD.ow rfl rfl | exact LeD.ow rfl (by simp) | exact LeD.no rfl rfl | exact LeD.nl (by first | rfl | simp) | exact LeD.u (by simp; done) | exact LeD.u (by congr 1; omega) | exact LeD.q rfl | exact LeD.r rfl | exact LeD.r (by simp; done) | exact LeD.re | exact LeD.ows rfl rfl rfl | exact LeD.u (by congr 1; congr 1; simp) | exact LeD.fn (by repeat (first | exact LeN.nil | refine LeN.cons rfl ?_))) | exact LeS.a (by repeat (first | exact LeL.nil | refine LeL.cons (by first | exact LeD.u rfl | exact LeD.p rfl | exact LeD.ow rfl rfl | exact LeD.ow rfl (by simp) | exact LeD.no rfl rfl | exact LeD.nl (by first | rfl | simp) | exact LeD.u (by simp; done) | exact LeD.u (by congr 1; omega) | exact LeD.q rfl | exact LeD.r rfl | exact LeD.r (by simp; done) | exact LeD.re | exact LeD.ows rfl rfl rfl | exact LeD.u (by congr 1; congr 1; simp) | exact LeD.fn (by repeat (first | exact LeN.nil | refine LeN.cons rfl ?_))) ?_))) ?_)); exact LeT.nil, by (try dsimp only); repeat (first | exact LeO.nil | refine LeO.bx rfl rfl (by repeat (first | exact LeL.nil | refine LeL.cons (by first | exact LeD.u rfl | exact LeD.p rfl | exact LeD.ow rfl rfl | exact LeD.ow rfl (by simp) | exact LeD.no rfl rfl | exact LeD.nl (by first | rfl | simp) | exact LeD.u (by simp; done) | exact LeD.u (by congr 1; omega) | exact LeD.q rfl | exact LeD.r rfl | exact LeD.r (by simp; done) | exact LeD.re | exact LeD.ows rfl rfl rfl | exact LeD.u (by congr 1; congr 1; simp) | exact LeD.fn (by repeat (first | exact LeN.nil | refine LeN.cons rfl ?_))) ?_)) ?_ | refine LeO.ar rfl rfl (by first | rfl | simp) ?_ | refine LeO.fm rfl (by first | rfl | simp) ?_ | refine LeO.no rfl rfl ?_)⟩⟩
  · repeat' ((conv => whnf); first | refine Ix.lit (m := 1) rfl rfl ?_ | refine Gs.id ?_ | with_reducible refine And.intro ?_ ?_ | with_reducible refine Brn.T rfl ?_ | with_reducible refine Brn.F rfl ?_ | refine Brn.T (by (try simp only [smT]); first | rfl | assumption | omega | (simp only [*]; done) | (simp [*]; done) | fail) ?_ | refine Brn.F (by (try simp only [smT]); first | rfl | assumption | omega | (simp only [*]; done) | (simp [*]; done) | fail) ?_ | (refine Brn.mk (fun hb => ?_) (fun hb => ?_) <;> (try simp only [smT] at hb) <;> (try (exact absurd trivial hb)) <;> (try (exfalso; omega))) | (refine Bnd.mk (fun hm => ?_); (try simp only [smT] at hm)) | refine Rng.mk (by (try simp only [smT]); omega) ?_ | refine Ix.map rfl (by (try simp only [smT]); omega) ?_ | refine Ix.map (m := 0) rfl (by (try simp only [smT]); omega) ?_ | refine Ix.lit (m := 0) rfl rfl ?_ | refine Ixo.mk ⟨_, rfl, (by (try simp only [smT]); omega), ?_⟩ | refine Rw.lit rfl ?_ | refine Rw.self (by (try simp only [smT]); omega) ?_ | refine Rw.map (by (try simp only [smT]); omega) ?_ | refine Len.mk (by first | rfl | (simp; done) | (simp only [smT]; assumption) | (simp only [smT]; omega)) ?_ | refine Eqv.mk (by kernel_rfl) ?_ | refine Apd.mk (by first | rfl | simp) (by first | rfl | simp) (by (try simp only [smT]); first | omega | (simp; omega)) (by unfold maxLen; first | (simp; done) | (simp; omega) | omega) ?_ | refine Raw.capNil (T := tt) rfl rfl rfl rfl ?_ | refine Raw.sliceNil (T := tt) rfl rfl (by first | rfl | omega | (simp; done)) rfl rfl rfl rfl ?_ | (refine Raw.appendR (T := tt) ?_; (conv => whnf); first | refine Ix.lit (m := 1) rfl rfl ?_ | refine Rw.lit rfl ?_ | refine Rw.self (by (try simp only [smT]); omega) ?_ | refine Rw.map (by (try simp only [smT]); omega) ?_) | refine Raw.appendIn (T := tt) rfl rfl rfl rfl rfl rfl rfl rfl rfl rfl (by (try simp only [smT]); omega) (by (try simp only [smT]); omega) ?_ | refine Raw.clear (T := tt) rfl rfl rfl rfl rfl rfl rfl (by (try simp only [smT]); omega) ?_ | refine Slc.mk ⟨_, _, rfl, rfl, (by (try simp only [smT]); omega), (by (try simp only [smT]); omega), ?_⟩ | refine Slc.mk ⟨0, _, rfl, rfl, (by (try simp only [smT]); omega), (by (try simp only [smT]); omega), ?_⟩ | refine Slc.mk ⟨1, _, rfl, rfl, (by (try simp only [smT]); omega), (by (try simp only [smT]); omega), ?_⟩ | refine Slc3.mk ⟨_, _, _, rfl, rfl, rfl, (by (try simp only [smT]); omega), (by (try simp only [smT]); omega), (by (try simp only [smT]); omega)⟩ ?_)
    all_goals (conv => whnf)
    · exact ⟨2, by omega, by omega, [], ⟨by (try dsimp only); (repeat (refine LeT.cons rfl (by first | exact LeS.d (by first | exact LeD.u rfl | exact LeD.p rfl | exact LeD.ow rfl rfl | exact LeD.ow rfl (by simp) | exact LeD.no rfl rfl | exact LeD.nl (by first | rfl | simp) | exact LeD.u (by simp; done) | exact LeD.u (by congr 1; omega) | exact LeD.q rfl | exact LeD.r rfl | exact LeD.r (by simp; done) | exact LeD.re | exact LeD.ows rfl rfl rfl | exact LeD.u (by congr 1; congr 1; simp) | exact LeD.fn (by repeat (first | exact LeN.nil | refine LeN.cons rfl ?_))) | exact LeS.a (by repeat (first | exact LeL.nil | refine LeL.cons (by first | exact LeD.u rfl | exact LeD.p rfl | exact LeD.ow rfl rfl | exact LeD.ow rfl (by simp) | exact LeD.no rfl rfl | exact LeD.nl (by first | rfl | simp) | exact LeD.u (by simp; done) | exact LeD.u (by congr 1; omega) | exact LeD.q rfl | exact LeD.r rfl | exact LeD.r (by simp; done) | exact LeD.re | exact LeD.ows rfl rfl rfl | exact LeD.u (by congr 1; congr 1; simp) | exact LeD.fn (by repeat (first | exact LeN.nil | refine LeN.cons rfl ?_))) ?_))) ?_)); exact LeT.nil, by (try dsimp only); repeat (first | exact LeO.nil | refine LeO.bx rfl rfl (by repeat (first | exact LeL.nil | refine LeL.cons (by first | exact LeD.u rfl | exact LeD.p rfl | exact LeD.ow rfl rfl | exact LeD.ow rfl (by simp) | exact LeD.no rfl rfl | exact LeD.nl (by first | rfl | simp) | exact LeD.u (by simp; done) | exact LeD.u (by congr 1; omega) | exact LeD.q rfl | exact LeD.r rfl | exact LeD.r (by simp; done) | exact LeD.re | exact LeD.ows rfl rfl rfl | exact LeD.u (by congr 1; congr 1; simp) | exact LeD.fn (by repeat (first | exact LeN.nil | refine LeN.cons rfl ?_))) ?_)) ?_ | refine LeO.ar rfl rfl (by first | rfl | simp) ?_ | refine LeO.fm rfl (by first | rfl | simp) ?_ | refine LeO.no rfl rfl ?_)⟩⟩
  · repeat' ((conv => whnf); first | refine Gs.id ?_ | with_reducible refine And.intro ?_ ?_ | with_reducible refine Brn.T rfl ?_ | with_reducible refine Brn.F rfl ?_ | refine Brn.T (by (try simp only [smT]); first | rfl | assumption | omega | (simp only [*]; done) | (simp [*]; done) | fail) ?_ | refine Brn.F (by (try simp only [smT]); first | rfl | assumption | omega | (simp only [*]; done) | (simp [*]; done) | fail) ?_ | (refine Brn.mk (fun hb => ?_) (fun hb => ?_) <;> (try simp only [smT] at hb) <;> (try (exact absurd trivial hb)) <;> (try (exfalso; omega))) | (refine Bnd.mk (fun hm => ?_); (try simp only [smT] at hm)) | refine Rng.mk (by (try simp only [smT]); omega) ?_ | refine Ix.map rfl (by (try simp only [smT]); omega) ?_ | refine Ix.map (m := 0) rfl (by (try simp only [smT]); omega) ?_ | refine Ix.lit (m := 0) rfl rfl ?_ | refine Ixo.mk ⟨_, rfl, (by (try simp only [smT]); omega), ?_⟩ | refine Rw.lit rfl ?_ | refine Rw.self (by (try simp only [smT]); omega) ?_ | refine Rw.map (by (try simp only [smT]); omega) ?_ | refine Len.mk (by first | rfl | (simp; done) | (simp only [smT]; assumption) | (simp only [smT]; omega)) ?_ | refine Eqv.mk (by kernel_rfl) ?_ | refine Apd.mk (by first | rfl | simp) (by first | rfl | simp) (by (try simp only [smT]); first | omega | (simp; omega)) (by unfold maxLen; first | (simp; done) | (simp; omega) | omega) ?_ | refine Raw.capNil (T := tt) rfl rfl rfl rfl ?_ | refine Raw.sliceNil (T := tt) rfl rfl (by first | rfl | omega | (simp; done)) rfl rfl rfl rfl ?_ | (refine Raw.appendR (T := tt) ?_; (conv => whnf); first | refine Rw.lit rfl ?_ | refine Rw.self (by (try simp only [smT]); omega) ?_ | refine Rw.map (by (try simp only [smT]); omega) ?_) | refine Raw.appendIn (T := tt) rfl rfl rfl rfl rfl rfl rfl rfl rfl rfl (by (try simp only [smT]); omega) (by (try simp only [smT]); omega) ?_ | refine Raw.clear (T := tt) rfl rfl rfl rfl rfl rfl rfl (by (try simp only [smT]); omega) ?_ | refine Slc.mk ⟨_, _, rfl, rfl, (by (try simp only [smT]); omega), (by (try simp only [smT]); omega), ?_⟩ | refine Slc.mk ⟨0, _, rfl, rfl, (by (try simp only [smT]); omega), (by (try simp only [smT]); omega), ?_⟩ | refine Slc.mk ⟨1, _, rfl, rfl, (by (try simp only [smT]); omega), (by (try simp only [smT]); omega), ?_⟩ | refine Slc3.mk ⟨_, _, _, rfl, rfl, rfl, (by (try simp only [smT]); omega), (by (try simp only [smT]); omega), (by (try simp only [smT]); omega)⟩ ?_ | (refine CL.mk (Or.inr (Raw.callI [] [903] rfl rfl rfl rfl rfl rfl rfl (grow_T (a.length + b.length) (by omega)) ?_)); rintro _ _ ⟨rfl, rfl⟩; refine Bk.mk rfl rfl ?_))
    all_goals (conv => whnf)
    refine ⟨⟨Nat, fun i => i ≤ 2, fun i => 2 - i, fun i => ⟨[(6, .d (.ow 903 (match i with | 0 => 0 | 1 => a.length | _ => a.length + b.length))), (25, .d (.u (.sl 1 [[avs a], [avs b]]))), (26, di 2), (27, di i)], [aar 903 (match i with | 0 => [] | 1 => a | _ => a ++ b)]⟩, 0, by omega, ⟨[(903, .k 903)], ⟨by (try dsimp only); (repeat (refine LeT.cons rfl (by first | exact LeS.d (by first | exact LeD.u rfl | exact LeD.p rfl | exact LeD.ow rfl rfl | exact LeD.ow rfl (by simp) | exact LeD.no rfl rfl | exact LeD.nl (by first | rfl | simp) | exact LeD.u (by simp; done) | exact LeD.u (by congr 1; omega) | exact LeD.q rfl | exact LeD.r rfl | exact LeD.r (by simp; done) | exact LeD.re | exact LeD.ows rfl rfl rfl | exact LeD.u (by congr 1; congr 1; simp) | exact LeD.fn (by repeat (first | exact LeN.nil | refine LeN.cons rfl ?_))) | exact LeS.a (by repeat (first | exact LeL.nil | refine LeL.cons (by first | exact LeD.u rfl | exact LeD.p rfl | exact LeD.ow rfl rfl | exact LeD.ow rfl (by simp) | exact LeD.no rfl rfl | exact LeD.nl (by first | rfl | simp) | exact LeD.u (by simp; done) | exact LeD.u (by congr 1; omega) | exact LeD.q rfl | exact LeD.r rfl | exact LeD.r (by simp; done) | exact LeD.re | exact LeD.ows rfl rfl rfl | exact LeD.u (by congr 1; congr 1; simp) | exact LeD.fn (by repeat (first | exact LeN.nil | refine LeN.cons rfl ?_))) ?_))) ?_)); exact LeT.nil, by (try dsimp only); repeat (first | exact LeO.nil | refine LeO.bx rfl rfl (by repeat (first | exact LeL.nil | refine LeL.cons (by first | exact LeD.u rfl | exact LeD.p rfl | exact LeD.ow rfl rfl | exact LeD.ow rfl (by simp) | exact LeD.no rfl rfl | exact LeD.nl (by first | rfl | simp) | exact LeD.u (by simp; done) | exact LeD.u (by congr 1; omega) | exact LeD.q rfl | exact LeD.r rfl | exact LeD.r (by simp; done) | exact LeD.re | exact LeD.ows rfl rfl rfl | exact LeD.u (by congr 1; congr 1; simp) | exact LeD.fn (by repeat (first | exact LeN.nil | refine LeN.cons rfl ?_))) ?_)) ?_ | refine LeO.ar rfl rfl (by first | rfl | simp) ?_ | refine LeO.fm rfl (by first | rfl | simp) ?_ | refine LeO.no rfl rfl ?_)⟩⟩, fun i hi => ?_⟩⟩
    dsimp only at hi ⊢
    have h3 : i = 0 ∨ i = 1 ∨ i = 2 := by omega
    rcases h3 with rfl | rfl | rfl
    · repeat' ((conv => whnf); first | refine Gs.id ?_ | with_reducible refine And.intro ?_ ?_ | with_reducible refine Brn.T rfl ?_ | with_reducible refine Brn.F rfl ?_ | refine Brn.T (by (try simp only [smT]); first | rfl | assumption | omega | (simp only [*]; done) | (simp [*]; done) | fail) ?_ | refine Brn.F (by (try simp only [smT]); first | rfl | assumption | omega | (simp only [*]; done) | (simp [*]; done) | fail) ?_ | (refine Brn.mk (fun hb => ?_) (fun hb => ?_) <;> (try simp only [smT] at hb) <;> (try (exact absurd trivial hb)) <;> (try (exfalso; omega))) | (refine Bnd.mk (fun hm => ?_); (try simp only [smT] at hm)) | refine Rng.mk (by (try simp only [smT]); omega) ?_ | refine Ix.map rfl (by (try simp only [smT]); omega) ?_ | refine Ix.map (m := 0) rfl (by (try simp only [smT]); omega) ?_ | refine Ix.lit (m := 0) rfl rfl ?_ | refine Ixo.mk ⟨_, rfl, (by (try simp only [smT]); omega), ?_⟩ | refine Rw.lit rfl ?_ | refine Rw.self (by (try simp only [smT]); omega) ?_ | refine Rw.map (by (try simp only [smT]); omega) ?_ | refine Len.mk (by first | rfl | (simp; done) | (simp only [smT]; assumption) | (simp only [smT]; omega)) ?_ | refine Eqv.mk (by kernel_rfl) ?_ | refine Apd.mk (by first | rfl | simp) (by first | rfl | simp) (by (try simp only [smT]); first | omega | (simp; omega)) (by unfold maxLen; first | (simp; done) | (simp; omega) | omega) ?_ | refine Raw.capNil (T := tt) rfl rfl rfl rfl ?_ | refine Raw.sliceNil (T := tt) rfl rfl (by first | rfl | omega | (simp; done)) rfl rfl rfl rfl ?_ | (refine Raw.appendR (T := tt) ?_; (conv => whnf); first | refine Rw.lit rfl ?_ | refine Rw.self (by (try simp only [smT]); omega) ?_ | refine Rw.map (by (try simp only [smT]); omega) ?_) | refine Raw.appendIn (T := tt) rfl rfl rfl rfl rfl rfl rfl rfl rfl rfl (by (try simp only [smT]); omega) (by (try simp only [smT]); omega) ?_ | refine Raw.clear (T := tt) rfl rfl rfl rfl rfl rfl rfl (by (try simp only [smT]); omega) ?_ | refine Slc.mk ⟨_, _, rfl, rfl, (by (try simp only [smT]); omega), (by (try simp only [smT]); omega), ?_⟩ | refine Slc.mk ⟨0, _, rfl, rfl, (by (try simp only [smT]); omega), (by (try simp only [smT]); omega), ?_⟩ | refine Slc.mk ⟨1, _, rfl, rfl, (by (try simp only [smT]); omega), (by (try simp only [smT]); omega), ?_⟩ | refine Slc3.mk ⟨_, _, _, rfl, rfl, rfl, (by (try simp only [smT]); omega), (by (try simp only [smT]); omega), (by (try simp only [smT]); omega)⟩ ?_)
      all_goals (conv => whnf)
      · exact ⟨1, by omega, by omega, [(903, .k 33)], ⟨by (try dsimp only); (repeat (refine LeT.cons rfl (by first | exact LeS.d (by first | exact LeD.u rfl | exact LeD.p rfl | exact LeD.ow rfl rfl | exact LeD.ow rfl (by simp) | exact LeD.no rfl rfl | exact LeD.nl (by first | rfl | simp) | exact LeD.u (by simp; done) | exact LeD.u (by congr 1; omega) | exact LeD.q rfl | exact LeD.r rfl | exact LeD.r (by simp; done) | exact LeD.re | exact LeD.ows rfl rfl rfl | exact LeD.u (by congr 1; congr 1; simp) | exact LeD.fn (by repeat (first | exact LeN.nil | refine LeN.cons rfl ?_))) | exact LeS.a (by repeat (first | exact LeL.nil | refine LeL.cons (by first | exact LeD.u rfl | exact LeD.p rfl | exact LeD.ow rfl rfl | exact LeD.ow rfl (by simp) | exact LeD.no rfl rfl | exact LeD.nl (by first | rfl | simp) | exact LeD.u (by simp; done) | exact LeD.u (by congr 1; omega) | exact LeD.q rfl | exact LeD.r rfl | exact LeD.r (by simp; done) | exact LeD.re | exact LeD.ows rfl rfl rfl | exact LeD.u (by congr 1; congr 1; simp) | exact LeD.fn (by repeat (first | exact LeN.nil | refine LeN.cons rfl ?_))) ?_))) ?_)); exact LeT.nil, by (try dsimp only); repeat (first | exact LeO.nil | refine LeO.bx rfl rfl (by repeat (first | exact LeL.nil | refine LeL.cons (by first | exact LeD.u rfl | exact LeD.p rfl | exact LeD.ow rfl rfl | exact LeD.ow rfl (by simp) | exact LeD.no rfl rfl | exact LeD.nl (by first | rfl | simp) | exact LeD.u (by simp; done) | exact LeD.u (by congr 1; omega) | exact LeD.q rfl | exact LeD.r rfl | exact LeD.r (by simp; done) | exact LeD.re | exact LeD.ows rfl rfl rfl | exact LeD.u (by congr 1; congr 1; simp) | exact LeD.fn (by repeat (first | exact LeN.nil | refine LeN.cons rfl ?_))) ?_)) ?_ | refine LeO.ar rfl rfl (by first | rfl | simp) ?_ | refine LeO.fm rfl (by first | rfl | simp) ?_ | refine LeO.no rfl rfl ?_)⟩⟩
    · repeat' ((conv => whnf); first | refine Ix.lit (m := 1) rfl rfl ?_ | refine Gs.id ?_ | with_reducible refine And.intro ?_ ?_ | with_reducible refine Brn.T rfl ?_ | with_reducible refine Brn.F rfl ?_ | refine Brn.T (by (try simp only [smT]); first | rfl | assumption | omega | (simp only [*]; done) | (simp [*]; done) | fail) ?_ | refine Brn.F (by (try simp only [smT]); first | rfl | assumption | omega | (simp only [*]; done) | (simp [*]; done) | fail) ?_ | (refine Brn.mk (fun hb => ?_) (fun hb => ?_) <;> (try simp only [smT] at hb) <;> (try (exact absurd trivial hb)) <;> (try (exfalso; omega))) | (refine Bnd.mk (fun hm => ?_); (try simp only [smT] at hm)) | refine Rng.mk (by (try simp only [smT]); omega) ?_ | refine Ix.map rfl (by (try simp only [smT]); omega) ?_ | refine Ix.map (m := 0) rfl (by (try simp only [smT]); omega) ?_ | refine Ix.lit (m := 0) rfl rfl ?_ | refine Ixo.mk ⟨_, rfl, (by (try simp only [smT]); omega), ?_⟩ | refine Rw.lit rfl ?_ | refine Rw.self (by (try simp only [smT]); omega) ?_ | refine Rw.map (by (try simp only [smT]); omega) ?_ | refine Len.mk (by first | rfl | (simp; done) | (simp only [smT]; assumption) | (simp only [smT]; omega)) ?_ | refine Eqv.mk (by kernel_rfl) ?_ | refine Apd.mk (by first | rfl | simp) (by first | rfl | simp) (by (try simp only [smT]); first | omega | (simp; omega)) (by unfold maxLen; first | (simp; done) | (simp; omega) | omega) ?_ | refine Raw.capNil (T := tt) rfl rfl rfl rfl ?_ | refine Raw.sliceNil (T := tt) rfl rfl (by first | rfl | omega | (simp; done)) rfl rfl rfl rfl ?_ | (refine Raw.appendR (T := tt) ?_; (conv => whnf); first | refine Ix.lit (m := 1) rfl rfl ?_ | refine Rw.lit rfl ?_ | refine Rw.self (by (try simp only [smT]); omega) ?_ | refine Rw.map (by (try simp only [smT]); omega) ?_) | refine Raw.appendIn (T := tt) rfl rfl rfl rfl rfl rfl rfl rfl rfl rfl (by (try simp only [smT]); omega) (by (try simp only [smT]); omega) ?_ | refine Raw.clear (T := tt) rfl rfl rfl rfl rfl rfl rfl (by (try simp only [smT]); omega) ?_ | refine Slc.mk ⟨_, _, rfl, rfl, (by (try simp only [smT]); omega), (by (try simp only [smT]); omega), ?_⟩ | refine Slc.mk ⟨0, _, rfl, rfl, (by (try simp only [smT]); omega), (by (try simp only [smT]); omega), ?_⟩ | refine Slc.mk ⟨1, _, rfl, rfl, (by (try simp only [smT]); omega), (by (try simp only [smT]); omega), ?_⟩ | refine Slc3.mk ⟨_, _, _, rfl, rfl, rfl, (by (try simp only [smT]); omega), (by (try simp only [smT]); omega), (by (try simp only [smT]); omega)⟩ ?_)
      all_goals (conv => whnf)
      · exact ⟨2, by omega, by omega, [(903, .k 33)], ⟨by (try dsimp only); (repeat (refine LeT.cons rfl (by first | exact LeS.d (by first | exact LeD.u rfl | exact LeD.p rfl | exact LeD.ow rfl rfl | exact LeD.ow rfl (by simp) | exact LeD.no rfl rfl | exact LeD.nl (by first | rfl | simp) | exact LeD.u (by simp; done) | exact LeD.u (by congr 1; omega) | exact LeD.q rfl | exact LeD.r rfl | exact LeD.r (by simp; done) | exact LeD.re | exact LeD.ows rfl rfl rfl | exact LeD.u (by congr 1; congr 1; simp) | exact LeD.fn (by repeat (first | exact LeN.nil | refine LeN.cons rfl ?_))) | exact LeS.a (by repeat (first | exact LeL.nil | refine LeL.cons (by first | exact LeD.u rfl | exact LeD.p rfl | exact LeD.ow rfl rfl | exact LeD.ow rfl (by simp) | exact LeD.no rfl rfl | exact LeD.nl (by first | rfl | simp) | exact LeD.u (by simp; done) | exact LeD.u (by congr 1; omega) | exact LeD.q rfl | exact LeD.r rfl | exact LeD.r (by simp; done) | exact LeD.re | exact LeD.ows rfl rfl rfl | exact LeD.u (by congr 1; congr 1; simp) | exact LeD.fn (by repeat (first | exact LeN.nil | refine LeN.cons rfl ?_))) ?_))) ?_)); exact LeT.nil, by (try dsimp only); repeat (first | exact LeO.nil | refine LeO.bx rfl rfl (by repeat (first | exact LeL.nil | refine LeL.cons (by first | exact LeD.u rfl | exact LeD.p rfl | exact LeD.ow rfl rfl | exact LeD.ow rfl (by simp) | exact LeD.no rfl rfl | exact LeD.nl (by first | rfl | simp) | exact LeD.u (by simp; done) | exact LeD.u (by congr 1; omega) | exact LeD.q rfl | exact LeD.r rfl | exact LeD.r (by simp; done) | exact LeD.re | exact LeD.ows rfl rfl rfl | exact LeD.u (by congr 1; congr 1; simp) | exact LeD.fn (by repeat (first | exact LeN.nil | refine LeN.cons rfl ?_))) ?_)) ?_ | refine LeO.ar rfl rfl (by first | rfl | simp) ?_ | refine LeO.fm rfl (by first | rfl | simp) ?_ | refine LeO.no rfl rfl ?_)⟩⟩
    · repeat' ((conv => whnf); first | refine Gs.id ?_ | with_reducible refine And.intro ?_ ?_ | with_reducible refine Brn.T rfl ?_ | with_reducible refine Brn.F rfl ?_ | refine Brn.T (by (try simp only [smT]); first | rfl | assumption | omega | (simp only [*]; done) | (simp [*]; done) | fail) ?_ | refine Brn.F (by (try simp only [smT]); first | rfl | assumption | omega | (simp only [*]; done) | (simp [*]; done) | fail) ?_ | (refine Brn.mk (fun hb => ?_) (fun hb => ?_) <;> (try simp only [smT] at hb) <;> (try (exact absurd trivial hb)) <;> (try (exfalso; omega))) | (refine Bnd.mk (fun hm => ?_); (try simp only [smT] at hm)) | refine Rng.mk (by (try simp only [smT]); omega) ?_ | refine Ix.map rfl (by (try simp only [smT]); omega) ?_ | refine Ix.map (m := 0) rfl (by (try simp only [smT]); omega) ?_ | refine Ix.lit (m := 0) rfl rfl ?_ | refine Ixo.mk ⟨_, rfl, (by (try simp only [smT]); omega), ?_⟩ | refine Rw.lit rfl ?_ | refine Rw.self (by (try simp only [smT]); omega) ?_ | refine Rw.map (by (try simp only [smT]); omega) ?_ | refine Len.mk (by first | rfl | (simp; done) | (simp only [smT]; assumption) | (simp only [smT]; omega)) ?_ | refine Eqv.mk (by kernel_rfl) ?_ | refine Apd.mk (by first | rfl | simp) (by first | rfl | simp) (by (try simp only [smT]); first | omega | (simp; omega)) (by unfold maxLen; first | (simp; done) | (simp; omega) | omega) ?_ | refine Raw.capNil (T := tt) rfl rfl rfl rfl ?_ | refine Raw.sliceNil (T := tt) rfl rfl (by first | rfl | omega | (simp; done)) rfl rfl rfl rfl ?_ | (refine Raw.appendR (T := tt) ?_; (conv => whnf); first | refine Rw.lit rfl ?_ | refine Rw.self (by (try simp only [smT]); omega) ?_ | refine Rw.map (by (try simp only [smT]); omega) ?_) | refine Raw.appendIn (T := tt) rfl rfl rfl rfl rfl rfl rfl rfl rfl rfl (by (try simp only [smT]); omega) (by (try simp only [smT]); omega) ?_ | refine Raw.clear (T := tt) rfl rfl rfl rfl rfl rfl rfl (by (try simp only [smT]); omega) ?_ | refine Slc.mk ⟨_, _, rfl, rfl, (by (try simp only [smT]); omega), (by (try simp only [smT]); omega), ?_⟩ | refine Slc.mk ⟨0, _, rfl, rfl, (by (try simp only [smT]); omega), (by (try simp only [smT]); omega), ?_⟩ | refine Slc.mk ⟨1, _, rfl, rfl, (by (try simp only [smT]); omega), (by (try simp only [smT]); omega), ?_⟩ | refine Slc3.mk ⟨_, _, _, rfl, rfl, rfl, (by (try simp only [smT]); omega), (by (try simp only [smT]); omega), (by (try simp only [smT]); omega)⟩ ?_)
      all_goals (conv => whnf)
      · exact Ret.is (by simp [tupT, SC.up])
def firstBad (j : Int) : List Ac → Int
  | [] => 0
  | a :: l => if checkM a.kind a.n j ≠ 0 then checkM a.kind a.n j else firstBad j l
def checkJobM (j : Jb) (n : Int) : Int := if 30 < j.acts.length ∨ 30 < j.guard.length then 2 else firstBad n (j.acts ++ j.guard)
theorem checkJob_T (j : Jb) (n : Int) (hn : 0 ≤ n) (hn6 : n ≤ 60) : CallsA Try.prog 45 [.a [.u (avs j.acts), .u (avs j.guard)], di n] [] (Is (di (checkJobM j n))) := by
  obtain ⟨acts, guard⟩ := j
  by_cases hl : 30 < acts.length ∨ 30 < guard.length
  · rw [checkJobM, if_pos hl]
    refine callsA_of_vc (T := tt) Try.func45 rfl rfl rfl rfl rfl ?_
    repeat' ((conv => whnf); first | refine Gs.id ?_ | with_reducible refine And.intro ?_ ?_ | with_reducible refine Brn.T rfl ?_ | with_reducible refine Brn.F rfl ?_ | refine Brn.T (by (try simp only [smT]); first | rfl | assumption | omega | (simp only [*]; done) | (simp [*]; done) | fail) ?_ | refine Brn.F (by (try simp only [smT]); first | rfl | assumption | omega | (simp only [*]; done) | (simp [*]; done) | fail) ?_ | (refine Brn.mk (fun hb => ?_) (fun hb => ?_) <;> (try simp only [smT] at hb) <;> (try (exact absurd trivial hb)) <;> (try (exfalso; omega))) | (refine Bnd.mk (fun hm => ?_); (try simp only [smT] at hm)) | refine Rng.mk (by (try simp only [smT]); omega) ?_ | refine Ix.map rfl (by (try simp only [smT]); omega) ?_ | refine Ix.map (m := 0) rfl (by (try simp only [smT]); omega) ?_ | refine Ix.lit (m := 0) rfl rfl ?_ | refine Ixo.mk ⟨_, rfl, (by (try simp only [smT]); omega), ?_⟩ | refine Rw.lit rfl ?_ | refine Rw.self (by (try simp only [smT]); omega) ?_ | refine Rw.map (by (try simp only [smT]); omega) ?_ | refine Len.mk (by first | rfl | (simp; done) | (simp only [smT]; assumption) | (simp only [smT]; omega)) ?_ | refine Eqv.mk (by kernel_rfl) ?_ | refine Apd.mk (by first | rfl | simp) (by first | rfl | simp) (by (try simp only [smT]); first | omega | (simp; omega)) (by unfold maxLen; first | (simp; done) | (simp; omega) | omega) ?_ | refine Raw.capNil (T := tt) rfl rfl rfl rfl ?_ | refine Raw.sliceNil (T := tt) rfl rfl (by first | rfl | omega | (simp; done)) rfl rfl rfl rfl ?_ | (refine Raw.appendR (T := tt) ?_; (conv => whnf); first | refine Rw.lit rfl ?_ | refine Rw.self (by (try simp only [smT]); omega) ?_ | refine Rw.map (by (try simp only [smT]); omega) ?_) | refine Raw.appendIn (T := tt) rfl rfl rfl rfl rfl rfl rfl rfl rfl rfl (by (try simp only [smT]); omega) (by (try simp only [smT]); omega) ?_ | refine Raw.clear (T := tt) rfl rfl rfl rfl rfl rfl rfl (by (try simp only [smT]); omega) ?_ | refine Slc.mk ⟨_, _, rfl, rfl, (by (try simp only [smT]); omega), (by (try simp only [smT]); omega), ?_⟩ | refine Slc.mk ⟨0, _, rfl, rfl, (by (try simp only [smT]); omega), (by (try simp only [smT]); omega), ?_⟩ | refine Slc.mk ⟨1, _, rfl, rfl, (by (try simp only [smT]); omega), (by (try simp only [smT]); omega), ?_⟩ | refine Slc3.mk ⟨_, _, _, rfl, rfl, rfl, (by (try simp only [smT]); omega), (by (try simp only [smT]); omega), (by (try simp only [smT]); omega)⟩ ?_)
    all_goals (conv => whnf)
    all_goals exact Ret.is rfl
  · rw [checkJobM, if_neg hl]
    refine callsA_of_vc (T := tt) Try.func45 rfl rfl rfl rfl rfl ?_
    repeat' ((conv => whnf); first | refine Gs.id ?_ | with_reducible refine And.intro ?_ ?_ | with_reducible refine Brn.T rfl ?_ | with_reducible refine Brn.F rfl ?_ | refine Brn.T (by (try simp only [smT]); first | rfl | assumption | omega | (simp only [*]; done) | (simp [*]; done) | fail) ?_ | refine Brn.F (by (try simp only [smT]); first | rfl | assumption | omega | (simp only [*]; done) | (simp [*]; done) | fail) ?_ | (refine Brn.mk (fun hb => ?_) (fun hb => ?_) <;> (try simp only [smT] at hb) <;> (try (exact absurd trivial hb)) <;> (try (exfalso; omega))) | (refine Bnd.mk (fun hm => ?_); (try simp only [smT] at hm)) | refine Rng.mk (by (try simp only [smT]); omega) ?_ | refine Ix.map rfl (by (try simp only [smT]); omega) ?_ | refine Ix.map (m := 0) rfl (by (try simp only [smT]); omega) ?_ | refine Ix.lit (m := 0) rfl rfl ?_ | refine Ixo.mk ⟨_, rfl, (by (try simp only [smT]); omega), ?_⟩ | refine Rw.lit rfl ?_ | refine Rw.self (by (try simp only [smT]); omega) ?_ | refine Rw.map (by (try simp only [smT]); omega) ?_ | refine Len.mk (by first | rfl | (simp; done) | (simp only [smT]; assumption) | (simp only [smT]; omega)) ?_ | refine Eqv.mk (by kernel_rfl) ?_ | refine Apd.mk (by first | rfl | simp) (by first | rfl | simp) (by (try simp only [smT]); first | omega | (simp; omega)) (by unfold maxLen; first | (simp; done) | (simp; omega) | omega) ?_ | refine Raw.capNil (T := tt) rfl rfl rfl rfl ?_ | refine Raw.sliceNil (T := tt) rfl rfl (by first | rfl | omega | (simp; done)) rfl rfl rfl rfl ?_ | (refine Raw.appendR (T := tt) ?_; (conv => whnf); first | refine Rw.lit rfl ?_ | refine Rw.self (by (try simp only [smT]); omega) ?_ | refine Rw.map (by (try simp only [smT]); omega) ?_) | refine Raw.appendIn (T := tt) rfl rfl rfl rfl rfl rfl rfl rfl rfl rfl (by (try simp only [smT]); omega) (by (try simp only [smT]); omega) ?_ | refine Raw.clear (T := tt) rfl rfl rfl rfl rfl rfl rfl (by (try simp only [smT]); omega) ?_ | refine Slc.mk ⟨_, _, rfl, rfl, (by (try simp only [smT]); omega), (by (try simp only [smT]); omega), ?_⟩ | refine Slc.mk ⟨0, _, rfl, rfl, (by (try simp only [smT]); omega), (by (try simp only [smT]); omega), ?_⟩ | refine Slc.mk ⟨1, _, rfl, rfl, (by (try simp only [smT]); omega), (by (try simp only [smT]); omega), ?_⟩ | refine Slc3.mk ⟨_, _, _, rfl, rfl, rfl, (by (try simp only [smT]); omega), (by (try simp only [smT]); omega), (by (try simp only [smT]); omega)⟩ ?_ | (refine CL.mk (Or.inl ?_); (conv => whnf); first | refine Cl.is (concat_T acts guard (by omega) (by omega)) rfl (by first | exact fun _ => rfl | (intro e; cases e; done) | fail) ?_) | (refine CL.mk (Or.inl ?_); (conv => whnf); refine ClO.mk (Or.inl ?_); (repeat ((conv => whnf); refine Len.mk (by first | rfl | (simp; done) | (simp only [smT]; assumption) | (simp only [smT]; omega)) ?_)); (conv => whnf); first | refine Cl.is (concat_T acts guard (by omega) (by omega)) rfl (by first | exact fun _ => rfl | (intro e; cases e; done) | fail) ?_) | (refine CL.mk (Or.inl ?_); (conv => whnf); refine ClO.mk (Or.inr ?_); (repeat ((conv => whnf); refine Len.mk (by first | rfl | (simp; done) | (simp only [smT]; assumption) | (simp only [smT]; omega)) ?_)); (conv => whnf); first | refine Cl.is (concat_T acts guard (by omega) (by omega)) rfl (by first | exact fun _ => rfl | (intro e; cases e; done) | fail) ?_))
    all_goals (conv => whnf)
    dsimp only
    generalize hL : acts ++ guard = L
    have hlen : L.length ≤ 60 := by rw [← hL]; simp; omega
    refine ⟨⟨Nat, fun i => i ≤ L.length ∧ firstBad n L = firstBad n (L.drop i), fun i => L.length - i, fun i => ⟨[(1, di n), (23, .d (.u (avs L))), (24, di L.length), (25, di i)], []⟩, 0, ⟨by omega, rfl⟩, ⟨[], ⟨by (try dsimp only); (repeat (refine LeT.cons rfl (by first | exact LeS.d (by first | exact LeD.u rfl | exact LeD.p rfl | exact LeD.ow rfl rfl | exact LeD.ow rfl (by simp [hL]) | exact LeD.no rfl rfl | exact LeD.nl (by first | rfl | simp [hL]) | exact LeD.u (by simp [hL]; done) | exact LeD.u (by congr 1; omega) | exact LeD.q rfl | exact LeD.r rfl | exact LeD.r (by simp [hL]; done) | exact LeD.re | exact LeD.ows rfl rfl rfl | exact LeD.u (by congr 1; congr 1; simp) | exact LeD.fn (by repeat (first | exact LeN.nil | refine LeN.cons rfl ?_))) | exact LeS.a (by repeat (first | exact LeL.nil | refine LeL.cons (by first | exact LeD.u rfl | exact LeD.p rfl | exact LeD.ow rfl rfl | exact LeD.ow rfl (by simp [hL]) | exact LeD.no rfl rfl | exact LeD.nl (by first | rfl | simp [hL]) | exact LeD.u (by simp [hL]; done) | exact LeD.u (by congr 1; omega) | exact LeD.q rfl | exact LeD.r rfl | exact LeD.r (by simp [hL]; done) | exact LeD.re | exact LeD.ows rfl rfl rfl | exact LeD.u (by congr 1; congr 1; simp) | exact LeD.fn (by repeat (first | exact LeN.nil | refine LeN.cons rfl ?_))) ?_))) ?_)); exact LeT.nil, by (try dsimp only); repeat (first | exact LeO.nil | refine LeO.bx rfl rfl (by repeat (first | exact LeL.nil | refine LeL.cons (by first | exact LeD.u rfl | exact LeD.p rfl | exact LeD.ow rfl rfl | exact LeD.ow rfl (by simp [hL]) | exact LeD.no rfl rfl | exact LeD.nl (by first | rfl | simp [hL]) | exact LeD.u (by simp [hL]; done) | exact LeD.u (by congr 1; omega) | exact LeD.q rfl | exact LeD.r rfl | exact LeD.r (by simp [hL]; done) | exact LeD.re | exact LeD.ows rfl rfl rfl | exact LeD.u (by congr 1; congr 1; simp) | exact LeD.fn (by repeat (first | exact LeN.nil | refine LeN.cons rfl ?_))) ?_)) ?_ | refine LeO.ar rfl rfl (by first | rfl | simp [hL]) ?_ | refine LeO.fm rfl (by first | rfl | simp [hL]) ?_ | refine LeO.no rfl rfl ?_)⟩⟩, fun i ⟨hi, he⟩ => ?_⟩⟩
    dsimp only
    by_cases h9 : i < L.length
    · rw [he, List.drop_eq_getElem_cons h9, firstBad]
      have hc := check_T (L[i]).kind (L[i]).n n hn hn6
      generalize checkM (L[i]).kind (L[i]).n n = cc at hc ⊢
      repeat' ((conv => whnf); first | refine Gs.id ?_ | with_reducible refine And.intro ?_ ?_ | with_reducible refine Brn.T rfl ?_ | with_reducible refine Brn.F rfl ?_ | refine Brn.T (by (try simp only [smT]); first | rfl | assumption | omega | (simp only [*]; done) | (simp [*]; done) | fail) ?_ | refine Brn.F (by (try simp only [smT]); first | rfl | assumption | omega | (simp only [*]; done) | (simp [*]; done) | fail) ?_ | (refine Brn.mk (fun hb => ?_) (fun hb => ?_) <;> (try simp only [smT] at hb) <;> (try (exact absurd trivial hb)) <;> (try (exfalso; omega))) | (refine Bnd.mk (fun hm => ?_); (try simp only [smT] at hm)) | refine Rng.mk (by (try simp only [smT]); omega) ?_ | refine Ix.map rfl (by (try simp only [smT]); omega) ?_ | refine Ix.map (m := 0) rfl (by (try simp only [smT]); omega) ?_ | refine Ix.lit (m := 0) rfl rfl ?_ | refine Ixo.mk ⟨_, rfl, (by (try simp only [smT]); omega), ?_⟩ | refine Rw.lit rfl ?_ | refine Rw.self (by (try simp only [smT]); omega) ?_ | refine Rw.map (by (try simp only [smT]); omega) ?_ | refine Len.mk (by first | rfl | (simp; done) | (simp only [smT]; assumption) | (simp only [smT]; omega)) ?_ | refine Eqv.mk (by kernel_rfl) ?_ | refine Apd.mk (by first | rfl | simp) (by first | rfl | simp) (by (try simp only [smT]); first | omega | (simp; omega)) (by unfold maxLen; first | (simp; done) | (simp; omega) | omega) ?_ | refine Raw.capNil (T := tt) rfl rfl rfl rfl ?_ | refine Raw.sliceNil (T := tt) rfl rfl (by first | rfl | omega | (simp; done)) rfl rfl rfl rfl ?_ | (refine Raw.appendR (T := tt) ?_; (conv => whnf); first | refine Rw.lit rfl ?_ | refine Rw.self (by (try simp only [smT]); omega) ?_ | refine Rw.map (by (try simp only [smT]); omega) ?_) | refine Raw.appendIn (T := tt) rfl rfl rfl rfl rfl rfl rfl rfl rfl rfl (by (try simp only [smT]); omega) (by (try simp only [smT]); omega) ?_ | refine Raw.clear (T := tt) rfl rfl rfl rfl rfl rfl rfl (by (try simp only [smT]); omega) ?_ | refine Slc.mk ⟨_, _, rfl, rfl, (by (try simp only [smT]); omega), (by (try simp only [smT]); omega), ?_⟩ | refine Slc.mk ⟨0, _, rfl, rfl, (by (try simp only [smT]); omega), (by (try simp only [smT]); omega), ?_⟩ | refine Slc.mk ⟨1, _, rfl, rfl, (by (try simp only [smT]); omega), (by (try simp only [smT]); omega), ?_⟩ | refine Slc3.mk ⟨_, _, _, rfl, rfl, rfl, (by (try simp only [smT]); omega), (by (try simp only [smT]); omega), (by (try simp only [smT]); omega)⟩ ?_ | (refine CL.mk (Or.inl ?_); (conv => whnf); first | refine Cl.is (hc) rfl (by first | exact fun _ => rfl | (intro e; cases e; done) | fail) ?_) | (refine CL.mk (Or.inl ?_); (conv => whnf); refine ClO.mk (Or.inl ?_); (repeat ((conv => whnf); refine Len.mk (by first | rfl | (simp; done) | (simp only [smT]; assumption) | (simp only [smT]; omega)) ?_)); (conv => whnf); first | refine Cl.is (hc) rfl (by first | exact fun _ => rfl | (intro e; cases e; done) | fail) ?_) | (refine CL.mk (Or.inl ?_); (conv => whnf); refine ClO.mk (Or.inr ?_); (repeat ((conv => whnf); refine Len.mk (by first | rfl | (simp; done) | (simp only [smT]; assumption) | (simp only [smT]; omega)) ?_)); (conv => whnf); first | refine Cl.is (hc) rfl (by first | exact fun _ => rfl | (intro e; cases e; done) | fail) ?_))
      all_goals (conv => whnf)
      · rw [if_pos (by assumption)]; exact Ret.is rfl
      · exact ⟨i + 1, ⟨by omega, by rw [if_neg (by simpa using (by assumption))]⟩, by omega, [], ⟨by (try dsimp only); (repeat (refine LeT.cons rfl (by first | exact LeS.d (by first | exact LeD.u rfl | exact LeD.p rfl | exact LeD.ow rfl rfl | exact LeD.ow rfl (by simp) | exact LeD.no rfl rfl | exact LeD.nl (by first | rfl | simp) | exact LeD.u (by simp; done) | exact LeD.u (by congr 1; omega) | exact LeD.q rfl | exact LeD.r rfl | exact LeD.r (by simp; done) | exact LeD.re | exact LeD.ows rfl rfl rfl | exact LeD.u (by congr 1; congr 1; simp) | exact LeD.fn (by repeat (first | exact LeN.nil | refine LeN.cons rfl ?_))) | exact LeS.a (by repeat (first | exact LeL.nil | refine LeL.cons (by first | exact LeD.u rfl | exact LeD.p rfl | exact LeD.ow rfl rfl | exact LeD.ow rfl (by simp) | exact LeD.no rfl rfl | exact LeD.nl (by first | rfl | simp) | exact LeD.u (by simp; done) | exact LeD.u (by congr 1; omega) | exact LeD.q rfl | exact LeD.r rfl | exact LeD.r (by simp; done) | exact LeD.re | exact LeD.ows rfl rfl rfl | exact LeD.u (by congr 1; congr 1; simp) | exact LeD.fn (by repeat (first | exact LeN.nil | refine LeN.cons rfl ?_))) ?_))) ?_)); exact LeT.nil, by (try dsimp only); repeat (first | exact LeO.nil | refine LeO.bx rfl rfl (by repeat (first | exact LeL.nil | refine LeL.cons (by first | exact LeD.u rfl | exact LeD.p rfl | exact LeD.ow rfl rfl | exact LeD.ow rfl (by simp) | exact LeD.no rfl rfl | exact LeD.nl (by first | rfl | simp) | exact LeD.u (by simp; done) | exact LeD.u (by congr 1; omega) | exact LeD.q rfl | exact LeD.r rfl | exact LeD.r (by simp; done) | exact LeD.re | exact LeD.ows rfl rfl rfl | exact LeD.u (by congr 1; congr 1; simp) | exact LeD.fn (by repeat (first | exact LeN.nil | refine LeN.cons rfl ?_))) ?_)) ?_ | refine LeO.ar rfl rfl (by first | rfl | simp) ?_ | refine LeO.fm rfl (by first | rfl | simp) ?_ | refine LeO.no rfl rfl ?_)⟩⟩
    · obtain rfl : i = L.length := by omega
      rw [he, List.drop_length, firstBad]
      repeat' ((conv => whnf); first | refine Gs.id ?_ | with_reducible refine And.intro ?_ ?_ | with_reducible refine Brn.T rfl ?_ | with_reducible refine Brn.F rfl ?_ | refine Brn.T (by (try simp only [smT]); first | rfl | assumption | omega | (simp only [*]; done) | (simp [*]; done) | fail) ?_ | refine Brn.F (by (try simp only [smT]); first | rfl | assumption | omega | (simp only [*]; done) | (simp [*]; done) | fail) ?_ | (refine Brn.mk (fun hb => ?_) (fun hb => ?_) <;> (try simp only [smT] at hb) <;> (try (exact absurd trivial hb)) <;> (try (exfalso; omega))) | (refine Bnd.mk (fun hm => ?_); (try simp only [smT] at hm)) | refine Rng.mk (by (try simp only [smT]); omega) ?_ | refine Ix.map rfl (by (try simp only [smT]); omega) ?_ | refine Ix.map (m := 0) rfl (by (try simp only [smT]); omega) ?_ | refine Ix.lit (m := 0) rfl rfl ?_ | refine Ixo.mk ⟨_, rfl, (by (try simp only [smT]); omega), ?_⟩ | refine Rw.lit rfl ?_ | refine Rw.self (by (try simp only [smT]); omega) ?_ | refine Rw.map (by (try simp only [smT]); omega) ?_ | refine Len.mk (by first | rfl | (simp; done) | (simp only [smT]; assumption) | (simp only [smT]; omega)) ?_ | refine Eqv.mk (by kernel_rfl) ?_ | refine Apd.mk (by first | rfl | simp) (by first | rfl | simp) (by (try simp only [smT]); first | omega | (simp; omega)) (by unfold maxLen; first | (simp; done) | (simp; omega) | omega) ?_ | refine Raw.capNil (T := tt) rfl rfl rfl rfl ?_ | refine Raw.sliceNil (T := tt) rfl rfl (by first | rfl | omega | (simp; done)) rfl rfl rfl rfl ?_ | (refine Raw.appendR (T := tt) ?_; (conv => whnf); first | refine Rw.lit rfl ?_ | refine Rw.self (by (try simp only [smT]); omega) ?_ | refine Rw.map (by (try simp only [smT]); omega) ?_) | refine Raw.appendIn (T := tt) rfl rfl rfl rfl rfl rfl rfl rfl rfl rfl (by (try simp only [smT]); omega) (by (try simp only [smT]); omega) ?_ | refine Raw.clear (T := tt) rfl rfl rfl rfl rfl rfl rfl (by (try simp only [smT]); omega) ?_ | refine Slc.mk ⟨_, _, rfl, rfl, (by (try simp only [smT]); omega), (by (try simp only [smT]); omega), ?_⟩ | refine Slc.mk ⟨0, _, rfl, rfl, (by (try simp only [smT]); omega), (by (try simp only [smT]); omega), ?_⟩ | refine Slc.mk ⟨1, _, rfl, rfl, (by (try simp only [smT]); omega), (by (try simp only [smT]); omega), ?_⟩ | refine Slc3.mk ⟨_, _, _, rfl, rfl, rfl, (by (try simp only [smT]); omega), (by (try simp only [smT]); omega), (by (try simp only [smT]); omega)⟩ ?_)
      all_goals (conv => whnf)
      · exact Ret.is rfl
end Go.Proofs.Ytgiebofmfkacgaa
namespace Go.Proofs.Ytgiebofmfkacgaa
open Go.RowKit

def jobsM (n : Int) : List Jb → Nat → Int × Int
  | [], _ => (0, 0)
  | j :: l, i => if checkJobM j n ≠ 0 then (checkJobM j n, (i : Int)) else jobsM n l (i + 1)
def simFault (jobs : List Jb) : Int × Int := if jobs.length = 0 then (10, -1) else if 60 < jobs.length then (2, -1) else jobsM jobs.length jobs 0
def simF (jobs : List Jb) : Nat → Sm → List Rc
  | 0, s => s.log
  | f + 1, s => if (nextM s.ck).2.2.1 = 0 then simF jobs f (proceedM jobs (s.put (nextM s.ck).1) (nextM s.ck).2.1.toNat) else s.log
def init (jobs : List Jb) : Sm := ⟨0, 0, [0], [], [⟨0, false, false, false, false, (jobs.getD 0 ⟨[], []⟩).acts, []⟩], []⟩
def simM (jobs : List Jb) : List Rc := simF jobs 7202 (init jobs)
theorem checkM_ok {jobs : List Jb} {a : Ac} (h : checkM a.kind a.n jobs.length = 0) : okB jobs a := by
  obtain ⟨k, n⟩ := a
  dsimp only at h
  simp only [checkM, rangeM] at h
  refine ⟨?_, ?_, fun e => ?_, fun e => ?_⟩
  · dsimp only
    repeat' split at h
    all_goals first | omega | (rename_i q; rcases q with q | q <;> omega)
  · dsimp only
    repeat' split at h
    all_goals omega
  · dsimp only at e ⊢
    subst e
    simp only [show ¬ (2 : Int) = 1 by decide, if_false, if_true] at h
    split at h <;> omega
  · dsimp only at e ⊢
    subst e
    simp only [show ¬ (3 : Int) = 1 by decide, show ¬ (3 : Int) = 2 by decide, if_false, if_true] at h
    split at h <;> omega
theorem firstBad_ok {j : Int} : ∀ {l : List Ac}, firstBad j l = 0 → ∀ a ∈ l, checkM a.kind a.n j = 0
  | [], _, a, ha => by simp at ha
  | b :: l, h, a, ha => by
    rw [firstBad] at h
    split at h
    · rename_i q; exact absurd h q
    · rename_i q
      rcases List.mem_cons.1 ha with rfl | ha
      · simpa using q
      · exact firstBad_ok h a ha
theorem jobsM_ok {n : Int} : ∀ {l : List Jb} {i : Nat}, (jobsM n l i).1 = 0 → ∀ j ∈ l, checkJobM j n = 0
  | [], _, _, j, hj => by simp at hj
  | b :: l, i, h, j, hj => by
    rw [jobsM] at h
    split at h
    · rename_i q; exact absurd h q
    · rename_i q
      rcases List.mem_cons.1 hj with rfl | hj
      · simpa using q
      · exact jobsM_ok h j hj
theorem checkJob_ok {jobs : List Jb} {j : Jb} (h : checkJobM j jobs.length = 0) : (j.acts.length ≤ 30 ∧ ∀ a ∈ j.acts, okB jobs a) ∧ (j.guard.length ≤ 30 ∧ ∀ a ∈ j.guard, okB jobs a) := by
  rw [checkJobM] at h
  split at h
  · cases h
  · rename_i q
    have := firstBad_ok h
    exact ⟨⟨by omega, fun a ha => checkM_ok (this a (by simp [ha]))⟩, ⟨by omega, fun a ha => checkM_ok (this a (by simp [ha]))⟩⟩
theorem simFault_ok {jobs : List Jb} (h : (simFault jobs).1 = 0) : Jok jobs := by
  rw [simFault] at h
  split at h
  · cases h
  split at h
  · cases h
  · have := jobsM_ok h
    exact ⟨by omega, by omega, fun j hj => (checkJob_ok (this _ (List.getElem_mem hj))).1, fun j hj => (checkJob_ok (this _ (List.getElem_mem hj))).2⟩
theorem init_good {jobs : List Jb} (hJ : Jok jobs) : Good jobs (init jobs) [] 7201 0 := by
  have hq : jobs.getD 0 ⟨[], []⟩ = jobs[0]'hJ.ne := by simp [List.getD, hJ.ne]
  obtain ⟨k1, k2⟩ := hJ.acts 0 hJ.ne
  unfold init
  rw [hq]
  refine ⟨(valid_iff _).1 (show (validate ⟨0, 0, [0], []⟩).1 = 0 by decide +kernel), by simp, ⟨by simp [pl, wts], fun x hx => ?_⟩, fun t ht => ?_, by simp, ?_, by simp, by simp, by simp⟩
  · simp [pl, wts] at hx
    subst hx
    exact ⟨0, _, rfl, rfl, rfl⟩
  · simp at ht
    subst ht
    exact ⟨⟨0, rfl, hJ.ne⟩, k1, k2⟩
  · simp [pot, work, wk, pl, wts]; omega
end Go.Proofs.Ytgiebofmfkacgaa
namespace Go.Proofs.Ytgiebofmfkacgaa
open Go.RowKit

theorem jobsM_step (n : Int) (jobs : List Jb) (i : Nat) (h : i < jobs.length) : jobsM n (jobs.drop i) i = if checkJobM jobs[i] n ≠ 0 then (checkJobM jobs[i] n, (i : Int)) else jobsM n (jobs.drop (i + 1)) (i + 1) := by
  rw [List.drop_eq_getElem_cons h, jobsM]
abbrev smOb0 : List (Nat × Ob) := [(1, 80), (2, 104)].map fun p : Nat × TypeId => (p.1, Ob.fm p.2 [])
theorem jobs0 {jobs : List Jb} (h : (simFault jobs).1 = 0) : jobsM jobs.length jobs 0 = (0, 0) := by
  have hJ := simFault_ok h
  have h1 := hJ.ne
  have h2 := hJ.le
  rw [simFault, if_neg (by omega), if_neg (by omega)] at h
  have : ∀ (l : List Jb) (i : Nat), (jobsM jobs.length l i).1 = 0 → jobsM jobs.length l i = (0, 0) := by
    intro l
    induction l with
    | nil => intro i _; rfl
    | cons j l ih =>
      intro i h
      rw [jobsM] at h ⊢
      split at h
      · rename_i q; exact absurd h q
      · rename_i q; rw [if_neg q]; exact ih _ h
  exact this _ _ h
set_option maxHeartbeats 2000000 in
theorem simulate_ok0 (jobs : List Jb) (h : (simFault jobs).1 = 0) : CallsA Try.prog 28 [.d (.u (jvs jobs))] smOb0 (Is (.t [.d (.u (.sl 4 ((simM jobs).map Rc.v))), .a (fd (0, 0))])) := by
  have hJ := simFault_ok h
  have hj0 := jobs0 h
  have hne := hJ.ne
  have hle := hJ.le
  refine callsA_of_vc (T := tt) Try.func28 rfl rfl rfl rfl rfl ?_
  repeat' ((conv => whnf); first | refine Gs.id ?_ | with_reducible refine And.intro ?_ ?_ | with_reducible refine Brn.T rfl ?_ | with_reducible refine Brn.F rfl ?_ | refine Brn.T (by (try simp only [smT]); first | rfl | assumption | omega | (simp only [*]; done) | (simp [*]; done) | fail) ?_ | refine Brn.F (by (try simp only [smT]); first | rfl | assumption | omega | (simp only [*]; done) | (simp [*]; done) | fail) ?_ | (refine Brn.mk (fun hb => ?_) (fun hb => ?_) <;> (try simp only [smT] at hb) <;> (try (exact absurd trivial hb)) <;> (try (exfalso; omega))) | (refine Bnd.mk (fun hm => ?_); (try simp only [smT] at hm)) | refine Rng.mk (by (try simp only [smT]); omega) ?_ | refine Ix.map rfl (by (try simp only [smT]); omega) ?_ | refine Ix.map (m := 0) rfl (by (try simp only [smT]); omega) ?_ | refine Ix.lit (m := 0) rfl rfl ?_ | refine Ixo.mk ⟨_, rfl, (by (try simp only [smT]); omega), ?_⟩ | refine Rw.lit rfl ?_ | refine Rw.self (by (try simp only [smT]); omega) ?_ | refine Rw.map (by (try simp only [smT]); omega) ?_ | refine Len.mk (by first | rfl | (simp; done) | (simp only [smT]; assumption) | (simp only [smT]; omega)) ?_ | refine Eqv.mk (by kernel_rfl) ?_ | refine Apd.mk (by first | rfl | simp) (by first | rfl | simp) (by (try simp only [smT]); first | omega | (simp; omega)) (by unfold maxLen; first | (simp; done) | (simp; omega) | omega) ?_ | refine Raw.capNil (T := tt) rfl rfl rfl rfl ?_ | refine Raw.sliceNil (T := tt) rfl rfl (by first | rfl | omega | (simp; done)) rfl rfl rfl rfl ?_ | (refine Raw.appendR (T := tt) ?_; (conv => whnf); first | refine Rw.lit rfl ?_ | refine Rw.self (by (try simp only [smT]); omega) ?_ | refine Rw.map (by (try simp only [smT]); omega) ?_) | refine Raw.appendIn (T := tt) rfl rfl rfl rfl rfl rfl rfl rfl rfl rfl (by (try simp only [smT]); omega) (by (try simp only [smT]); omega) ?_ | refine Raw.clear (T := tt) rfl rfl rfl rfl rfl rfl rfl (by (try simp only [smT]); omega) ?_ | refine Slc.mk ⟨_, _, rfl, rfl, (by (try simp only [smT]); omega), (by (try simp only [smT]); omega), ?_⟩ | refine Slc.mk ⟨0, _, rfl, rfl, (by (try simp only [smT]); omega), (by (try simp only [smT]); omega), ?_⟩ | refine Slc.mk ⟨1, _, rfl, rfl, (by (try simp only [smT]); omega), (by (try simp only [smT]); omega), ?_⟩ | refine Slc3.mk ⟨_, _, _, rfl, rfl, rfl, (by (try simp only [smT]); omega), (by (try simp only [smT]); omega), (by (try simp only [smT]); omega)⟩ ?_)
  all_goals (conv => whnf)
  refine ⟨⟨Nat, fun i => i ≤ jobs.length ∧ jobsM jobs.length (jobs.drop i) i = (0, 0), fun i => jobs.length - i, fun i => ⟨[(0, .d (.u (jvs jobs))), (3, .d (.p 3 0)), (21, .d (.u (jvs jobs))), (22, di jobs.length), (23, di i)], [(3, .bx 27 [.u (.int .i64 0), .u (.int .i64 0)]), (1, .fm 80 []), (2, .fm 104 [])]⟩, 0, ⟨by omega, hj0⟩, ⟨[(3, .k 3), (1, .k 1), (2, .k 2)], ⟨by (try dsimp only); (repeat (refine LeT.cons rfl (by first | exact LeS.d (by first | exact LeD.u rfl | exact LeD.p rfl | exact LeD.ow rfl rfl | exact LeD.ow rfl (by simp) | exact LeD.no rfl rfl | exact LeD.nl (by first | rfl | simp) | exact LeD.u (by simp; done) | exact LeD.u (by congr 1; omega) | exact LeD.q rfl | exact LeD.r rfl | exact LeD.r (by simp; done) | exact LeD.re | exact LeD.ows rfl rfl rfl | exact LeD.u (by congr 1; congr 1; simp) | exact LeD.fn (by repeat (first | exact LeN.nil | refine LeN.cons rfl ?_))) | exact LeS.a (by repeat (first | exact LeL.nil | refine LeL.cons (by first | exact LeD.u rfl | exact LeD.p rfl | exact LeD.ow rfl rfl | exact LeD.ow rfl (by simp) | exact LeD.no rfl rfl | exact LeD.nl (by first | rfl | simp) | exact LeD.u (by simp; done) | exact LeD.u (by congr 1; omega) | exact LeD.q rfl | exact LeD.r rfl | exact LeD.r (by simp; done) | exact LeD.re | exact LeD.ows rfl rfl rfl | exact LeD.u (by congr 1; congr 1; simp) | exact LeD.fn (by repeat (first | exact LeN.nil | refine LeN.cons rfl ?_))) ?_))) ?_)); exact LeT.nil, by (try dsimp only); repeat (first | exact LeO.nil | refine LeO.bx rfl rfl (by repeat (first | exact LeL.nil | refine LeL.cons (by first | exact LeD.u rfl | exact LeD.p rfl | exact LeD.ow rfl rfl | exact LeD.ow rfl (by simp) | exact LeD.no rfl rfl | exact LeD.nl (by first | rfl | simp) | exact LeD.u (by simp; done) | exact LeD.u (by congr 1; omega) | exact LeD.q rfl | exact LeD.r rfl | exact LeD.r (by simp; done) | exact LeD.re | exact LeD.ows rfl rfl rfl | exact LeD.u (by congr 1; congr 1; simp) | exact LeD.fn (by repeat (first | exact LeN.nil | refine LeN.cons rfl ?_))) ?_)) ?_ | refine LeO.ar rfl rfl (by first | rfl | simp) ?_ | refine LeO.fm rfl (by first | rfl | simp) ?_ | refine LeO.no rfl rfl ?_)⟩⟩, fun i ⟨hi, he⟩ => ?_⟩⟩
  dsimp only
  by_cases h9 : i < jobs.length
  · rw [jobsM_step _ _ _ h9] at he
    have hc := checkJob_T jobs[i] jobs.length (by omega) (by omega)
    generalize checkJobM jobs[i] jobs.length = cc at hc he
    have hc' : ∀ m : Nat, m = jobs.length → CallsA Try.prog 45 [.a [.u (avs (jobs[i]).acts), .u (avs (jobs[i]).guard)], di m] [] (Is (di cc)) := fun m hm => by rw [hm]; exact hc
    have hcc : cc = 0 := by
      by_cases q : cc = 0
      · exact q
      · rw [if_pos q] at he; injection he
    subst hcc
    rw [if_neg (by simp)] at he
    repeat' ((conv => whnf); first | refine Gs.id ?_ | with_reducible refine And.intro ?_ ?_ | with_reducible refine Brn.T rfl ?_ | with_reducible refine Brn.F rfl ?_ | refine Brn.T (by (try simp only [smT]); first | rfl | assumption | omega | (simp only [*]; done) | (simp [*]; done) | fail) ?_ | refine Brn.F (by (try simp only [smT]); first | rfl | assumption | omega | (simp only [*]; done) | (simp [*]; done) | fail) ?_ | (refine Brn.mk (fun hb => ?_) (fun hb => ?_) <;> (try simp only [smT] at hb) <;> (try (exact absurd trivial hb)) <;> (try (exfalso; omega))) | (refine Bnd.mk (fun hm => ?_); (try simp only [smT] at hm)) | refine Rng.mk (by (try simp only [smT]); omega) ?_ | refine Ix.map rfl (by (try simp only [smT]); omega) ?_ | refine Ix.map (m := 0) rfl (by (try simp only [smT]); omega) ?_ | refine Ix.lit (m := 0) rfl rfl ?_ | refine Ixo.mk ⟨_, rfl, (by (try simp only [smT]); omega), ?_⟩ | refine Rw.lit rfl ?_ | refine Rw.self (by (try simp only [smT]); omega) ?_ | refine Rw.map (by (try simp only [smT]); omega) ?_ | refine Len.mk (by first | rfl | (simp; done) | (simp only [smT]; assumption) | (simp only [smT]; omega)) ?_ | refine Eqv.mk (by kernel_rfl) ?_ | refine Apd.mk (by first | rfl | simp) (by first | rfl | simp) (by (try simp only [smT]); first | omega | (simp; omega)) (by unfold maxLen; first | (simp; done) | (simp; omega) | omega) ?_ | refine Raw.capNil (T := tt) rfl rfl rfl rfl ?_ | refine Raw.sliceNil (T := tt) rfl rfl (by first | rfl | omega | (simp; done)) rfl rfl rfl rfl ?_ | (refine Raw.appendR (T := tt) ?_; (conv => whnf); first | refine Rw.lit rfl ?_ | refine Rw.self (by (try simp only [smT]); omega) ?_ | refine Rw.map (by (try simp only [smT]); omega) ?_) | refine Raw.appendIn (T := tt) rfl rfl rfl rfl rfl rfl rfl rfl rfl rfl (by (try simp only [smT]); omega) (by (try simp only [smT]); omega) ?_ | refine Raw.clear (T := tt) rfl rfl rfl rfl rfl rfl rfl (by (try simp only [smT]); omega) ?_ | refine Slc.mk ⟨_, _, rfl, rfl, (by (try simp only [smT]); omega), (by (try simp only [smT]); omega), ?_⟩ | refine Slc.mk ⟨0, _, rfl, rfl, (by (try simp only [smT]); omega), (by (try simp only [smT]); omega), ?_⟩ | refine Slc.mk ⟨1, _, rfl, rfl, (by (try simp only [smT]); omega), (by (try simp only [smT]); omega), ?_⟩ | refine Slc3.mk ⟨_, _, _, rfl, rfl, rfl, (by (try simp only [smT]); omega), (by (try simp only [smT]); omega), (by (try simp only [smT]); omega)⟩ ?_ | (refine CL.mk (Or.inl ?_); (conv => whnf); first | refine Cl.is (hc' _ (by simp)) rfl (by first | exact fun _ => rfl | (intro e; cases e; done) | fail) ?_) | (refine CL.mk (Or.inl ?_); (conv => whnf); refine ClO.mk (Or.inl ?_); (repeat ((conv => whnf); refine Len.mk (by first | rfl | (simp; done) | (simp only [smT]; assumption) | (simp only [smT]; omega)) ?_)); (conv => whnf); first | refine Cl.is (hc' _ (by simp)) rfl (by first | exact fun _ => rfl | (intro e; cases e; done) | fail) ?_) | (refine CL.mk (Or.inl ?_); (conv => whnf); refine ClO.mk (Or.inr ?_); (repeat ((conv => whnf); refine Len.mk (by first | rfl | (simp; done) | (simp only [smT]; assumption) | (simp only [smT]; omega)) ?_)); (conv => whnf); first | refine Cl.is (hc' _ (by simp)) rfl (by first | exact fun _ => rfl | (intro e; cases e; done) | fail) ?_))
    all_goals (conv => whnf)
    · exact ⟨i + 1, ⟨by omega, he⟩, by omega, [(3, .k 3), (1, .k 1), (2, .k 2)], ⟨by (try dsimp only); (repeat (refine LeT.cons rfl (by first | exact LeS.d (by first | exact LeD.u rfl | exact LeD.p rfl | exact LeD.ow rfl rfl | exact LeD.ow rfl (by simp) | exact LeD.no rfl rfl | exact LeD.nl (by first | rfl | simp) | exact LeD.u (by simp; done) | exact LeD.u (by congr 1; omega) | exact LeD.q rfl | exact LeD.r rfl | exact LeD.r (by simp; done) | exact LeD.re | exact LeD.ows rfl rfl rfl | exact LeD.u (by congr 1; congr 1; simp) | exact LeD.fn (by repeat (first | exact LeN.nil | refine LeN.cons rfl ?_))) | exact LeS.a (by repeat (first | exact LeL.nil | refine LeL.cons (by first | exact LeD.u rfl | exact LeD.p rfl | exact LeD.ow rfl rfl | exact LeD.ow rfl (by simp) | exact LeD.no rfl rfl | exact LeD.nl (by first | rfl | simp) | exact LeD.u (by simp; done) | exact LeD.u (by congr 1; omega) | exact LeD.q rfl | exact LeD.r rfl | exact LeD.r (by simp; done) | exact LeD.re | exact LeD.ows rfl rfl rfl | exact LeD.u (by congr 1; congr 1; simp) | exact LeD.fn (by repeat (first | exact LeN.nil | refine LeN.cons rfl ?_))) ?_))) ?_)); exact LeT.nil, by (try dsimp only); repeat (first | exact LeO.nil | refine LeO.bx rfl rfl (by repeat (first | exact LeL.nil | refine LeL.cons (by first | exact LeD.u rfl | exact LeD.p rfl | exact LeD.ow rfl rfl | exact LeD.ow rfl (by simp) | exact LeD.no rfl rfl | exact LeD.nl (by first | rfl | simp) | exact LeD.u (by simp; done) | exact LeD.u (by congr 1; omega) | exact LeD.q rfl | exact LeD.r rfl | exact LeD.r (by simp; done) | exact LeD.re | exact LeD.ows rfl rfl rfl | exact LeD.u (by congr 1; congr 1; simp) | exact LeD.fn (by repeat (first | exact LeN.nil | refine LeN.cons rfl ?_))) ?_)) ?_ | refine LeO.ar rfl rfl (by first | rfl | simp) ?_ | refine LeO.fm rfl (by first | rfl | simp) ?_ | refine LeO.no rfl rfl ?_)⟩⟩
  · obtain rfl : i = jobs.length := by omega
    have hsp : spawnM jobs ⟨0, 0, [], [], [], []⟩ 0 = init jobs := by
      have : readyM ⟨0, 0, [], []⟩ 0 = (⟨0, 0, [0], []⟩, (0, 0)) := by decide +kernel
      simp [spawnM, init, Sm.ck, this]
    have hg := init_good hJ
    repeat' ((conv => whnf); first | refine Gs.go (i := 13) (Ghost.nl (NlO.keep (NlO.fm (NlRs.cons (NlEs.cons .refl (NlEs.cons .refl (NlEs.cons .refl (NlEs.cons (.v (.nl (sz := 1) (rs := []) rfl)) (NlEs.cons (.v (.nl (sz := 3) (rs := []) rfl)) (NlEs.cons .refl (NlEs.cons .refl .nil))))))) .nil) (.keep .nil)))) ?_ | refine Drw.ghost (i := 13) (Ghost.nl (NlO.keep (NlO.fm (NlRs.cons (NlEs.cons .refl (NlEs.cons .refl (NlEs.cons .refl (NlEs.cons (.v (.nl (sz := 1) (rs := []) rfl)) (NlEs.cons (.v (.nl (sz := 3) (rs := []) rfl)) (NlEs.cons .refl (NlEs.cons .refl .nil))))))) .nil) (.keep .nil)))) ?_ | refine Gs.id ?_ | with_reducible refine And.intro ?_ ?_ | with_reducible refine Brn.T rfl ?_ | with_reducible refine Brn.F rfl ?_ | refine Brn.T (by (try simp only [smT]); first | rfl | assumption | omega | (simp only [*]; done) | (simp [*]; done) | fail) ?_ | refine Brn.F (by (try simp only [smT]); first | rfl | assumption | omega | (simp only [*]; done) | (simp [*]; done) | fail) ?_ | (refine Brn.mk (fun hb => ?_) (fun hb => ?_) <;> (try simp only [smT] at hb) <;> (try (exact absurd trivial hb)) <;> (try (exfalso; omega))) | (refine Bnd.mk (fun hm => ?_); (try simp only [smT] at hm)) | refine Rng.mk (by (try simp only [smT]); omega) ?_ | refine Ix.map rfl (by (try simp only [smT]); omega) ?_ | refine Ix.map (m := 0) rfl (by (try simp only [smT]); omega) ?_ | refine Ix.lit (m := 0) rfl rfl ?_ | refine Ixo.mk ⟨_, rfl, (by (try simp only [smT]); omega), ?_⟩ | refine Rw.lit rfl ?_ | refine Rw.self (by (try simp only [smT]); omega) ?_ | refine Rw.map (by (try simp only [smT]); omega) ?_ | refine Len.mk (by first | rfl | (simp; done) | (simp only [smT]; assumption) | (simp only [smT]; omega)) ?_ | refine Eqv.mk (by kernel_rfl) ?_ | refine Apd.mk (by first | rfl | simp) (by first | rfl | simp) (by (try simp only [smT]); first | omega | (simp; omega)) (by unfold maxLen; first | (simp; done) | (simp; omega) | omega) ?_ | refine Raw.capNil (T := tt) rfl rfl rfl rfl ?_ | refine Raw.sliceNil (T := tt) rfl rfl (by first | rfl | omega | (simp; done)) rfl rfl rfl rfl ?_ | (refine Raw.appendR (T := tt) ?_; (conv => whnf); first | refine Gs.go (i := 13) (Ghost.nl (NlO.keep (NlO.fm (NlRs.cons (NlEs.cons .refl (NlEs.cons .refl (NlEs.cons .refl (NlEs.cons (.v (.nl (sz := 1) (rs := []) rfl)) (NlEs.cons (.v (.nl (sz := 3) (rs := []) rfl)) (NlEs.cons .refl (NlEs.cons .refl .nil))))))) .nil) (.keep .nil)))) ?_ | refine Drw.ghost (i := 13) (Ghost.nl (NlO.keep (NlO.fm (NlRs.cons (NlEs.cons .refl (NlEs.cons .refl (NlEs.cons .refl (NlEs.cons (.v (.nl (sz := 1) (rs := []) rfl)) (NlEs.cons (.v (.nl (sz := 3) (rs := []) rfl)) (NlEs.cons .refl (NlEs.cons .refl .nil))))))) .nil) (.keep .nil)))) ?_ | refine Rw.lit rfl ?_ | refine Rw.self (by (try simp only [smT]); omega) ?_ | refine Rw.map (by (try simp only [smT]); omega) ?_) | refine Raw.appendIn (T := tt) rfl rfl rfl rfl rfl rfl rfl rfl rfl rfl (by (try simp only [smT]); omega) (by (try simp only [smT]); omega) ?_ | refine Raw.clear (T := tt) rfl rfl rfl rfl rfl rfl rfl (by (try simp only [smT]); omega) ?_ | refine Slc.mk ⟨_, _, rfl, rfl, (by (try simp only [smT]); omega), (by (try simp only [smT]); omega), ?_⟩ | refine Slc.mk ⟨0, _, rfl, rfl, (by (try simp only [smT]); omega), (by (try simp only [smT]); omega), ?_⟩ | refine Slc.mk ⟨1, _, rfl, rfl, (by (try simp only [smT]); omega), (by (try simp only [smT]); omega), ?_⟩ | refine Slc3.mk ⟨_, _, _, rfl, rfl, rfl, (by (try simp only [smT]); omega), (by (try simp only [smT]); omega), (by (try simp only [smT]); omega)⟩ ?_ | (refine CL.mk (Or.inr (Raw.callI [1,2] [1,2] rfl rfl rfl rfl rfl rfl rfl (spawn_T' jobs 0 0 [] [] [] [] 0 hne (by simp) ⟨by simp, by simp⟩ _ _ _ _ _ hsp _ _ rfl rfl) ?_)); rintro _ _ ⟨rfl, rfl⟩; refine Bk.mk rfl rfl ?_) | refine Spc.mk ⟨[(5,(102,1)), (6,(55,4))], ?_⟩)
    all_goals (conv => whnf)
    refine ⟨⟨Nat × Sm, fun q => (∃ M, M < q.1 ∧ Good jobs q.2 [] M 0) ∧ simF jobs q.1 q.2 = simM jobs, fun q => q.1, fun q => ⟨[(3, .d (.p 3 0)), (7, smP)], (3, .bx 27 [.u (.int .i64 0), .u (.int .i64 0)]) :: smOb jobs q.2.now q.2.ser q.2.rs q.2.ts q.2.tasks q.2.log⟩, (7202, init jobs), ⟨⟨7201, by omega, hg⟩, rfl⟩, ⟨[(3, .k 3), (1, .k 1), (2, .k 2)], ⟨by (try dsimp only); (repeat (refine LeT.cons rfl (by first | exact LeS.d (by first | exact LeD.u rfl | exact LeD.p rfl | exact LeD.ow rfl rfl | exact LeD.ow rfl (by simp) | exact LeD.no rfl rfl | exact LeD.nl (by first | rfl | simp) | exact LeD.u (by simp; done) | exact LeD.u (by congr 1; omega) | exact LeD.q rfl | exact LeD.r rfl | exact LeD.r (by simp; done) | exact LeD.re | exact LeD.ows rfl rfl rfl | exact LeD.u (by congr 1; congr 1; simp) | exact LeD.fn (by repeat (first | exact LeN.nil | refine LeN.cons rfl ?_))) | exact LeS.a (by repeat (first | exact LeL.nil | refine LeL.cons (by first | exact LeD.u rfl | exact LeD.p rfl | exact LeD.ow rfl rfl | exact LeD.ow rfl (by simp) | exact LeD.no rfl rfl | exact LeD.nl (by first | rfl | simp) | exact LeD.u (by simp; done) | exact LeD.u (by congr 1; omega) | exact LeD.q rfl | exact LeD.r rfl | exact LeD.r (by simp; done) | exact LeD.re | exact LeD.ows rfl rfl rfl | exact LeD.u (by congr 1; congr 1; simp) | exact LeD.fn (by repeat (first | exact LeN.nil | refine LeN.cons rfl ?_))) ?_))) ?_)); exact LeT.nil, by (try dsimp only); repeat (first | exact LeO.nil | refine LeO.bx rfl rfl (by repeat (first | exact LeL.nil | refine LeL.cons (by first | exact LeD.u rfl | exact LeD.p rfl | exact LeD.ow rfl rfl | exact LeD.ow rfl (by simp) | exact LeD.no rfl rfl | exact LeD.nl (by first | rfl | simp) | exact LeD.u (by simp; done) | exact LeD.u (by congr 1; omega) | exact LeD.q rfl | exact LeD.r rfl | exact LeD.r (by simp; done) | exact LeD.re | exact LeD.ows rfl rfl rfl | exact LeD.u (by congr 1; congr 1; simp) | exact LeD.fn (by repeat (first | exact LeN.nil | refine LeN.cons rfl ?_))) ?_)) ?_ | refine LeO.ar rfl rfl (by first | rfl | simp) ?_ | refine LeO.fm rfl (by first | rfl | simp) ?_ | refine LeO.no rfl rfl ?_)⟩⟩, fun ⟨f, s⟩ ⟨⟨M, hM, g⟩, hL⟩ => ?_⟩⟩
    dsimp only at hM g hL ⊢
    obtain ⟨f, rfl⟩ : ∃ f', f = f' + 1 := ⟨f - 1, by omega⟩
    obtain ⟨b1, b2, b3, b4, b5, b6⟩ := s
    have hclk := g.clk
    dsimp only at hclk
    have hs : Small ⟨b1, b2, b3, b4⟩ := ⟨by dsimp only; omega, by dsimp only; omega⟩
    rcases next_spec g.v with ⟨_, hn⟩ | ⟨n, _, _, c', _, hn, _⟩
    · rw [simF, hn] at hL
      dsimp only at hL
      rw [if_neg (by decide)] at hL
      rw [← hL]
      repeat' ((conv => whnf); first | refine Gs.id ?_ | with_reducible refine And.intro ?_ ?_ | with_reducible refine Brn.T rfl ?_ | with_reducible refine Brn.F rfl ?_ | refine Brn.T (by (try simp only [smT]); first | rfl | assumption | omega | (simp only [*]; done) | (simp [*]; done) | fail) ?_ | refine Brn.F (by (try simp only [smT]); first | rfl | assumption | omega | (simp only [*]; done) | (simp [*]; done) | fail) ?_ | (refine Brn.mk (fun hb => ?_) (fun hb => ?_) <;> (try simp only [smT] at hb) <;> (try (exact absurd trivial hb)) <;> (try (exfalso; omega))) | (refine Bnd.mk (fun hm => ?_); (try simp only [smT] at hm)) | refine Rng.mk (by (try simp only [smT]); omega) ?_ | refine Ix.map rfl (by (try simp only [smT]); omega) ?_ | refine Ix.map (m := 0) rfl (by (try simp only [smT]); omega) ?_ | refine Ix.lit (m := 0) rfl rfl ?_ | refine Ixo.mk ⟨_, rfl, (by (try simp only [smT]); omega), ?_⟩ | refine Rw.lit rfl ?_ | refine Rw.self (by (try simp only [smT]); omega) ?_ | refine Rw.map (by (try simp only [smT]); omega) ?_ | refine Len.mk (by first | rfl | (simp; done) | (simp only [smT]; assumption) | (simp only [smT]; omega)) ?_ | refine Eqv.mk (by kernel_rfl) ?_ | refine Apd.mk (by first | rfl | simp) (by first | rfl | simp) (by (try simp only [smT]); first | omega | (simp; omega)) (by unfold maxLen; first | (simp; done) | (simp; omega) | omega) ?_ | refine Raw.capNil (T := tt) rfl rfl rfl rfl ?_ | refine Raw.sliceNil (T := tt) rfl rfl (by first | rfl | omega | (simp; done)) rfl rfl rfl rfl ?_ | (refine Raw.appendR (T := tt) ?_; (conv => whnf); first | refine Rw.lit rfl ?_ | refine Rw.self (by (try simp only [smT]); omega) ?_ | refine Rw.map (by (try simp only [smT]); omega) ?_) | refine Raw.appendIn (T := tt) rfl rfl rfl rfl rfl rfl rfl rfl rfl rfl (by (try simp only [smT]); omega) (by (try simp only [smT]); omega) ?_ | refine Raw.clear (T := tt) rfl rfl rfl rfl rfl rfl rfl (by (try simp only [smT]); omega) ?_ | refine Slc.mk ⟨_, _, rfl, rfl, (by (try simp only [smT]); omega), (by (try simp only [smT]); omega), ?_⟩ | refine Slc.mk ⟨0, _, rfl, rfl, (by (try simp only [smT]); omega), (by (try simp only [smT]); omega), ?_⟩ | refine Slc.mk ⟨1, _, rfl, rfl, (by (try simp only [smT]); omega), (by (try simp only [smT]); omega), ?_⟩ | refine Slc3.mk ⟨_, _, _, rfl, rfl, rfl, (by (try simp only [smT]); omega), (by (try simp only [smT]); omega), (by (try simp only [smT]); omega)⟩ ?_ | (refine CL.mk (Or.inl ?_); (conv => whnf); first | refine Cl.is (next_T' _ _ _ _ hs _ _ _ _ _ _ hn) rfl (by first | exact fun _ => rfl | (intro e; cases e; done) | fail) ?_) | (refine CL.mk (Or.inl ?_); (conv => whnf); refine ClO.mk (Or.inl ?_); (repeat ((conv => whnf); refine Len.mk (by first | rfl | (simp; done) | (simp only [smT]; assumption) | (simp only [smT]; omega)) ?_)); (conv => whnf); first | refine Cl.is (next_T' _ _ _ _ hs _ _ _ _ _ _ hn) rfl (by first | exact fun _ => rfl | (intro e; cases e; done) | fail) ?_) | (refine CL.mk (Or.inl ?_); (conv => whnf); refine ClO.mk (Or.inr ?_); (repeat ((conv => whnf); refine Len.mk (by first | rfl | (simp; done) | (simp only [smT]; assumption) | (simp only [smT]; omega)) ?_)); (conv => whnf); first | refine Cl.is (next_T' _ _ _ _ hs _ _ _ _ _ _ hn) rfl (by first | exact fun _ => rfl | (intro e; cases e; done) | fail) ?_))
      all_goals (conv => whnf)
      · exact Ret.is rfl
    · rw [simF, hn] at hL
      dsimp only at hL
      rw [if_pos rfl] at hL
      obtain ⟨p1, p2, _⟩ := g.pop hn
      obtain ⟨c1, c2, c3, c4⟩ := c'
      obtain ⟨i, rfl, hi⟩ := alive_lt (p2.pl.al n (by simp))
      obtain ⟨M', m1, m2⟩ := p2.weak.proceed (n := i) hJ
      simp only [Int.toNat_natCast] at hL
      generalize hz : proceedM jobs ((⟨b1, b2, b3, b4, b5, b6⟩ : Sm).put ⟨c1, c2, c3, c4⟩) i = z at hL m2
      obtain ⟨z1, z2, z3, z4, z5, z6⟩ := z
      repeat' ((conv => whnf); first | refine Gs.id ?_ | with_reducible refine And.intro ?_ ?_ | with_reducible refine Brn.T rfl ?_ | with_reducible refine Brn.F rfl ?_ | refine Brn.T (by (try simp only [smT]); first | rfl | assumption | omega | (simp only [*]; done) | (simp [*]; done) | fail) ?_ | refine Brn.F (by (try simp only [smT]); first | rfl | assumption | omega | (simp only [*]; done) | (simp [*]; done) | fail) ?_ | (refine Brn.mk (fun hb => ?_) (fun hb => ?_) <;> (try simp only [smT] at hb) <;> (try (exact absurd trivial hb)) <;> (try (exfalso; omega))) | (refine Bnd.mk (fun hm => ?_); (try simp only [smT] at hm)) | refine Rng.mk (by (try simp only [smT]); omega) ?_ | refine Ix.map rfl (by (try simp only [smT]); omega) ?_ | refine Ix.map (m := 0) rfl (by (try simp only [smT]); omega) ?_ | refine Ix.lit (m := 0) rfl rfl ?_ | refine Ixo.mk ⟨_, rfl, (by (try simp only [smT]); omega), ?_⟩ | refine Rw.lit rfl ?_ | refine Rw.self (by (try simp only [smT]); omega) ?_ | refine Rw.map (by (try simp only [smT]); omega) ?_ | refine Len.mk (by first | rfl | (simp; done) | (simp only [smT]; assumption) | (simp only [smT]; omega)) ?_ | refine Eqv.mk (by kernel_rfl) ?_ | refine Apd.mk (by first | rfl | simp) (by first | rfl | simp) (by (try simp only [smT]); first | omega | (simp; omega)) (by unfold maxLen; first | (simp; done) | (simp; omega) | omega) ?_ | refine Raw.capNil (T := tt) rfl rfl rfl rfl ?_ | refine Raw.sliceNil (T := tt) rfl rfl (by first | rfl | omega | (simp; done)) rfl rfl rfl rfl ?_ | (refine Raw.appendR (T := tt) ?_; (conv => whnf); first | refine Rw.lit rfl ?_ | refine Rw.self (by (try simp only [smT]); omega) ?_ | refine Rw.map (by (try simp only [smT]); omega) ?_) | refine Raw.appendIn (T := tt) rfl rfl rfl rfl rfl rfl rfl rfl rfl rfl (by (try simp only [smT]); omega) (by (try simp only [smT]); omega) ?_ | refine Raw.clear (T := tt) rfl rfl rfl rfl rfl rfl rfl (by (try simp only [smT]); omega) ?_ | refine Slc.mk ⟨_, _, rfl, rfl, (by (try simp only [smT]); omega), (by (try simp only [smT]); omega), ?_⟩ | refine Slc.mk ⟨0, _, rfl, rfl, (by (try simp only [smT]); omega), (by (try simp only [smT]); omega), ?_⟩ | refine Slc.mk ⟨1, _, rfl, rfl, (by (try simp only [smT]); omega), (by (try simp only [smT]); omega), ?_⟩ | refine Slc3.mk ⟨_, _, _, rfl, rfl, rfl, (by (try simp only [smT]); omega), (by (try simp only [smT]); omega), (by (try simp only [smT]); omega)⟩ ?_ | (refine CL.mk (Or.inl ?_); (conv => whnf); first | refine Cl.is (next_T' _ _ _ _ hs _ _ _ _ _ _ hn) rfl (by first | exact fun _ => rfl | (intro e; cases e; done) | fail) ?_) | (refine CL.mk (Or.inl ?_); (conv => whnf); refine ClO.mk (Or.inl ?_); (repeat ((conv => whnf); refine Len.mk (by first | rfl | (simp; done) | (simp only [smT]; assumption) | (simp only [smT]; omega)) ?_)); (conv => whnf); first | refine Cl.is (next_T' _ _ _ _ hs _ _ _ _ _ _ hn) rfl (by first | exact fun _ => rfl | (intro e; cases e; done) | fail) ?_) | (refine CL.mk (Or.inl ?_); (conv => whnf); refine ClO.mk (Or.inr ?_); (repeat ((conv => whnf); refine Len.mk (by first | rfl | (simp; done) | (simp only [smT]; assumption) | (simp only [smT]; omega)) ?_)); (conv => whnf); first | refine Cl.is (next_T' _ _ _ _ hs _ _ _ _ _ _ hn) rfl (by first | exact fun _ => rfl | (intro e; cases e; done) | fail) ?_) | (refine CL.mk (Or.inr (Raw.callI [1,2] [1,2] rfl rfl rfl rfl rfl rfl rfl (proceed_T jobs hJ c1 c2 c3 c4 b5 b6 i (M - 1) p2 z1 z2 z3 z4 z5 z6 hz _ _ rfl rfl) ?_)); rintro _ _ ⟨rfl, rfl⟩; refine Bk.mk rfl rfl ?_))
      all_goals (conv => whnf)
      · exact ⟨(f, ⟨z1, z2, z3, z4, z5, z6⟩), ⟨⟨M', by dsimp only; omega, m2⟩, hL⟩, by dsimp only; omega, [(3, .k 3), (1, .k 1), (2, .k 2)], ⟨by (try dsimp only); (repeat (refine LeT.cons rfl (by first | exact LeS.d (by first | exact LeD.u rfl | exact LeD.p rfl | exact LeD.ow rfl rfl | exact LeD.ow rfl (by simp) | exact LeD.no rfl rfl | exact LeD.nl (by first | rfl | simp) | exact LeD.u (by simp; done) | exact LeD.u (by congr 1; omega) | exact LeD.q rfl | exact LeD.r rfl | exact LeD.r (by simp; done) | exact LeD.re | exact LeD.ows rfl rfl rfl | exact LeD.u (by congr 1; congr 1; simp) | exact LeD.fn (by repeat (first | exact LeN.nil | refine LeN.cons rfl ?_))) | exact LeS.a (by repeat (first | exact LeL.nil | refine LeL.cons (by first | exact LeD.u rfl | exact LeD.p rfl | exact LeD.ow rfl rfl | exact LeD.ow rfl (by simp) | exact LeD.no rfl rfl | exact LeD.nl (by first | rfl | simp) | exact LeD.u (by simp; done) | exact LeD.u (by congr 1; omega) | exact LeD.q rfl | exact LeD.r rfl | exact LeD.r (by simp; done) | exact LeD.re | exact LeD.ows rfl rfl rfl | exact LeD.u (by congr 1; congr 1; simp) | exact LeD.fn (by repeat (first | exact LeN.nil | refine LeN.cons rfl ?_))) ?_))) ?_)); exact LeT.nil, by (try dsimp only); repeat (first | exact LeO.nil | refine LeO.bx rfl rfl (by repeat (first | exact LeL.nil | refine LeL.cons (by first | exact LeD.u rfl | exact LeD.p rfl | exact LeD.ow rfl rfl | exact LeD.ow rfl (by simp) | exact LeD.no rfl rfl | exact LeD.nl (by first | rfl | simp) | exact LeD.u (by simp; done) | exact LeD.u (by congr 1; omega) | exact LeD.q rfl | exact LeD.r rfl | exact LeD.r (by simp; done) | exact LeD.re | exact LeD.ows rfl rfl rfl | exact LeD.u (by congr 1; congr 1; simp) | exact LeD.fn (by repeat (first | exact LeN.nil | refine LeN.cons rfl ?_))) ?_)) ?_ | refine LeO.ar rfl rfl (by first | rfl | simp) ?_ | refine LeO.fm rfl (by first | rfl | simp) ?_ | refine LeO.no rfl rfl ?_)⟩⟩
theorem nm_avs (l : List Ac) : Nm (avs l) := .sl fun r hr x hx => by
  obtain ⟨a, _, rfl⟩ := List.mem_map.1 hr
  simp only [Ac.v, List.mem_cons, List.not_mem_nil, or_false] at hx
  rcases hx with rfl | rfl <;> exact .int
theorem nm_jvs (l : List Jb) : Nm (jvs l) := .sl fun r hr x hx => by
  obtain ⟨a, _, rfl⟩ := List.mem_map.1 hr
  simp only [Jb.v, List.mem_cons, List.not_mem_nil, or_false] at hx
  rcases hx with rfl | rfl <;> exact nm_avs _
theorem nm_rcs (l : List Rc) : Nm (.sl 4 (l.map Rc.v)) := .sl fun r hr x hx => by
  obtain ⟨a, _, rfl⟩ := List.mem_map.1 hr
  simp only [Rc.v, List.mem_cons, List.not_mem_nil, or_false] at hx
  rcases hx with rfl | rfl | rfl | rfl <;> exact .int
theorem simulate_ok (jobs : List Jb) (h : (simFault jobs).1 = 0) : CallsA Try.prog 28 [.d (.u (jvs jobs))] [] (Is (.t [.d (.u (.sl 4 ((simM jobs).map Rc.v))), .a (fd (0, 0))])) :=
  (CallsA.hide [(1, 80), (2, 104)] (fun s hs => by simp at hs; subst hs; exact ⟨_, rfl, nm_jvs jobs⟩) (fun s ob ⟨h1, _⟩ => by
    subst h1
    intro s hs
    simp only [List.mem_cons, List.not_mem_nil, or_false] at hs
    rcases hs with rfl | rfl
    · exact ⟨_, rfl, nm_rcs _⟩
    · intro x hx
      simp only [fd, List.mem_cons, List.not_mem_nil, or_false] at hx
      rcases hx with rfl | rfl <;> exact ⟨_, rfl, .int⟩) (simulate_ok0 jobs h)).mono fun s ob ⟨h1, ob0, h2, _⟩ => ⟨h2, h1⟩
end Go.Proofs.Ytgiebofmfkacgaa
namespace Go.Proofs.Ytgiebofmfkacgaa
open Go.RowKit
abbrev simJ : List Jb := [⟨[⟨3, 1⟩, ⟨2, 2⟩, ⟨1, 7⟩], []⟩, ⟨[⟨2, 1⟩, ⟨1, 8⟩], []⟩]
abbrev simL : List Rc := [⟨0, 0, 1, 0⟩, ⟨0, 1, 1, 1⟩, ⟨1, 1, 2, 8⟩, ⟨1, 1, 3, 0⟩, ⟨2, 0, 2, 7⟩, ⟨2, 0, 3, 0⟩]
theorem simJ_ok : (simFault simJ).1 = 0 := by decide +kernel
theorem simJ_M : simM simJ = simL := by kernel_rfl
theorem simJ_T : CallsA Try.prog 28 [.d (.u (.sl 2 [[.sl 2 [[.int .i64 3, .int .i64 1], [.int .i64 2, .int .i64 2], [.int .i64 1, .int .i64 7]], .nl], [.sl 2 [[.int .i64 2, .int .i64 1], [.int .i64 1, .int .i64 8]], .nl]]))] [] (Is (.t [.d (.u (.sl 4 (simL.map Rc.v))), .a (fd (0, 0))])) := by
  have h := simulate_ok simJ simJ_ok
  rw [simJ_M] at h
  exact CallsA.nv (ys := [jvs simJ]) h (.cons (.rows (.cons (.cons .refl (.cons (.nl rfl) .nil)) (.cons (.cons .refl (.cons (.nl rfl) .nil)) .nil))) .nil)
theorem simulated_T : CallsA Try.prog 30 [] [] (Is (db true)) := by
  refine callsA_of_vc (T := tt) Try.func30 rfl rfl rfl rfl rfl ?_
  repeat' ((conv => whnf); first | refine Gs.go (i := 3) ((Ghost.frzA 11 rfl (by repeat ((conv => whnf); first | exact trivial | refine Len.mk (by first | rfl | simp) ?_))).trans (Ghost.frzA 8 rfl (by repeat ((conv => whnf); first | exact trivial | refine Len.mk (by first | rfl | simp) ?_)))) ?_ | refine Drw.ghost (i := 3) ((Ghost.frzA 11 rfl (by repeat ((conv => whnf); first | exact trivial | refine Len.mk (by first | rfl | simp) ?_))).trans (Ghost.frzA 8 rfl (by repeat ((conv => whnf); first | exact trivial | refine Len.mk (by first | rfl | simp) ?_)))) ?_ | refine Gs.id ?_ | with_reducible refine And.intro ?_ ?_ | with_reducible refine Brn.T rfl ?_ | with_reducible refine Brn.F rfl ?_ | refine Brn.T (by (try simp only [smT]); first | rfl | assumption | omega | (simp only [*]; done) | (simp [*]; done) | fail) ?_ | refine Brn.F (by (try simp only [smT]); first | rfl | assumption | omega | (simp only [*]; done) | (simp [*]; done) | fail) ?_ | (refine Brn.mk (fun hb => ?_) (fun hb => ?_) <;> (try simp only [smT] at hb) <;> (try (exact absurd trivial hb)) <;> (try (exfalso; omega))) | (refine Bnd.mk (fun hm => ?_); (try simp only [smT] at hm)) | refine Rng.mk (by (try simp only [smT]); omega) ?_ | refine Ix.map rfl (by (try simp only [smT]); omega) ?_ | refine Ix.map (m := 0) rfl (by (try simp only [smT]); omega) ?_ | refine Ix.lit (m := 0) rfl rfl ?_ | refine Ixo.mk ⟨_, rfl, (by (try simp only [smT]); omega), ?_⟩ | refine Rw.lit rfl ?_ | refine Rw.self (by (try simp only [smT]); omega) ?_ | refine Rw.map (by (try simp only [smT]); omega) ?_ | refine Len.mk (by first | rfl | (simp; done) | (simp only [smT]; assumption) | (simp only [smT]; omega)) ?_ | refine Eqv.mk (by kernel_rfl) ?_ | refine Apd.mk (by first | rfl | simp) (by first | rfl | simp) (by (try simp only [smT]); first | omega | (simp; omega)) (by unfold maxLen; first | (simp; done) | (simp; omega) | omega) ?_ | refine Raw.capNil (T := tt) rfl rfl rfl rfl ?_ | refine Raw.sliceNil (T := tt) rfl rfl (by first | rfl | omega | (simp; done)) rfl rfl rfl rfl ?_ | (refine Raw.appendR (T := tt) ?_; (conv => whnf); first | refine Gs.go (i := 3) ((Ghost.frzA 11 rfl (by repeat ((conv => whnf); first | exact trivial | refine Len.mk (by first | rfl | simp) ?_))).trans (Ghost.frzA 8 rfl (by repeat ((conv => whnf); first | exact trivial | refine Len.mk (by first | rfl | simp) ?_)))) ?_ | refine Drw.ghost (i := 3) ((Ghost.frzA 11 rfl (by repeat ((conv => whnf); first | exact trivial | refine Len.mk (by first | rfl | simp) ?_))).trans (Ghost.frzA 8 rfl (by repeat ((conv => whnf); first | exact trivial | refine Len.mk (by first | rfl | simp) ?_)))) ?_ | refine Rw.lit rfl ?_ | refine Rw.self (by (try simp only [smT]); omega) ?_ | refine Rw.map (by (try simp only [smT]); omega) ?_) | refine Raw.appendIn (T := tt) rfl rfl rfl rfl rfl rfl rfl rfl rfl rfl (by (try simp only [smT]); omega) (by (try simp only [smT]); omega) ?_ | refine Raw.clear (T := tt) rfl rfl rfl rfl rfl rfl rfl (by (try simp only [smT]); omega) ?_ | refine Slc.mk ⟨_, _, rfl, rfl, (by (try simp only [smT]); omega), (by (try simp only [smT]); omega), ?_⟩ | refine Slc.mk ⟨0, _, rfl, rfl, (by (try simp only [smT]); omega), (by (try simp only [smT]); omega), ?_⟩ | refine Slc.mk ⟨1, _, rfl, rfl, (by (try simp only [smT]); omega), (by (try simp only [smT]); omega), ?_⟩ | refine Slc3.mk ⟨_, _, _, rfl, rfl, rfl, (by (try simp only [smT]); omega), (by (try simp only [smT]); omega), (by (try simp only [smT]); omega)⟩ ?_ | (refine CL.mk (Or.inl ?_); (conv => whnf); first | refine Cl.is (simJ_T) rfl (by first | exact fun _ => rfl | (intro e; cases e; done) | fail) ?_) | (refine CL.mk (Or.inl ?_); (conv => whnf); refine ClO.mk (Or.inl ?_); (repeat ((conv => whnf); refine Len.mk (by first | rfl | (simp; done) | (simp only [smT]; assumption) | (simp only [smT]; omega)) ?_)); (conv => whnf); first | refine Cl.is (simJ_T) rfl (by first | exact fun _ => rfl | (intro e; cases e; done) | fail) ?_) | (refine CL.mk (Or.inl ?_); (conv => whnf); refine ClO.mk (Or.inr ?_); (repeat ((conv => whnf); refine Len.mk (by first | rfl | (simp; done) | (simp only [smT]; assumption) | (simp only [smT]; omega)) ?_)); (conv => whnf); first | refine Cl.is (simJ_T) rfl (by first | exact fun _ => rfl | (intro e; cases e; done) | fail) ?_))
  all_goals (conv => whnf)
  · exact Ret.is (by rfl)
end Go.Proofs.Ytgiebofmfkacgaa
namespace Go.Proofs.Ytgiebofmfkacgaa
open Go.RowKit
set_option maxHeartbeats 2000000 in
theorem simulate_own0 (jobs : List Jb) (h : (simFault jobs).1 = 0) : CallsA Try.prog 28 [.d (.u (jvs jobs))] smOb0 (Iso (.t [.d (.ow 905 (simM jobs).length), .a (fd (0, 0))]) [(905, .ar 55 4 ((simM jobs).map Rc.v))]) := by
  have hJ := simFault_ok h
  have hj0 := jobs0 h
  have hne := hJ.ne
  have hle := hJ.le
  refine callsA_of_vcO (T := tt) Try.func28 rfl rfl rfl rfl rfl ?_
  repeat' ((conv => whnf); first | refine Gs.id ?_ | with_reducible refine And.intro ?_ ?_ | with_reducible refine Brn.T rfl ?_ | with_reducible refine Brn.F rfl ?_ | refine Brn.T (by (try simp only [smT]); first | rfl | assumption | omega | (simp only [*]; done) | (simp [*]; done) | fail) ?_ | refine Brn.F (by (try simp only [smT]); first | rfl | assumption | omega | (simp only [*]; done) | (simp [*]; done) | fail) ?_ | (refine Brn.mk (fun hb => ?_) (fun hb => ?_) <;> (try simp only [smT] at hb) <;> (try (exact absurd trivial hb)) <;> (try (exfalso; omega))) | (refine Bnd.mk (fun hm => ?_); (try simp only [smT] at hm)) | refine Rng.mk (by (try simp only [smT]); omega) ?_ | refine Ix.map rfl (by (try simp only [smT]); omega) ?_ | refine Ix.map (m := 0) rfl (by (try simp only [smT]); omega) ?_ | refine Ix.lit (m := 0) rfl rfl ?_ | refine Ixo.mk ⟨_, rfl, (by (try simp only [smT]); omega), ?_⟩ | refine Rw.lit rfl ?_ | refine Rw.self (by (try simp only [smT]); omega) ?_ | refine Rw.map (by (try simp only [smT]); omega) ?_ | refine Len.mk (by first | rfl | (simp; done) | (simp only [smT]; assumption) | (simp only [smT]; omega)) ?_ | refine Eqv.mk (by kernel_rfl) ?_ | refine Apd.mk (by first | rfl | simp) (by first | rfl | simp) (by (try simp only [smT]); first | omega | (simp; omega)) (by unfold maxLen; first | (simp; done) | (simp; omega) | omega) ?_ | refine Raw.capNil (T := tt) rfl rfl rfl rfl ?_ | refine Raw.sliceNil (T := tt) rfl rfl (by first | rfl | omega | (simp; done)) rfl rfl rfl rfl ?_ | (refine Raw.appendR (T := tt) ?_; (conv => whnf); first | refine Rw.lit rfl ?_ | refine Rw.self (by (try simp only [smT]); omega) ?_ | refine Rw.map (by (try simp only [smT]); omega) ?_) | refine Raw.appendIn (T := tt) rfl rfl rfl rfl rfl rfl rfl rfl rfl rfl (by (try simp only [smT]); omega) (by (try simp only [smT]); omega) ?_ | refine Raw.clear (T := tt) rfl rfl rfl rfl rfl rfl rfl (by (try simp only [smT]); omega) ?_ | refine Slc.mk ⟨_, _, rfl, rfl, (by (try simp only [smT]); omega), (by (try simp only [smT]); omega), ?_⟩ | refine Slc.mk ⟨0, _, rfl, rfl, (by (try simp only [smT]); omega), (by (try simp only [smT]); omega), ?_⟩ | refine Slc.mk ⟨1, _, rfl, rfl, (by (try simp only [smT]); omega), (by (try simp only [smT]); omega), ?_⟩ | refine Slc3.mk ⟨_, _, _, rfl, rfl, rfl, (by (try simp only [smT]); omega), (by (try simp only [smT]); omega), (by (try simp only [smT]); omega)⟩ ?_)
  all_goals (conv => whnf)
  refine ⟨⟨Nat, fun i => i ≤ jobs.length ∧ jobsM jobs.length (jobs.drop i) i = (0, 0), fun i => jobs.length - i, fun i => ⟨[(0, .d (.u (jvs jobs))), (3, .d (.p 3 0)), (21, .d (.u (jvs jobs))), (22, di jobs.length), (23, di i)], [(3, .bx 27 [.u (.int .i64 0), .u (.int .i64 0)]), (1, .fm 80 []), (2, .fm 104 [])]⟩, 0, ⟨by omega, hj0⟩, ⟨[(3, .k 3), (1, .k 1), (2, .k 2)], ⟨by (try dsimp only); (repeat (refine LeT.cons rfl (by first | exact LeS.d (by first | exact LeD.u rfl | exact LeD.p rfl | exact LeD.ow rfl rfl | exact LeD.ow rfl (by simp) | exact LeD.no rfl rfl | exact LeD.nl (by first | rfl | simp) | exact LeD.u (by simp; done) | exact LeD.u (by congr 1; omega) | exact LeD.q rfl | exact LeD.r rfl | exact LeD.r (by simp; done) | exact LeD.re | exact LeD.ows rfl rfl rfl | exact LeD.u (by congr 1; congr 1; simp) | exact LeD.fn (by repeat (first | exact LeN.nil | refine LeN.cons rfl ?_))) | exact LeS.a (by repeat (first | exact LeL.nil | refine LeL.cons (by first | exact LeD.u rfl | exact LeD.p rfl | exact LeD.ow rfl rfl | exact LeD.ow rfl (by simp) | exact LeD.no rfl rfl | exact LeD.nl (by first | rfl | simp) | exact LeD.u (by simp; done) | exact LeD.u (by congr 1; omega) | exact LeD.q rfl | exact LeD.r rfl | exact LeD.r (by simp; done) | exact LeD.re | exact LeD.ows rfl rfl rfl | exact LeD.u (by congr 1; congr 1; simp) | exact LeD.fn (by repeat (first | exact LeN.nil | refine LeN.cons rfl ?_))) ?_))) ?_)); exact LeT.nil, by (try dsimp only); repeat (first | exact LeO.nil | refine LeO.bx rfl rfl (by repeat (first | exact LeL.nil | refine LeL.cons (by first | exact LeD.u rfl | exact LeD.p rfl | exact LeD.ow rfl rfl | exact LeD.ow rfl (by simp) | exact LeD.no rfl rfl | exact LeD.nl (by first | rfl | simp) | exact LeD.u (by simp; done) | exact LeD.u (by congr 1; omega) | exact LeD.q rfl | exact LeD.r rfl | exact LeD.r (by simp; done) | exact LeD.re | exact LeD.ows rfl rfl rfl | exact LeD.u (by congr 1; congr 1; simp) | exact LeD.fn (by repeat (first | exact LeN.nil | refine LeN.cons rfl ?_))) ?_)) ?_ | refine LeO.ar rfl rfl (by first | rfl | simp) ?_ | refine LeO.fm rfl (by first | rfl | simp) ?_ | refine LeO.no rfl rfl ?_)⟩⟩, fun i ⟨hi, he⟩ => ?_⟩⟩
  dsimp only
  by_cases h9 : i < jobs.length
  · rw [jobsM_step _ _ _ h9] at he
    have hc := checkJob_T jobs[i] jobs.length (by omega) (by omega)
    generalize checkJobM jobs[i] jobs.length = cc at hc he
    have hc' : ∀ m : Nat, m = jobs.length → CallsA Try.prog 45 [.a [.u (avs (jobs[i]).acts), .u (avs (jobs[i]).guard)], di m] [] (Is (di cc)) := fun m hm => by rw [hm]; exact hc
    have hcc : cc = 0 := by
      by_cases q : cc = 0
      · exact q
      · rw [if_pos q] at he; injection he
    subst hcc
    rw [if_neg (by simp)] at he
    repeat' ((conv => whnf); first | refine Gs.id ?_ | with_reducible refine And.intro ?_ ?_ | with_reducible refine Brn.T rfl ?_ | with_reducible refine Brn.F rfl ?_ | refine Brn.T (by (try simp only [smT]); first | rfl | assumption | omega | (simp only [*]; done) | (simp [*]; done) | fail) ?_ | refine Brn.F (by (try simp only [smT]); first | rfl | assumption | omega | (simp only [*]; done) | (simp [*]; done) | fail) ?_ | (refine Brn.mk (fun hb => ?_) (fun hb => ?_) <;> (try simp only [smT] at hb) <;> (try (exact absurd trivial hb)) <;> (try (exfalso; omega))) | (refine Bnd.mk (fun hm => ?_); (try simp only [smT] at hm)) | refine Rng.mk (by (try simp only [smT]); omega) ?_ | refine Ix.map rfl (by (try simp only [smT]); omega) ?_ | refine Ix.map (m := 0) rfl (by (try simp only [smT]); omega) ?_ | refine Ix.lit (m := 0) rfl rfl ?_ | refine Ixo.mk ⟨_, rfl, (by (try simp only [smT]); omega), ?_⟩ | refine Rw.lit rfl ?_ | refine Rw.self (by (try simp only [smT]); omega) ?_ | refine Rw.map (by (try simp only [smT]); omega) ?_ | refine Len.mk (by first | rfl | (simp; done) | (simp only [smT]; assumption) | (simp only [smT]; omega)) ?_ | refine Eqv.mk (by kernel_rfl) ?_ | refine Apd.mk (by first | rfl | simp) (by first | rfl | simp) (by (try simp only [smT]); first | omega | (simp; omega)) (by unfold maxLen; first | (simp; done) | (simp; omega) | omega) ?_ | refine Raw.capNil (T := tt) rfl rfl rfl rfl ?_ | refine Raw.sliceNil (T := tt) rfl rfl (by first | rfl | omega | (simp; done)) rfl rfl rfl rfl ?_ | (refine Raw.appendR (T := tt) ?_; (conv => whnf); first | refine Rw.lit rfl ?_ | refine Rw.self (by (try simp only [smT]); omega) ?_ | refine Rw.map (by (try simp only [smT]); omega) ?_) | refine Raw.appendIn (T := tt) rfl rfl rfl rfl rfl rfl rfl rfl rfl rfl (by (try simp only [smT]); omega) (by (try simp only [smT]); omega) ?_ | refine Raw.clear (T := tt) rfl rfl rfl rfl rfl rfl rfl (by (try simp only [smT]); omega) ?_ | refine Slc.mk ⟨_, _, rfl, rfl, (by (try simp only [smT]); omega), (by (try simp only [smT]); omega), ?_⟩ | refine Slc.mk ⟨0, _, rfl, rfl, (by (try simp only [smT]); omega), (by (try simp only [smT]); omega), ?_⟩ | refine Slc.mk ⟨1, _, rfl, rfl, (by (try simp only [smT]); omega), (by (try simp only [smT]); omega), ?_⟩ | refine Slc3.mk ⟨_, _, _, rfl, rfl, rfl, (by (try simp only [smT]); omega), (by (try simp only [smT]); omega), (by (try simp only [smT]); omega)⟩ ?_ | (refine CL.mk (Or.inl ?_); (conv => whnf); first | refine Cl.is (hc' _ (by simp)) rfl (by first | exact fun _ => rfl | (intro e; cases e; done) | fail) ?_) | (refine CL.mk (Or.inl ?_); (conv => whnf); refine ClO.mk (Or.inl ?_); (repeat ((conv => whnf); refine Len.mk (by first | rfl | (simp; done) | (simp only [smT]; assumption) | (simp only [smT]; omega)) ?_)); (conv => whnf); first | refine Cl.is (hc' _ (by simp)) rfl (by first | exact fun _ => rfl | (intro e; cases e; done) | fail) ?_) | (refine CL.mk (Or.inl ?_); (conv => whnf); refine ClO.mk (Or.inr ?_); (repeat ((conv => whnf); refine Len.mk (by first | rfl | (simp; done) | (simp only [smT]; assumption) | (simp only [smT]; omega)) ?_)); (conv => whnf); first | refine Cl.is (hc' _ (by simp)) rfl (by first | exact fun _ => rfl | (intro e; cases e; done) | fail) ?_))
    all_goals (conv => whnf)
    · exact ⟨i + 1, ⟨by omega, he⟩, by omega, [(3, .k 3), (1, .k 1), (2, .k 2)], ⟨by (try dsimp only); (repeat (refine LeT.cons rfl (by first | exact LeS.d (by first | exact LeD.u rfl | exact LeD.p rfl | exact LeD.ow rfl rfl | exact LeD.ow rfl (by simp) | exact LeD.no rfl rfl | exact LeD.nl (by first | rfl | simp) | exact LeD.u (by simp; done) | exact LeD.u (by congr 1; omega) | exact LeD.q rfl | exact LeD.r rfl | exact LeD.r (by simp; done) | exact LeD.re | exact LeD.ows rfl rfl rfl | exact LeD.u (by congr 1; congr 1; simp) | exact LeD.fn (by repeat (first | exact LeN.nil | refine LeN.cons rfl ?_))) | exact LeS.a (by repeat (first | exact LeL.nil | refine LeL.cons (by first | exact LeD.u rfl | exact LeD.p rfl | exact LeD.ow rfl rfl | exact LeD.ow rfl (by simp) | exact LeD.no rfl rfl | exact LeD.nl (by first | rfl | simp) | exact LeD.u (by simp; done) | exact LeD.u (by congr 1; omega) | exact LeD.q rfl | exact LeD.r rfl | exact LeD.r (by simp; done) | exact LeD.re | exact LeD.ows rfl rfl rfl | exact LeD.u (by congr 1; congr 1; simp) | exact LeD.fn (by repeat (first | exact LeN.nil | refine LeN.cons rfl ?_))) ?_))) ?_)); exact LeT.nil, by (try dsimp only); repeat (first | exact LeO.nil | refine LeO.bx rfl rfl (by repeat (first | exact LeL.nil | refine LeL.cons (by first | exact LeD.u rfl | exact LeD.p rfl | exact LeD.ow rfl rfl | exact LeD.ow rfl (by simp) | exact LeD.no rfl rfl | exact LeD.nl (by first | rfl | simp) | exact LeD.u (by simp; done) | exact LeD.u (by congr 1; omega) | exact LeD.q rfl | exact LeD.r rfl | exact LeD.r (by simp; done) | exact LeD.re | exact LeD.ows rfl rfl rfl | exact LeD.u (by congr 1; congr 1; simp) | exact LeD.fn (by repeat (first | exact LeN.nil | refine LeN.cons rfl ?_))) ?_)) ?_ | refine LeO.ar rfl rfl (by first | rfl | simp) ?_ | refine LeO.fm rfl (by first | rfl | simp) ?_ | refine LeO.no rfl rfl ?_)⟩⟩
  · obtain rfl : i = jobs.length := by omega
    have hsp : spawnM jobs ⟨0, 0, [], [], [], []⟩ 0 = init jobs := by
      have : readyM ⟨0, 0, [], []⟩ 0 = (⟨0, 0, [0], []⟩, (0, 0)) := by decide +kernel
      simp [spawnM, init, Sm.ck, this]
    have hg := init_good hJ
    repeat' ((conv => whnf); first | refine Gs.go (i := 13) (Ghost.nl (NlO.keep (NlO.fm (NlRs.cons (NlEs.cons .refl (NlEs.cons .refl (NlEs.cons .refl (NlEs.cons (.v (.nl (sz := 1) (rs := []) rfl)) (NlEs.cons (.v (.nl (sz := 3) (rs := []) rfl)) (NlEs.cons .refl (NlEs.cons .refl .nil))))))) .nil) (.keep .nil)))) ?_ | refine Drw.ghost (i := 13) (Ghost.nl (NlO.keep (NlO.fm (NlRs.cons (NlEs.cons .refl (NlEs.cons .refl (NlEs.cons .refl (NlEs.cons (.v (.nl (sz := 1) (rs := []) rfl)) (NlEs.cons (.v (.nl (sz := 3) (rs := []) rfl)) (NlEs.cons .refl (NlEs.cons .refl .nil))))))) .nil) (.keep .nil)))) ?_ | refine Gs.id ?_ | with_reducible refine And.intro ?_ ?_ | with_reducible refine Brn.T rfl ?_ | with_reducible refine Brn.F rfl ?_ | refine Brn.T (by (try simp only [smT]); first | rfl | assumption | omega | (simp only [*]; done) | (simp [*]; done) | fail) ?_ | refine Brn.F (by (try simp only [smT]); first | rfl | assumption | omega | (simp only [*]; done) | (simp [*]; done) | fail) ?_ | (refine Brn.mk (fun hb => ?_) (fun hb => ?_) <;> (try simp only [smT] at hb) <;> (try (exact absurd trivial hb)) <;> (try (exfalso; omega))) | (refine Bnd.mk (fun hm => ?_); (try simp only [smT] at hm)) | refine Rng.mk (by (try simp only [smT]); omega) ?_ | refine Ix.map rfl (by (try simp only [smT]); omega) ?_ | refine Ix.map (m := 0) rfl (by (try simp only [smT]); omega) ?_ | refine Ix.lit (m := 0) rfl rfl ?_ | refine Ixo.mk ⟨_, rfl, (by (try simp only [smT]); omega), ?_⟩ | refine Rw.lit rfl ?_ | refine Rw.self (by (try simp only [smT]); omega) ?_ | refine Rw.map (by (try simp only [smT]); omega) ?_ | refine Len.mk (by first | rfl | (simp; done) | (simp only [smT]; assumption) | (simp only [smT]; omega)) ?_ | refine Eqv.mk (by kernel_rfl) ?_ | refine Apd.mk (by first | rfl | simp) (by first | rfl | simp) (by (try simp only [smT]); first | omega | (simp; omega)) (by unfold maxLen; first | (simp; done) | (simp; omega) | omega) ?_ | refine Raw.capNil (T := tt) rfl rfl rfl rfl ?_ | refine Raw.sliceNil (T := tt) rfl rfl (by first | rfl | omega | (simp; done)) rfl rfl rfl rfl ?_ | (refine Raw.appendR (T := tt) ?_; (conv => whnf); first | refine Gs.go (i := 13) (Ghost.nl (NlO.keep (NlO.fm (NlRs.cons (NlEs.cons .refl (NlEs.cons .refl (NlEs.cons .refl (NlEs.cons (.v (.nl (sz := 1) (rs := []) rfl)) (NlEs.cons (.v (.nl (sz := 3) (rs := []) rfl)) (NlEs.cons .refl (NlEs.cons .refl .nil))))))) .nil) (.keep .nil)))) ?_ | refine Drw.ghost (i := 13) (Ghost.nl (NlO.keep (NlO.fm (NlRs.cons (NlEs.cons .refl (NlEs.cons .refl (NlEs.cons .refl (NlEs.cons (.v (.nl (sz := 1) (rs := []) rfl)) (NlEs.cons (.v (.nl (sz := 3) (rs := []) rfl)) (NlEs.cons .refl (NlEs.cons .refl .nil))))))) .nil) (.keep .nil)))) ?_ | refine Rw.lit rfl ?_ | refine Rw.self (by (try simp only [smT]); omega) ?_ | refine Rw.map (by (try simp only [smT]); omega) ?_) | refine Raw.appendIn (T := tt) rfl rfl rfl rfl rfl rfl rfl rfl rfl rfl (by (try simp only [smT]); omega) (by (try simp only [smT]); omega) ?_ | refine Raw.clear (T := tt) rfl rfl rfl rfl rfl rfl rfl (by (try simp only [smT]); omega) ?_ | refine Slc.mk ⟨_, _, rfl, rfl, (by (try simp only [smT]); omega), (by (try simp only [smT]); omega), ?_⟩ | refine Slc.mk ⟨0, _, rfl, rfl, (by (try simp only [smT]); omega), (by (try simp only [smT]); omega), ?_⟩ | refine Slc.mk ⟨1, _, rfl, rfl, (by (try simp only [smT]); omega), (by (try simp only [smT]); omega), ?_⟩ | refine Slc3.mk ⟨_, _, _, rfl, rfl, rfl, (by (try simp only [smT]); omega), (by (try simp only [smT]); omega), (by (try simp only [smT]); omega)⟩ ?_ | (refine CL.mk (Or.inr (Raw.callI [1,2] [1,2] rfl rfl rfl rfl rfl rfl rfl (spawn_T' jobs 0 0 [] [] [] [] 0 hne (by simp) ⟨by simp, by simp⟩ _ _ _ _ _ hsp _ _ rfl rfl) ?_)); rintro _ _ ⟨rfl, rfl⟩; refine Bk.mk rfl rfl ?_) | refine Spc.mk ⟨[(5,(102,1)), (6,(55,4))], ?_⟩)
    all_goals (conv => whnf)
    refine ⟨⟨Nat × Sm, fun q => (∃ M, M < q.1 ∧ Good jobs q.2 [] M 0) ∧ simF jobs q.1 q.2 = simM jobs, fun q => q.1, fun q => ⟨[(3, .d (.p 3 0)), (7, smP)], (3, .bx 27 [.u (.int .i64 0), .u (.int .i64 0)]) :: smOb jobs q.2.now q.2.ser q.2.rs q.2.ts q.2.tasks q.2.log⟩, (7202, init jobs), ⟨⟨7201, by omega, hg⟩, rfl⟩, ⟨[(3, .k 3), (1, .k 1), (2, .k 2)], ⟨by (try dsimp only); (repeat (refine LeT.cons rfl (by first | exact LeS.d (by first | exact LeD.u rfl | exact LeD.p rfl | exact LeD.ow rfl rfl | exact LeD.ow rfl (by simp) | exact LeD.no rfl rfl | exact LeD.nl (by first | rfl | simp) | exact LeD.u (by simp; done) | exact LeD.u (by congr 1; omega) | exact LeD.q rfl | exact LeD.r rfl | exact LeD.r (by simp; done) | exact LeD.re | exact LeD.ows rfl rfl rfl | exact LeD.u (by congr 1; congr 1; simp) | exact LeD.fn (by repeat (first | exact LeN.nil | refine LeN.cons rfl ?_))) | exact LeS.a (by repeat (first | exact LeL.nil | refine LeL.cons (by first | exact LeD.u rfl | exact LeD.p rfl | exact LeD.ow rfl rfl | exact LeD.ow rfl (by simp) | exact LeD.no rfl rfl | exact LeD.nl (by first | rfl | simp) | exact LeD.u (by simp; done) | exact LeD.u (by congr 1; omega) | exact LeD.q rfl | exact LeD.r rfl | exact LeD.r (by simp; done) | exact LeD.re | exact LeD.ows rfl rfl rfl | exact LeD.u (by congr 1; congr 1; simp) | exact LeD.fn (by repeat (first | exact LeN.nil | refine LeN.cons rfl ?_))) ?_))) ?_)); exact LeT.nil, by (try dsimp only); repeat (first | exact LeO.nil | refine LeO.bx rfl rfl (by repeat (first | exact LeL.nil | refine LeL.cons (by first | exact LeD.u rfl | exact LeD.p rfl | exact LeD.ow rfl rfl | exact LeD.ow rfl (by simp) | exact LeD.no rfl rfl | exact LeD.nl (by first | rfl | simp) | exact LeD.u (by simp; done) | exact LeD.u (by congr 1; omega) | exact LeD.q rfl | exact LeD.r rfl | exact LeD.r (by simp; done) | exact LeD.re | exact LeD.ows rfl rfl rfl | exact LeD.u (by congr 1; congr 1; simp) | exact LeD.fn (by repeat (first | exact LeN.nil | refine LeN.cons rfl ?_))) ?_)) ?_ | refine LeO.ar rfl rfl (by first | rfl | simp) ?_ | refine LeO.fm rfl (by first | rfl | simp) ?_ | refine LeO.no rfl rfl ?_)⟩⟩, fun ⟨f, s⟩ ⟨⟨M, hM, g⟩, hL⟩ => ?_⟩⟩
    dsimp only at hM g hL ⊢
    obtain ⟨f, rfl⟩ : ∃ f', f = f' + 1 := ⟨f - 1, by omega⟩
    obtain ⟨b1, b2, b3, b4, b5, b6⟩ := s
    have hclk := g.clk
    dsimp only at hclk
    have hs : Small ⟨b1, b2, b3, b4⟩ := ⟨by dsimp only; omega, by dsimp only; omega⟩
    rcases next_spec g.v with ⟨_, hn⟩ | ⟨n, _, _, c', _, hn, _⟩
    · rw [simF, hn] at hL
      dsimp only at hL
      rw [if_neg (by decide)] at hL
      rw [← hL]
      repeat' ((conv => whnf); first | refine Gs.go (i := 1000) (Ghost.take 905 2 rfl rfl rfl rfl rfl rfl rfl) ?_ | refine Drw.ghost (i := 1000) (Ghost.take 905 2 rfl rfl rfl rfl rfl rfl rfl) ?_ | refine Gs.id ?_ | with_reducible refine And.intro ?_ ?_ | with_reducible refine Brn.T rfl ?_ | with_reducible refine Brn.F rfl ?_ | refine Brn.T (by (try simp only [smT]); first | rfl | assumption | omega | (simp only [*]; done) | (simp [*]; done) | fail) ?_ | refine Brn.F (by (try simp only [smT]); first | rfl | assumption | omega | (simp only [*]; done) | (simp [*]; done) | fail) ?_ | (refine Brn.mk (fun hb => ?_) (fun hb => ?_) <;> (try simp only [smT] at hb) <;> (try (exact absurd trivial hb)) <;> (try (exfalso; omega))) | (refine Bnd.mk (fun hm => ?_); (try simp only [smT] at hm)) | refine Rng.mk (by (try simp only [smT]); omega) ?_ | refine Ix.map rfl (by (try simp only [smT]); omega) ?_ | refine Ix.map (m := 0) rfl (by (try simp only [smT]); omega) ?_ | refine Ix.lit (m := 0) rfl rfl ?_ | refine Ixo.mk ⟨_, rfl, (by (try simp only [smT]); omega), ?_⟩ | refine Rw.lit rfl ?_ | refine Rw.self (by (try simp only [smT]); omega) ?_ | refine Rw.map (by (try simp only [smT]); omega) ?_ | refine Len.mk (by first | rfl | (simp; done) | (simp only [smT]; assumption) | (simp only [smT]; omega)) ?_ | refine Eqv.mk (by kernel_rfl) ?_ | refine Apd.mk (by first | rfl | simp) (by first | rfl | simp) (by (try simp only [smT]); first | omega | (simp; omega)) (by unfold maxLen; first | (simp; done) | (simp; omega) | omega) ?_ | refine Raw.capNil (T := tt) rfl rfl rfl rfl ?_ | refine Raw.sliceNil (T := tt) rfl rfl (by first | rfl | omega | (simp; done)) rfl rfl rfl rfl ?_ | (refine Raw.appendR (T := tt) ?_; (conv => whnf); first | refine Gs.go (i := 1000) (Ghost.take 905 2 rfl rfl rfl rfl rfl rfl rfl) ?_ | refine Drw.ghost (i := 1000) (Ghost.take 905 2 rfl rfl rfl rfl rfl rfl rfl) ?_ | refine Rw.lit rfl ?_ | refine Rw.self (by (try simp only [smT]); omega) ?_ | refine Rw.map (by (try simp only [smT]); omega) ?_) | refine Raw.appendIn (T := tt) rfl rfl rfl rfl rfl rfl rfl rfl rfl rfl (by (try simp only [smT]); omega) (by (try simp only [smT]); omega) ?_ | refine Raw.clear (T := tt) rfl rfl rfl rfl rfl rfl rfl (by (try simp only [smT]); omega) ?_ | refine Slc.mk ⟨_, _, rfl, rfl, (by (try simp only [smT]); omega), (by (try simp only [smT]); omega), ?_⟩ | refine Slc.mk ⟨0, _, rfl, rfl, (by (try simp only [smT]); omega), (by (try simp only [smT]); omega), ?_⟩ | refine Slc.mk ⟨1, _, rfl, rfl, (by (try simp only [smT]); omega), (by (try simp only [smT]); omega), ?_⟩ | refine Slc3.mk ⟨_, _, _, rfl, rfl, rfl, (by (try simp only [smT]); omega), (by (try simp only [smT]); omega), (by (try simp only [smT]); omega)⟩ ?_ | (refine CL.mk (Or.inl ?_); (conv => whnf); first | refine Cl.is (next_T' _ _ _ _ hs _ _ _ _ _ _ hn) rfl (by first | exact fun _ => rfl | (intro e; cases e; done) | fail) ?_) | (refine CL.mk (Or.inl ?_); (conv => whnf); refine ClO.mk (Or.inl ?_); (repeat ((conv => whnf); refine Len.mk (by first | rfl | (simp; done) | (simp only [smT]; assumption) | (simp only [smT]; omega)) ?_)); (conv => whnf); first | refine Cl.is (next_T' _ _ _ _ hs _ _ _ _ _ _ hn) rfl (by first | exact fun _ => rfl | (intro e; cases e; done) | fail) ?_) | (refine CL.mk (Or.inl ?_); (conv => whnf); refine ClO.mk (Or.inr ?_); (repeat ((conv => whnf); refine Len.mk (by first | rfl | (simp; done) | (simp only [smT]; assumption) | (simp only [smT]; omega)) ?_)); (conv => whnf); first | refine Cl.is (next_T' _ _ _ _ hs _ _ _ _ _ _ hn) rfl (by first | exact fun _ => rfl | (intro e; cases e; done) | fail) ?_))
      all_goals (conv => whnf)
      · exact RetO.mk ⟨[(905, .k 905)], _, _, .ts (.cons (.d (.ow rfl (by simp))) (.cons (.a (.cons (.u rfl) (.cons (.u rfl) .nil))) .nil)), LeO.ar rfl rfl rfl .nil, rfl, rfl⟩
    · rw [simF, hn] at hL
      dsimp only at hL
      rw [if_pos rfl] at hL
      obtain ⟨p1, p2, _⟩ := g.pop hn
      obtain ⟨c1, c2, c3, c4⟩ := c'
      obtain ⟨i, rfl, hi⟩ := alive_lt (p2.pl.al n (by simp))
      obtain ⟨M', m1, m2⟩ := p2.weak.proceed (n := i) hJ
      simp only [Int.toNat_natCast] at hL
      generalize hz : proceedM jobs ((⟨b1, b2, b3, b4, b5, b6⟩ : Sm).put ⟨c1, c2, c3, c4⟩) i = z at hL m2
      obtain ⟨z1, z2, z3, z4, z5, z6⟩ := z
      repeat' ((conv => whnf); first | refine Gs.id ?_ | with_reducible refine And.intro ?_ ?_ | with_reducible refine Brn.T rfl ?_ | with_reducible refine Brn.F rfl ?_ | refine Brn.T (by (try simp only [smT]); first | rfl | assumption | omega | (simp only [*]; done) | (simp [*]; done) | fail) ?_ | refine Brn.F (by (try simp only [smT]); first | rfl | assumption | omega | (simp only [*]; done) | (simp [*]; done) | fail) ?_ | (refine Brn.mk (fun hb => ?_) (fun hb => ?_) <;> (try simp only [smT] at hb) <;> (try (exact absurd trivial hb)) <;> (try (exfalso; omega))) | (refine Bnd.mk (fun hm => ?_); (try simp only [smT] at hm)) | refine Rng.mk (by (try simp only [smT]); omega) ?_ | refine Ix.map rfl (by (try simp only [smT]); omega) ?_ | refine Ix.map (m := 0) rfl (by (try simp only [smT]); omega) ?_ | refine Ix.lit (m := 0) rfl rfl ?_ | refine Ixo.mk ⟨_, rfl, (by (try simp only [smT]); omega), ?_⟩ | refine Rw.lit rfl ?_ | refine Rw.self (by (try simp only [smT]); omega) ?_ | refine Rw.map (by (try simp only [smT]); omega) ?_ | refine Len.mk (by first | rfl | (simp; done) | (simp only [smT]; assumption) | (simp only [smT]; omega)) ?_ | refine Eqv.mk (by kernel_rfl) ?_ | refine Apd.mk (by first | rfl | simp) (by first | rfl | simp) (by (try simp only [smT]); first | omega | (simp; omega)) (by unfold maxLen; first | (simp; done) | (simp; omega) | omega) ?_ | refine Raw.capNil (T := tt) rfl rfl rfl rfl ?_ | refine Raw.sliceNil (T := tt) rfl rfl (by first | rfl | omega | (simp; done)) rfl rfl rfl rfl ?_ | (refine Raw.appendR (T := tt) ?_; (conv => whnf); first | refine Rw.lit rfl ?_ | refine Rw.self (by (try simp only [smT]); omega) ?_ | refine Rw.map (by (try simp only [smT]); omega) ?_) | refine Raw.appendIn (T := tt) rfl rfl rfl rfl rfl rfl rfl rfl rfl rfl (by (try simp only [smT]); omega) (by (try simp only [smT]); omega) ?_ | refine Raw.clear (T := tt) rfl rfl rfl rfl rfl rfl rfl (by (try simp only [smT]); omega) ?_ | refine Slc.mk ⟨_, _, rfl, rfl, (by (try simp only [smT]); omega), (by (try simp only [smT]); omega), ?_⟩ | refine Slc.mk ⟨0, _, rfl, rfl, (by (try simp only [smT]); omega), (by (try simp only [smT]); omega), ?_⟩ | refine Slc.mk ⟨1, _, rfl, rfl, (by (try simp only [smT]); omega), (by (try simp only [smT]); omega), ?_⟩ | refine Slc3.mk ⟨_, _, _, rfl, rfl, rfl, (by (try simp only [smT]); omega), (by (try simp only [smT]); omega), (by (try simp only [smT]); omega)⟩ ?_ | (refine CL.mk (Or.inl ?_); (conv => whnf); first | refine Cl.is (next_T' _ _ _ _ hs _ _ _ _ _ _ hn) rfl (by first | exact fun _ => rfl | (intro e; cases e; done) | fail) ?_) | (refine CL.mk (Or.inl ?_); (conv => whnf); refine ClO.mk (Or.inl ?_); (repeat ((conv => whnf); refine Len.mk (by first | rfl | (simp; done) | (simp only [smT]; assumption) | (simp only [smT]; omega)) ?_)); (conv => whnf); first | refine Cl.is (next_T' _ _ _ _ hs _ _ _ _ _ _ hn) rfl (by first | exact fun _ => rfl | (intro e; cases e; done) | fail) ?_) | (refine CL.mk (Or.inl ?_); (conv => whnf); refine ClO.mk (Or.inr ?_); (repeat ((conv => whnf); refine Len.mk (by first | rfl | (simp; done) | (simp only [smT]; assumption) | (simp only [smT]; omega)) ?_)); (conv => whnf); first | refine Cl.is (next_T' _ _ _ _ hs _ _ _ _ _ _ hn) rfl (by first | exact fun _ => rfl | (intro e; cases e; done) | fail) ?_) | (refine CL.mk (Or.inr (Raw.callI [1,2] [1,2] rfl rfl rfl rfl rfl rfl rfl (proceed_T jobs hJ c1 c2 c3 c4 b5 b6 i (M - 1) p2 z1 z2 z3 z4 z5 z6 hz _ _ rfl rfl) ?_)); rintro _ _ ⟨rfl, rfl⟩; refine Bk.mk rfl rfl ?_))
      all_goals (conv => whnf)
      · exact ⟨(f, ⟨z1, z2, z3, z4, z5, z6⟩), ⟨⟨M', by dsimp only; omega, m2⟩, hL⟩, by dsimp only; omega, [(3, .k 3), (1, .k 1), (2, .k 2)], ⟨by (try dsimp only); (repeat (refine LeT.cons rfl (by first | exact LeS.d (by first | exact LeD.u rfl | exact LeD.p rfl | exact LeD.ow rfl rfl | exact LeD.ow rfl (by simp) | exact LeD.no rfl rfl | exact LeD.nl (by first | rfl | simp) | exact LeD.u (by simp; done) | exact LeD.u (by congr 1; omega) | exact LeD.q rfl | exact LeD.r rfl | exact LeD.r (by simp; done) | exact LeD.re | exact LeD.ows rfl rfl rfl | exact LeD.u (by congr 1; congr 1; simp) | exact LeD.fn (by repeat (first | exact LeN.nil | refine LeN.cons rfl ?_))) | exact LeS.a (by repeat (first | exact LeL.nil | refine LeL.cons (by first | exact LeD.u rfl | exact LeD.p rfl | exact LeD.ow rfl rfl | exact LeD.ow rfl (by simp) | exact LeD.no rfl rfl | exact LeD.nl (by first | rfl | simp) | exact LeD.u (by simp; done) | exact LeD.u (by congr 1; omega) | exact LeD.q rfl | exact LeD.r rfl | exact LeD.r (by simp; done) | exact LeD.re | exact LeD.ows rfl rfl rfl | exact LeD.u (by congr 1; congr 1; simp) | exact LeD.fn (by repeat (first | exact LeN.nil | refine LeN.cons rfl ?_))) ?_))) ?_)); exact LeT.nil, by (try dsimp only); repeat (first | exact LeO.nil | refine LeO.bx rfl rfl (by repeat (first | exact LeL.nil | refine LeL.cons (by first | exact LeD.u rfl | exact LeD.p rfl | exact LeD.ow rfl rfl | exact LeD.ow rfl (by simp) | exact LeD.no rfl rfl | exact LeD.nl (by first | rfl | simp) | exact LeD.u (by simp; done) | exact LeD.u (by congr 1; omega) | exact LeD.q rfl | exact LeD.r rfl | exact LeD.r (by simp; done) | exact LeD.re | exact LeD.ows rfl rfl rfl | exact LeD.u (by congr 1; congr 1; simp) | exact LeD.fn (by repeat (first | exact LeN.nil | refine LeN.cons rfl ?_))) ?_)) ?_ | refine LeO.ar rfl rfl (by first | rfl | simp) ?_ | refine LeO.fm rfl (by first | rfl | simp) ?_ | refine LeO.no rfl rfl ?_)⟩⟩
theorem simulate_own (jobs : List Jb) (h : (simFault jobs).1 = 0) : CallsA Try.prog 28 [.d (.u (jvs jobs))] [] (Iso (.t [.d (.ow 905 (simM jobs).length), .a (fd (0, 0))]) [(905, .ar 55 4 ((simM jobs).map Rc.v))]) :=
  CallsA.hideO [(1, 80), (2, 104)] (fun s hs => by simp at hs; subst hs; exact ⟨_, rfl, nm_jvs jobs⟩) (fun s hs => by
    simp only [List.mem_cons, List.not_mem_nil, or_false] at hs
    rcases hs with rfl | rfl
    · exact .inr ⟨_, _, rfl⟩
    · intro x hx
      simp only [fd, List.mem_cons, List.not_mem_nil, or_false] at hx
      rcases hx with rfl | rfl <;> exact .inl ⟨_, rfl, .int⟩) (fun p hp => by
    simp at hp
    subst hp
    refine ⟨_, _, _, rfl, fun r hr x hx => ?_⟩
    obtain ⟨a, _, rfl⟩ := List.mem_map.1 hr
    simp only [Rc.v, List.mem_cons, List.not_mem_nil, or_false] at hx
    rcases hx with rfl | rfl | rfl | rfl <;> exact .int) (simulate_own0 jobs h)
end Go.Proofs.Ytgiebofmfkacgaa
namespace Go.Proofs.Ytgiebofmfkacgaa
def scA (k : Int) (a : Ac) : Ac := ⟨a.kind, if a.kind = 2 then a.n * k else a.n⟩
def scJ (k : Int) (j : Jb) : Jb := ⟨j.acts.map (scA k), j.guard.map (scA k)⟩
def scTm (k : Int) (t : Tm) : Tm := ⟨t.at_ * k, t.ser, t.task⟩
def scC (k : Int) (c : Ck) : Ck := ⟨c.now * k, c.ser, c.rs, c.ts.map (scTm k)⟩
def scK (k : Int) (t : Tsk) : Tsk := { t with left := t.left.map (scA k) }
def scR (k : Int) (r : Rc) : Rc := { r with time := r.time * k }
def scS (k : Int) (s : Sm) : Sm := ⟨s.now * k, s.ser, s.rs, s.ts.map (scTm k), s.tasks.map (scK k), s.log.map (scR k)⟩
section
variable {k : Int} (hk : 0 < k)
include hk
theorem mul_lt_iff' (a b : Int) : a * k < b * k ↔ a < b := by
  constructor
  · intro h; exact Int.lt_of_mul_lt_mul_right h (by omega)
  · intro h; exact Int.mul_lt_mul_of_pos_right h hk
theorem mul_eq_iff' (a b : Int) : a * k = b * k ↔ a = b := by
  constructor
  · intro h; exact Int.eq_of_mul_eq_mul_right (by omega) h
  · intro h; rw [h]
theorem fireF_sc (a : Int) : ∀ (f : Nat) (rs : List Int) (ts : List Tm), fireF f (a * k) rs (ts.map (scTm k)) = ((fireF f a rs ts).1, (fireF f a rs ts).2.map (scTm k))
  | 0, rs, ts => rfl
  | f + 1, rs, [] => rfl
  | f + 1, rs, t :: ts => by
    simp only [List.map_cons, fireF]
    have e : ((scTm k t).at_ == a * k) = (t.at_ == a) := by
      rw [Bool.eq_iff_iff, beq_iff_eq, beq_iff_eq]; exact mul_eq_iff' hk _ _
    rw [e]
    split
    · exact fireF_sc a f _ ts
    · rfl
theorem fire_sc (c : Ck) : fire (scC k c) = scC k (fire c) := by
  obtain ⟨now, ser, rs, ts⟩ := c
  cases rs with
  | cons x r => simp [fire, scC]
  | nil =>
    cases ts with
    | nil => simp [fire, scC]
    | cons t l =>
      have := fireF_sc hk t.at_ (t :: l).length [] (t :: l)
      simp only [List.map_cons, List.length_cons] at this
      simp only [fire, scC, List.map_cons, List.length_cons, List.length_map]
      rw [show (scTm k t).at_ = t.at_ * k from rfl, this]
theorem next_sc {c : Ck} (h : Valid c) (h' : Valid (scC k c)) : nextM (scC k c) = (scC k (nextM c).1, (nextM c).2) := by
  rw [nextM, nextM, if_pos ((valid_iff _).2 h), if_pos ((valid_iff _).2 h'), fire_sc hk]
  generalize fire c = d
  obtain ⟨now, ser, rs, ts⟩ := d
  cases rs <;> simp [popM, scC]
theorem later_sc (a b : Tm) : laterB (scTm k a) (scTm k b) = laterB a b := by
  simp only [laterB, scTm]
  congr 1
  · exact decide_eq_decide.2 (mul_lt_iff' hk _ _)
  · congr 1
    rw [Bool.eq_iff_iff, beq_iff_eq, beq_iff_eq]; exact mul_eq_iff' hk _ _
theorem sleptT_sc (t : Tm) (ts : List Tm) : sleptT (scTm k t) (ts.map (scTm k)) = (sleptT t ts).map (scTm k) := by
  rw [sleptT_eq, sleptT_eq, List.takeWhile_map, List.dropWhile_map]
  have e : (fun x => !laterB x (scTm k t)) ∘ scTm k = fun x => !laterB x t := by
    funext x; simp only [Function.comp_apply, later_sc hk]
  rw [e]
  simp
theorem sleptM_sc (c : Ck) (n d : Int) : sleptM (scC k c) n (d * k) = scC k (sleptM c n d) := by
  unfold sleptM
  by_cases h : d = 0
  · subst h; simp [enq, scC]
  · rw [if_neg (by intro e; exact h ((mul_eq_iff' hk d 0).1 (by simpa using e))), if_neg h]
    simp only [scC, Ck.mk.injEq, true_and]
    rw [← sleptT_sc hk]
    simp only [scTm, Int.add_mul]
omit hk in
theorem wokenM_sc (c : Ck) (n : Int) : wokenM (scC k c) n = scC k (wokenM c n) := by
  unfold wokenM
  have e : has (scC k c).rs n = has c.rs n := rfl
  rw [e]
  split
  · rfl
  · simp only [enq, scC, wokenT, List.filter_map, Ck.mk.injEq, true_and]
    rfl
omit hk in
theorem cancelTs_sc (l : List Tsk) (m : Nat) : cancelTs (l.map (scK k)) m = (cancelTs l m).map (scK k) := by
  apply List.ext_getElem?
  intro i
  rw [cancelTs_get, List.getElem?_map, List.getElem?_map, cancelTs_get]
  cases l[i]? <;> rfl
end
section
variable {k : Int} {jobs : List Jb} {s : Sm} {M M' σ σ' n : Nat}
theorem scS_ck (s : Sm) : (scS k s).ck = scC k s.ck := rfl
theorem scS_put (s : Sm) (c : Ck) : (scS k s).put (scC k c) = scS k (s.put c) := rfl
theorem scS_set (s : Sm) (n : Nat) (t : Tsk) : (scS k s).set n (scK k t) = scS k (s.set n t) := by
  simp only [Sm.set, scS, List.map_set]
theorem scS_note (s : Sm) (n a b : Int) : (scS k s).note n a b = scS k (s.note n a b) := by
  simp [Sm.note, scS, scR]
theorem act_sc (hk : 0 < k) (g : Good jobs s [(n : Int)] M σ) (g' : Good (jobs.map (scJ k)) (scS k s) [(n : Int)] M' σ') (hp : pot s + 2 ≤ M) (hp' : pot (scS k s) + 2 ≤ M') {a : Ac} (ha : okB jobs a) (ha' : okB (jobs.map (scJ k)) (scA k a)) :
    actM (jobs.map (scJ k)) (scS k s) n (scA k a).kind (scA k a).n.toNat = (scS k (actM jobs s n a.kind a.n.toNat).1, (actM jobs s n a.kind a.n.toNat).2) := by
  obtain ⟨ak, an⟩ := a
  obtain ⟨⟨a1, a2⟩, a3, a4, a5⟩ := ha
  obtain ⟨_, b3, b4, _⟩ := ha'
  simp only [scA] at b3 b4 ⊢
  dsimp only at a1 a2 a3 a4 a5
  by_cases h1 : ak = 1
  · subst h1
    simp only [actM, if_true, show ¬ (1 : Int) = 2 by decide, if_false]
    rw [scS_note]
  by_cases h2 : ak = 2
  · subst h2
    have d1 : 0 ≤ ((an.toNat : Nat) : Int) ∧ ((an.toNat : Nat) : Int) ≤ 1000000000 := ⟨by omega, by have := a4 rfl; omega⟩
    simp only [if_true] at b3 b4 ⊢
    have d2 : 0 ≤ (((an * k).toNat : Nat) : Int) ∧ (((an * k).toNat : Nat) : Int) ≤ 1000000000 := ⟨by omega, by have := b4 trivial; omega⟩
    have e2 : (((an * k).toNat : Nat) : Int) = ((an.toNat : Nat) : Int) * k := by rw [Int.toNat_of_nonneg b3, Int.toNat_of_nonneg a3]
    simp only [actM, show ¬ (2 : Int) = 1 by decide, if_false, if_true]
    rw [g.sleepEq d1, g'.sleepEq d2, e2, scS_ck, sleptM_sc hk, scS_put]
  by_cases h3 : ak = 3
  · subst h3
    have hj := a5 rfl
    simp only [actM, show ¬ (3 : Int) = 1 by decide, show ¬ (3 : Int) = 2 by decide, if_false, if_true, Prod.mk.injEq, and_true]
    unfold spawnM
    have hl : (scS k s).tasks.length = s.tasks.length := by simp [scS]
    have hlen := g.len
    by_cases h6 : s.tasks.length = 60
    · rw [if_pos h6, if_pos (by rw [hl]; exact h6)]
    · rw [if_neg h6, if_neg (by rw [hl]; exact h6)]
      rw [g.spawnEq (by omega), g'.spawnEq (by rw [hl]; omega), hl]
      simp only [enq, Sm.ck, scS, List.map_append, Sm.mk.injEq, true_and, and_true]
      congr 1
      simp only [List.map_cons, List.map_nil, scK, List.cons.injEq, Tsk.mk.injEq, true_and, and_true]
      simp [List.getD, hj, scJ]
  simp only [actM, if_neg h1, if_neg h2, if_neg h3]
  have e : (scS k s).tasks[an.toNat]? = (s.tasks[an.toNat]?).map (scK k) := by simp [scS]
  rw [e]
  cases ht : s.tasks[an.toNat]? with
  | none => rfl
  | some t =>
    simp only [Option.map_some]
    have he : (scK k t).ended = t.ended := rfl
    have hc : (scK k t).cancelled = t.cancelled := rfl
    rw [he, hc]
    split
    · split
      · simp only [scS, List.map_set, scK]
      · rfl
    · split
      · rename_i hcd
        have w1 := (g.cancel hp ht hcd.1 hcd.2.1).1
        have w2 := (g'.cancel hp' (m := an.toNat) (t := scK k t) (by rw [e, ht]; rfl) hcd.1 hcd.2.1).1
        rw [w1, w2]
        simp only [scS_ck, wokenM_sc]
        simp only [scS, scC, cancelTs_sc]
      · rfl
theorem end_sc (g : Good jobs s [(n : Int)] M (σ + 1)) (g' : Good (jobs.map (scJ k)) (scS k s) [(n : Int)] M' (σ' + 1)) {t : Tsk} (h : s.tasks[n]? = some t) : endM (scS k s) n = scS k (endM s n) := by
  have e : (scS k s).tasks[n]? = some (scK k t) := by simp [scS, h]
  rw [endM, endM, h, e]
  have w1 := (g.end_ h).1
  have w2 := (g'.end_ e).1
  have hw : (scK k t).waiters = t.waiters := rfl
  rw [hw] at w2
  simp only [hw, w1, w2]
  simp [scS, scK, scR, List.map_set]
theorem go_sc (hk : 0 < k) (hJ : Jok jobs) (hJ' : Jok (jobs.map (scJ k))) : ∀ {l : List Ac} {s : Sm} {M M' : Nat} {t : Tsk}, Good jobs s [(n : Int)] M (σ + 1) → Good (jobs.map (scJ k)) (scS k s) [(n : Int)] M' (σ' + 1) → s.tasks[n]? = some t → t.left = l → goM (jobs.map (scJ k)) n (l.map (scA k)) (scS k s) = scS k (goM jobs n l s)
  | [], s, M, M', t, g, g', ht, _ => end_sc g g' ht
  | a :: l, s, M, M', t, g, g', ht, hl => by
    have hn := lt_of_get ht
    have e : (scS k s).tasks[n]? = some (scK k t) := by simp [scS, ht]
    obtain ⟨g1, hp⟩ := g.take ht hl
    obtain ⟨g1', hp'⟩ := g'.take (a := scA k a) (l := l.map (scA k)) e (by simp [scK, hl])
    have ha := (g.tk t (List.mem_of_getElem? ht)).2.2 a (by rw [hl]; simp)
    have ha' := (g'.tk _ (List.mem_of_getElem? e)).2.2 (scA k a) (by simp [scK, hl])
    have es : (⟨(scS k s).now, (scS k s).ser, (scS k s).rs, (scS k s).ts, (scS k s).tasks.set n { scK k t with left := l.map (scA k) }, (scS k s).log⟩ : Sm) = scS k ⟨s.now, s.ser, s.rs, s.ts, s.tasks.set n { t with left := l }, s.log⟩ := scS_set s n { t with left := l }
    rw [es] at g1' hp'
    have q := act_sc hk g1 g1' hp hp' ha ha'
    have g2 := g1.act hJ hp ha
    have g2' := g1'.act hJ' hp' ha'
    rw [q] at g2'
    rw [List.map_cons, goM, goM, ht, e]
    simp only [Sm.set]
    simp only [es]
    have hbeg := actM_begun jobs ⟨s.now, s.ser, s.rs, s.ts, s.tasks.set n { t with left := l }, s.log⟩ n a.n.toNat a.kind { t with left := l } (by simp [hn])
    obtain ⟨s', b, hr⟩ : ∃ s' b, actM jobs ⟨s.now, s.ser, s.rs, s.ts, s.tasks.set n { t with left := l }, s.log⟩ n a.kind a.n.toNat = (s', b) := ⟨_, _, rfl⟩
    simp only [q]
    simp only [hr] at g2 g2' hbeg ⊢
    cases b
    · obtain ⟨u, u1, u2, _⟩ := hbeg rfl
      exact go_sc hk hJ hJ' (l := l) g2 g2' u1 u2
    · rfl
theorem proceed_sc (hk : 0 < k) (hJ : Jok jobs) (hJ' : Jok (jobs.map (scJ k))) (g : Good jobs s [(n : Int)] M (σ + 2)) (g' : Good (jobs.map (scJ k)) (scS k s) [(n : Int)] M' (σ' + 2)) : proceedM (jobs.map (scJ k)) (scS k s) n = scS k (proceedM jobs s n) := by
  have hn := g.run_lt (n := n) (by simp)
  obtain ⟨t, ht⟩ : ∃ t, s.tasks[n]? = some t := ⟨_, List.getElem?_eq_getElem hn⟩
  have e : (scS k s).tasks[n]? = some (scK k t) := by simp [scS, ht]
  obtain ⟨⟨j, hj1, hj2⟩, k2, k3⟩ := g.tk t (List.mem_of_getElem? ht)
  obtain ⟨hja, k2', k3'⟩ := g'.tk _ (List.mem_of_getElem? e)
  obtain ⟨job, begun, guarding, ended, cancelled, left, ws⟩ := t
  dsimp only [scK] at hj1 k2 k3 hja k2' k3' e
  subst hj1
  rw [proceedM, proceedM, ht, e]
  dsimp only
  have hjd : jobs.getD ((j : Int).toNat) ⟨[], []⟩ = jobs[j] := by simp [List.getD, hj2]
  have hjd' : (jobs.map (scJ k)).getD ((j : Int).toNat) ⟨[], []⟩ = scJ k jobs[j] := by simp [List.getD, hj2]
  have es : ∀ (s : Sm) (b g e c : Bool) (l : List Ac), (scS k s).set n ⟨j, b, g, e, c, l.map (scA k), ws⟩ = scS k (s.set n ⟨j, b, g, e, c, l, ws⟩) := fun s b g e c l => scS_set s n ⟨j, b, g, e, c, l, ws⟩
  cases cancelled
  · simp only [Bool.false_eq_true, if_false]
    cases begun
    · simp only [Bool.not_false, if_true]
      have g2 := (g.note n 1 j).upd (t' := ⟨j, true, guarding, ended, false, left, ws⟩) ht rfl rfl ⟨⟨j, rfl, hj2⟩, k2, k3⟩ (Nat.le_refl _)
      have g2' := (g'.note n 1 j).upd (t' := ⟨j, true, guarding, ended, false, left.map (scA k), ws⟩) e rfl rfl ⟨hja, k2', k3'⟩ (Nat.le_refl _)
      have es2 : ((scS k s).note n 1 j).set n ⟨j, true, guarding, ended, false, left.map (scA k), ws⟩ = scS k ((s.note n 1 j).set n ⟨j, true, guarding, ended, false, left, ws⟩) := by rw [scS_note, es]
      have g3 : Good (jobs.map (scJ k)) (scS k ((s.note n 1 j).set n ⟨j, true, guarding, ended, false, left, ws⟩)) [(n : Int)] M' (σ' + 1) := by rw [← es2]; exact g2'
      rw [es2]
      exact go_sc hk hJ hJ' (t := ⟨j, true, guarding, ended, false, left, ws⟩) g2 g3 (by simp [hn, Sm.set, Sm.note]) rfl
    · simp only [Bool.not_true, Bool.false_eq_true, if_false]
      exact go_sc hk hJ hJ' (σ := σ) (σ' := σ') g.weak g'.weak ht rfl
  · simp only [if_true]
    have g1 : Good jobs (s.set n ⟨j, begun, guarding, ended, false, left, ws⟩) [(n : Int)] M (σ + 2) := g.upd ht rfl rfl ⟨⟨j, rfl, hj2⟩, k2, k3⟩ (Nat.le_refl _)
    have g1' : Good (jobs.map (scJ k)) ((scS k s).set n ⟨j, begun, guarding, ended, false, left.map (scA k), ws⟩) [(n : Int)] M' (σ' + 2) := g'.upd e rfl rfl ⟨hja, k2', k3'⟩ (Nat.le_refl _)
    have ht1 : (s.set n ⟨j, begun, guarding, ended, false, left, ws⟩).tasks[n]? = some ⟨j, begun, guarding, ended, false, left, ws⟩ := by simp [Sm.set, hn]
    have hn' := lt_of_get e
    have ht1' : ((scS k s).set n ⟨j, begun, guarding, ended, false, left.map (scA k), ws⟩).tasks[n]? = some ⟨j, begun, guarding, ended, false, left.map (scA k), ws⟩ := by simp [Sm.set, hn']
    have es1 : ((scS k s).set n ⟨j, begun, guarding, ended, false, left.map (scA k), ws⟩).note n 4 0 = scS k ((s.set n ⟨j, begun, guarding, ended, false, left, ws⟩).note n 4 0) := by rw [es, scS_note]
    split
    · have g3 : Good (jobs.map (scJ k)) (scS k ((s.set n ⟨j, begun, guarding, ended, false, left, ws⟩).note n 4 0)) [(n : Int)] M' (σ' + 1) := by rw [← es1]; exact g1'.note n 4 0
      rw [es1]
      exact end_sc (σ := σ) (σ' := σ') (g1.note n 4 0) g3 ht1
    · rename_i hc
      have hg : guarding = false := by simp at hc; exact hc.2
      obtain ⟨q1, q2⟩ := hJ.guard j hj2
      obtain ⟨q1', q2'⟩ := hJ'.guard j (by simpa using hj2)
      simp only [List.getElem_map] at q1' q2'
      rw [hjd, hjd']
      have g2 := (g1.note n 4 0).upd (t' := ⟨j, begun, true, ended, false, jobs[j].guard, ws⟩) ht1 rfl rfl ⟨⟨j, rfl, hj2⟩, q1, q2⟩ (by simp [wk, hg]; omega)
      have g2' := (g1'.note n 4 0).upd (t' := ⟨j, begun, true, ended, false, (scJ k jobs[j]).guard, ws⟩) ht1' rfl rfl ⟨hja, q1', q2'⟩ (by simp [wk, hg]; omega)
      have es2 : (((scS k s).set n ⟨j, begun, guarding, ended, false, left.map (scA k), ws⟩).note n 4 0).set n ⟨j, begun, true, ended, false, (scJ k jobs[j]).guard, ws⟩ = scS k (((s.set n ⟨j, begun, guarding, ended, false, left, ws⟩).note n 4 0).set n ⟨j, begun, true, ended, false, jobs[j].guard, ws⟩) := by
        rw [es1]; exact es _ _ _ _ _ _
      have g3 : Good (jobs.map (scJ k)) (scS k (((s.set n ⟨j, begun, guarding, ended, false, left, ws⟩).note n 4 0).set n ⟨j, begun, true, ended, false, jobs[j].guard, ws⟩)) [(n : Int)] M' (σ' + 1) := by rw [← es2]; exact g2'
      rw [es2]
      exact go_sc hk hJ hJ' (t := ⟨j, begun, true, ended, false, jobs[j].guard, ws⟩) g2 g3 (by simp [hn, Sm.set, Sm.note]) rfl
theorem simF_sc (hk : 0 < k) (hJ : Jok jobs) (hJ' : Jok (jobs.map (scJ k))) : ∀ {f : Nat} {s : Sm} {M M' : Nat}, Good jobs s [] M 0 → Good (jobs.map (scJ k)) (scS k s) [] M' 0 → simF (jobs.map (scJ k)) f (scS k s) = (simF jobs f s).map (scR k)
  | 0, s, M, M', g, g' => rfl
  | f + 1, s, M, M', g, g' => by
    rw [simF, simF]
    have e := next_sc hk g.v (by have := g'.v; exact this)
    have e' : nextM (scS k s).ck = (scC k (nextM s.ck).1, (nextM s.ck).2) := e
    rw [e']
    rcases next_spec g.v with ⟨_, hn⟩ | ⟨m, _, _, c', _, hn, _⟩
    · rw [hn, if_neg (show ¬ (10 : Int) = 0 by decide), if_neg (show ¬ (10 : Int) = 0 by decide)]
      rfl
    · rw [hn, if_pos rfl, if_pos rfl]
      rw [hn] at e'
      obtain ⟨p1, p2, _⟩ := g.pop hn
      obtain ⟨p1', p2', _⟩ := g'.pop e'
      obtain ⟨i, rfl, hi⟩ := alive_lt (p2.pl.al m (by simp))
      obtain ⟨M2, m1, m2⟩ := p2.weak.proceed (n := i) hJ
      obtain ⟨M2', m1', m2'⟩ := p2'.weak.proceed (n := i) hJ'
      have q := proceed_sc hk hJ hJ' (n := i) (σ := 0) (σ' := 0) p2.weak (by rw [← scS_put]; exact p2'.weak)
      simp only [Int.toNat_natCast]
      rw [scS_put, q]
      rw [scS_put, q] at m2'
      exact simF_sc hk hJ hJ' m2 m2'
theorem simM_sc (hk : 0 < k) (hJ : Jok jobs) (hJ' : Jok (jobs.map (scJ k))) : simM (jobs.map (scJ k)) = (simM jobs).map (scR k) := by
  have e : init (jobs.map (scJ k)) = scS k (init jobs) := by
    have := hJ.ne
    simp [init, scS, scK, List.getD, this, scJ]
  have g' := init_good hJ'
  rw [e] at g'
  rw [simM, simM, e]
  exact simF_sc hk hJ hJ' (init_good hJ) g'
end
end Go.Proofs.Ytgiebofmfkacgaa
namespace Go.Proofs.Ytgiebofmfkacgaa
open Go.RowKit
section
variable {P : Program} {ops : Array Oper} {Q : Exit → Act → World → Prop} {md : Region.Mode} {S S' S1 S1' : World → Prop} {late free : List Nat}
/-- Whatever order is picked; S holds behind operations that are neither late nor free; S1 behind all. -/
def wpAnyX (P : Program) (md : Region.Mode) (ops : Array Oper) (Q : Exit → Act → World → Prop) (S S1 : World → Prop) (late free : List Nat) : Nat → Array Bool → Act → World → Prop
  | 0, listed, a, w => Region.ready md ops listed = [] ∧ Q .normal a w
  | fuel + 1, listed, a, w =>
    (Region.ready md ops listed = [] → Q .normal a w) ∧
    ∀ i ∈ Region.ready md ops listed, wpOp P ops Q i (fun a' w' => (((free.contains i = true → w' = w) ∧ (late.contains i = false → free.contains i = false → S w')) ∧ S1 w') ∧ wpAnyX P md ops Q S S1 late free fuel (listed.setIfInBounds i true) a' w') a w
theorem wpAny_of_X : ∀ (fuel : Nat) (listed : Array Bool) (a : Act) (w : World), wpAnyX P md ops Q S S1 late free fuel listed a w → wpAny P md ops Q fuel listed a w
  | 0, _, _, _, h => h
  | fuel + 1, _, _, _, h => ⟨h.1, fun i hi => wpOp_mono (fun a' w' h' => wpAny_of_X fuel _ a' w' h'.2) (h.2 i hi)⟩
theorem wpAnyX_mono (hS : ∀ w, S' w → S w) (hS1 : ∀ w, S1' w → S1 w) : ∀ (fuel : Nat) (listed : Array Bool) (a : Act) (w : World), wpAnyX P md ops Q S' S1' late free fuel listed a w → wpAnyX P md ops Q S S1 late free fuel listed a w
  | 0, _, _, _, h => h
  | fuel + 1, _, _, _, h => ⟨h.1, fun i hi => wpOp_mono (fun a' w' h' => ⟨⟨⟨h'.1.1.1, fun hl hf => hS w' (h'.1.1.2 hl hf)⟩, hS1 w' h'.1.2⟩, wpAnyX_mono hS hS1 fuel _ a' w' h'.2⟩) (h.2 i hi)⟩
theorem wpAnyX_first {i : Nat} {oi : Oper} {v : Value} (hi : ops[i]? = some oi) (hsel : ∀ (j : Nat) (o : Oper) cs b, ops[j]? = some o → o.op ≠ .select cs b)
    (hQ : ∀ c a w, Q (.panic c) (a.put oi.dst v) w → Q (.panic c) a w) {n : Nat} (hlate : ∀ j, late.contains j = true → waits md ops n j i = true) :
    ∀ (fuel : Nat) (listed : Array Bool) (a : Act) (w : World), DC md ops listed →
      (∀ j oj, ops[j]? = some oj → j ≠ i → listed.getD j true = false → (∀ e ∈ oj.after, Region.binds md e = true → e.on ≠ i) → oi.apart ops oj = true) →
      i ∈ Region.ready md ops listed → YieldsIf P ops S oi v a → S w → S1 w →
      wpAnyX P md ops Q S S1 late free fuel (listed.setIfInBounds i true) (a.put oi.dst v) w → wpAnyX P md ops Q S S1 late free (fuel + 1) listed a w := by
  intro fuel
  induction fuel with
  | zero =>
    intro listed a w _ _ hr hy hS hS1 H
    refine ⟨fun h => (by rw [h] at hr; cases hr), fun j hj => ?_⟩
    by_cases hji : j = i
    · subst hji; exact hy.wpOp hi hS ⟨⟨⟨fun _ => rfl, fun _ _ => hS⟩, hS1⟩, H⟩
    · have := ready_mono hj hji
      rw [H.1] at this
      cases this
  | succ fuel ih =>
    intro listed a w hdc hfree hr hy hS hS1 H
    refine ⟨fun h => (by rw [h] at hr; cases hr), fun j hj => ?_⟩
    by_cases hji : j = i
    · subst hji; exact hy.wpOp hi hS ⟨⟨⟨fun _ => rfl, fun _ _ => hS⟩, hS1⟩, H⟩
    · have h1 := H.2 j (ready_mono hj hji)
      obtain ⟨hjun, oj, hoj, hall⟩ := mem_ready.1 hj
      have hiun : listed.getD i false ≠ true := fun h' => by
        have h0 := (mem_ready.1 hr).1
        rcases Nat.lt_or_ge i listed.size with h2 | h2
        · simp [h2] at h0 h'; rw [h0] at h'; cases h'
        · simp [Array.getElem?_eq_none h2] at h'
      have hnl : late.contains j = false := by
        cases hc : late.contains j
        · rfl
        · exact absurd (waits_listed hdc n j oj hoj hall (hlate j hc)) hiun
      have hnot : ∀ e ∈ oj.after, Region.binds md e = true → e.on ≠ i := fun e he hb heq => hiun (heq ▸ hall e he hb)
      have h2 := wpOp_putIf hoj (hfree j oj hoj hji hjun hnot) (fun cs b => hsel i oi cs b hi) (fun cs b => hsel j oj cs b hoj) hQ hy h1
      have hfree' : ∀ k ok, ops[k]? = some ok → k ≠ i → (listed.setIfInBounds j true).getD k true = false →
          (∀ e ∈ ok.after, Region.binds md e = true → e.on ≠ i) → oi.apart ops ok = true := fun k ok hk hki hun hno => by
        refine hfree k ok hk hki ?_ hno
        by_cases hjk : j = k
        · subst hjk; exact hjun
        · rw [getD_set_ne true hjk] at hun; exact hun
      have hSw : ∀ w', ((free.contains j = true → w' = w) ∧ (late.contains j = false → free.contains j = false → S w')) → S w' := fun w' hg => by
        cases hfr : free.contains j
        · exact hg.2 hnl hfr
        · rw [hg.1 hfr]; exact hS
      refine wpOp_mono (fun a' w' h3 => ⟨h3.2.1, ih (listed.setIfInBounds j true) a' w' (hdc.set hoj hall) hfree' (ready_mono hr (Ne.symm hji)) h3.1 (hSw w' h3.2.1.1) h3.2.1.2 ?_⟩) h2
      rw [Array.setIfInBounds_comm _ _ hji]
      exact h3.2.2
theorem wpAnyX_free {i : Nat} {oi : Oper} {v : Value} (hi : ops[i]? = some oi) (hsel : ∀ (j : Nat) (o : Oper) cs b, ops[j]? = some o → o.op ≠ .select cs b)
    (hQ : ∀ c a w, Q (.panic c) (a.put oi.dst v) w → Q (.panic c) a w) (hfi : free.contains i = true) :
    ∀ (fuel : Nat) (listed : Array Bool) (a : Act) (w : World), DC md ops listed →
      (∀ j oj, ops[j]? = some oj → j ≠ i → listed.getD j true = false → (∀ e ∈ oj.after, Region.binds md e = true → e.on ≠ i) → oi.apart ops oj = true) →
      i ∈ Region.ready md ops listed → YieldsIf P ops S1 oi v a → S1 w →
      wpAnyX P md ops Q S S1 late free fuel (listed.setIfInBounds i true) (a.put oi.dst v) w → wpAnyX P md ops Q S S1 late free (fuel + 1) listed a w := by
  intro fuel
  induction fuel with
  | zero =>
    intro listed a w _ _ hr hy hS1 H
    refine ⟨fun h => (by rw [h] at hr; cases hr), fun j hj => ?_⟩
    by_cases hji : j = i
    · subst hji; exact hy.wpOp hi hS1 ⟨⟨⟨fun _ => rfl, fun _ hf => by rw [hfi] at hf; cases hf⟩, hS1⟩, H⟩
    · have := ready_mono hj hji
      rw [H.1] at this
      cases this
  | succ fuel ih =>
    intro listed a w hdc hfree hr hy hS1 H
    refine ⟨fun h => (by rw [h] at hr; cases hr), fun j hj => ?_⟩
    by_cases hji : j = i
    · subst hji; exact hy.wpOp hi hS1 ⟨⟨⟨fun _ => rfl, fun _ hf => by rw [hfi] at hf; cases hf⟩, hS1⟩, H⟩
    · have h1 := H.2 j (ready_mono hj hji)
      obtain ⟨hjun, oj, hoj, hall⟩ := mem_ready.1 hj
      have hiun : listed.getD i false ≠ true := fun h' => by
        have h0 := (mem_ready.1 hr).1
        rcases Nat.lt_or_ge i listed.size with h2 | h2
        · simp [h2] at h0 h'; rw [h0] at h'; cases h'
        · simp [Array.getElem?_eq_none h2] at h'
      have hnot : ∀ e ∈ oj.after, Region.binds md e = true → e.on ≠ i := fun e he hb heq => hiun (heq ▸ hall e he hb)
      have h2 := wpOp_putIf hoj (hfree j oj hoj hji hjun hnot) (fun cs b => hsel i oi cs b hi) (fun cs b => hsel j oj cs b hoj) hQ hy h1
      have hfree' : ∀ k ok, ops[k]? = some ok → k ≠ i → (listed.setIfInBounds j true).getD k true = false →
          (∀ e ∈ ok.after, Region.binds md e = true → e.on ≠ i) → oi.apart ops ok = true := fun k ok hk hki hun hno => by
        refine hfree k ok hk hki ?_ hno
        by_cases hjk : j = k
        · subst hjk; exact hjun
        · rw [getD_set_ne true hjk] at hun; exact hun
      refine wpOp_mono (fun a' w' h3 => ⟨h3.2.1, ih (listed.setIfInBounds j true) a' w' (hdc.set hoj hall) hfree' (ready_mono hr (Ne.symm hji)) h3.1 h3.2.1.2 ?_⟩) h2
      rw [Array.setIfInBounds_comm _ _ hji]
      exact h3.2.2
end
section
variable (P : Program) (T : List (Nat × Ty)) (nt : Nat)
/-- An operation that yields whatever becomes of own objects. -/
def vcYF (o : Oper) (tm : List (Nat × SV)) (ob : List (Nat × Ob)) (K : Kt) : Prop := match vcY P T o.op tm [] (fun s => putT nt o.dst s tm ob K) with
  | some p => p
  | none => False
def vcYS (fr : Bool) (o : Oper) (tm : List (Nat × SV)) (ob : List (Nat × Ob)) (K : Kt) : Prop := match fr with
  | true => vcYF P T nt o tm ob K
  | false => vcYP P T nt o tm ob K
def vcRF (late free : List Nat) (ops : Array Oper) (K : Kt) : List (Nat × Bool) → Kt
  | [], tm, ob => K tm ob
  | (i, y) :: r, tm, ob => match nth ops.toList i with
    | none => False
    | some o => match o.guard with
      | none => match y with
        | true => vcYS P T nt (free.contains i) o tm ob (vcRF late free ops K r)
        | false => vcOpK P T nt (!late.contains i) o tm ob (vcRF late free ops K r)
      | some (j, want) => match gdT ops j with
        | none => False
        | some t => match lk t tm with
          | some (.d (.u (.bool b))) => match y with
            | true => match want with
              | true => Brn b (vcYS P T nt (free.contains i) o tm ob (vcRF late free ops K r)) (skipT nt o.dst tm ob (vcRF late free ops K r))
              | false => Brn b (skipT nt o.dst tm ob (vcRF late free ops K r)) (vcYS P T nt (free.contains i) o tm ob (vcRF late free ops K r))
            | false => match want with
              | true => Brn b (vcOpK P T nt (!late.contains i) o tm ob (vcRF late free ops K r)) (skipT nt o.dst tm ob (vcRF late free ops K r))
              | false => Brn b (skipT nt o.dst tm ob (vcRF late free ops K r)) (vcOpK P T nt (!late.contains i) o tm ob (vcRF late free ops K r))
          | some (.t []) => skipT nt o.dst tm ob (vcRF late free ops K r)
          | _ => False
end
def ordOkF (ops : Array Oper) (late free : List Nat) : Array Bool → List (Nat × Bool) → Bool
  | listed, [] => Region.ready .any ops listed == []
  | listed, (i, true) :: r => (bif free.contains i then regOk ops listed [] i else regOk ops listed late i) && (dstAt ops i && ordOkF ops late free (listed.setIfInBounds i true) r)
  | listed, (i, false) :: r => (Region.ready .any ops listed == [i]) && ((bif late.contains i then allLate late r && (List.range ops.size).all (fun j => listed.getD j true || (late.contains j && !free.contains j)) else keepAt ops i && !free.contains i) && ordOkF ops late free (listed.setIfInBounds i true) r)
section
variable {P : Program} {T : List (Nat × Ty)} [hT : Tys P T] {nt : Nat} {ops : Array Oper} {Q : Exit → Act → World → Prop} {late free : List Nat} {c : Cx} {K : Kt}
/-- What stays in a step, seen from the step's own start. -/
theorem Gd.recx {st : St} {tm : List (Nat × Value)} {h : Hs} {ρ : Rho} {G : FG} (g : Gd c st tm h ρ G) : Gd ⟨h.F, h.w0, G⟩ st tm h ρ G := ⟨fun _ h => h, Same.refl _ _, g.gF, fun _ h => .inl h, .refl _, g.tm, g.ob⟩
theorem Gd.back {st st' : St} {tm tm' : List (Nat × Value)} {h h' : Hs} {ρ ρ' : Rho} {G G' : FG} (g : Gd c st tm h ρ G) (g' : Gd ⟨h.F, h.w0, G⟩ st' tm' h' ρ' G') : Gd c st' tm' h' ρ' G' :=
  ⟨fun b hb => g'.fF b (g.fF b hb), g.fw.trans (g'.fw.mono g.fF), g'.gF, fun b hb => (g'.gx b hb).elim (g.gx b) fun q => .inr fun h0 => q (g.fF b h0), g.fm.trans g'.fm, g'.tm, g'.ob⟩
abbrev Frn (h : Hs) (w : World) : Prop := Hp ⟨h.F, h.w0, []⟩ w
theorem Hp.frn {h : Hs} {w : World} (hw : Hp h w) : Frn h w := ⟨hw.same, hw.inF, fun b x hx => (by cases hx), (by simp), fun b x hx => (by cases hx)⟩
theorem Frn.back {st' : St} {tm' : List (Nat × Value)} {h h' : Hs} {ρ' : Rho} {G G' : FG} {w0 w : World} (h0 : Hp h w0) (g' : Gd ⟨h.F, h.w0, G⟩ st' tm' h' ρ' G') (hw : Frn h' w) : Frn h w :=
  ⟨g'.fw.trans (hw.same.mono g'.fF), h0.inF, fun b x hx => (by cases hx), (by simp), fun b x hx => (by cases hx)⟩
omit hT in
theorem vcRF_split {i : Nat} {y : Bool} {r : List (Nat × Bool)} {o : Oper} {tm : List (Nat × SV)} {ob : List (Nat × Ob)} (ho : ops[i]? = some o) (k : vcRF P T nt late free ops K ((i, y) :: r) tm ob) :
    (match o.guard with
      | none => (match y with | true => vcYS P T nt (free.contains i) o tm ob (vcRF P T nt late free ops K r) | false => vcOpK P T nt (!late.contains i) o tm ob (vcRF P T nt late free ops K r))
      | some (j, want) => match gdT ops j with
        | none => False
        | some t => match lk t tm with
          | some (.d (.u (.bool b))) => match want with
            | true => Brn b (match y with | true => vcYS P T nt (free.contains i) o tm ob (vcRF P T nt late free ops K r) | false => vcOpK P T nt (!late.contains i) o tm ob (vcRF P T nt late free ops K r)) (skipT nt o.dst tm ob (vcRF P T nt late free ops K r))
            | false => Brn b (skipT nt o.dst tm ob (vcRF P T nt late free ops K r)) (match y with | true => vcYS P T nt (free.contains i) o tm ob (vcRF P T nt late free ops K r) | false => vcOpK P T nt (!late.contains i) o tm ob (vcRF P T nt late free ops K r))
          | some (.t []) => skipT nt o.dst tm ob (vcRF P T nt late free ops K r)
          | _ => False) := by
  have hn : nth ops.toList i = some o := by rw [nth_eq]; simpa using ho
  simp only [vcRF, hn] at k
  cases y <;> exact k
theorem vcRF_tail (hK : ∀ st tm h ρ G, Gd c st tm h ρ G → K st.tm st.ob → AWq nt Q .normal tm h) : ∀ (r : List (Nat × Bool)) (listed : Array Bool) (fuel : Nat) (S : World → Prop) (st : St) (tm : List (Nat × Value)) (h : Hs) (ρ : Rho) (G : FG), r.length ≤ fuel → allLate late r = true → ordOkF ops late free listed r = true → (∀ j, listed.getD j true = false → late.contains j = true ∧ free.contains j = false) → Gd c st tm h ρ G → vcRF P T nt late free ops K r st.tm st.ob →
    ∀ (a : Act) (w : World), Slt nt tm a → Hp h w → wpAnyX P .any ops Q S (Frn h) late free fuel listed a w
  | [], listed, fuel, S, st, tm, h, ρ, G, _, _, ho, _, g, k, a, w, ha, hw => by
    have hr : Region.ready .any ops listed = [] := by simpa [ordOkF] using ho
    have hq := (hK st tm h ρ G g k).out a w ha hw
    cases fuel with
    | zero => exact ⟨hr, hq⟩
    | succ n => exact ⟨fun _ => hq, by rw [hr]; simp⟩
  | (i, true) :: r, listed, fuel, S, st, tm, h, ρ, G, _, hl, ho, _, g, k, a, w, ha, hw => by simp [allLate] at hl
  | (i, false) :: r, listed, 0, S, st, tm, h, ρ, G, hf, hl, ho, _, g, k, a, w, ha, hw => by simp at hf
  | (i, false) :: r, listed, fuel + 1, S, st, tm, h, ρ, G, hf, hl, ho, hlt, g, k, a, w, ha, hw => by
    simp only [ordOkF, Bool.and_eq_true] at ho
    simp only [allLate, Bool.and_eq_true] at hl
    have hr : Region.ready .any ops listed = [i] := eq_of_beq ho.1
    refine ⟨fun h' => (by rw [hr] at h'; cases h'), fun j hj => ?_⟩
    have hj' := hj
    rw [hr] at hj
    obtain rfl : j = i := by simpa using hj
    obtain ⟨hun, o, hoj, _⟩ := mem_ready.1 hj'
    obtain ⟨lt1, lt2⟩ := hlt j hun
    have hlt' : ∀ q, (listed.setIfInBounds j true).getD q true = false → late.contains q = true ∧ free.contains q = false := fun q hq => hlt q (by
      by_cases hjq : j = q
      · subst hjq; exact hun
      · rw [getD_set_ne true hjq] at hq; exact hq)
    have ih : ∀ tm' h', Kd ⟨h.F, h.w0, G⟩ (vcRF P T nt late free ops K r) tm' h' → ∀ (a : Act) (w' : World), Slt nt tm' a → Hp h' w' → (((free.contains j = true → w' = w) ∧ (late.contains j = false → free.contains j = false → S w')) ∧ Frn h w') ∧ wpAnyX P .any ops Q S (Frn h) late free fuel (listed.setIfInBounds j true) a w' :=
      fun tm' h' ⟨st', ρ', G', h2, hh, g', k'⟩ a w' ha hw' => ⟨⟨⟨fun hn => (by rw [lt2] at hn; cases hn), fun hn => (by rw [lt1] at hn; cases hn)⟩, Frn.back hw g' (hh w' hw').frn⟩, wpAnyX_mono (fun _ h => h) (fun w2 hw2 => Frn.back hw g' hw2) _ _ _ _ (vcRF_tail hK r _ fuel S st' tm' h2 ρ' G' (by simp at hf; omega) hl.2 ho.2.2 hlt' (g.back g') k' a w' ha (hh w' hw'))⟩
    unfold wpOp
    simp only [hoj]
    obtain ⟨d, op, ty, pos, af, gu⟩ := o
    rcases vcR_guard (X := vcRF P T nt late free ops K r) (i := j) g a ha (vcRF_split hoj k) with ⟨hw1, k1⟩ | ⟨hw1, k1⟩
    · rw [if_pos hw1]
      refine .inl (Oper.wp_mono ?_ ((vcOpK_sound (P := P) (T := T) (Q := Q) g.recx k1).out a w ha hw))
      rintro a' w' ⟨tm', h', h1, h2, h3⟩
      exact ih tm' h' h3 a' w' h1 h2
    · rw [if_neg (by rw [hw1]; simp)]
      cases d with
      | none =>
        have q := ih tm h (.of g.recx k1) a w ha hw
        exact ⟨⟨⟨fun _ => trivial, q.1.1.2⟩, q.1.2⟩, q.2⟩
      | some d =>
        simp only [skipT] at k1
        cases hd : Nat.blt d nt
        · rw [hd] at k1; exact k1.elim
        · rw [hd] at k1
          have q := ih _ h (.of (g.recx.put (.t (vs := []) rfl (by simp))) k1) _ w (ha.put (by simpa using hd) undef) hw
          exact ⟨⟨⟨fun _ => trivial, q.1.1.2⟩, q.1.2⟩, q.2⟩
theorem vcRF_sound [q : PanicOk Q] (hK : ∀ st tm h ρ G, Gd c st tm h ρ G → K st.tm st.ob → AWq nt Q .normal tm h) : ∀ (r : List (Nat × Bool)) (listed : Array Bool) (fuel : Nat) (st : St) (tm : List (Nat × Value)) (h : Hs) (ρ : Rho) (G : FG), r.length ≤ fuel → ordOkF ops late free listed r = true → DC .any ops listed → listed.size = ops.size → Gd c st tm h ρ G → vcRF P T nt late free ops K r st.tm st.ob →
    ∀ (a : Act) (w : World), Slt nt tm a → Hp h w → wpAnyX P .any ops Q (Hp h) (Frn h) late free fuel listed a w
  | [], listed, fuel, st, tm, h, ρ, G, _, ho, _, _, g, k, a, w, ha, hw => by
    have hr : Region.ready .any ops listed = [] := by simpa [ordOkF] using ho
    have hq := (hK st tm h ρ G g k).out a w ha hw
    cases fuel with
    | zero => exact ⟨hr, hq⟩
    | succ n => exact ⟨fun _ => hq, by rw [hr]; simp⟩
  | (i, y) :: r, listed, 0, st, tm, h, ρ, G, hf, ho, _, _, g, k, a, w, ha, hw => by simp at hf
  | (i, true) :: r, listed, fuel + 1, st, tm, h, ρ, G, hf, ho, hdc, hsz, g, k, a, w, ha, hw => by
    simp only [ordOkF, Bool.and_eq_true] at ho
    obtain ⟨hB, hds, ho⟩ := ho
    have hB' : Region.noSelect ops = true ∧ Region.free .any ops listed i = true ∧ (Region.ready .any ops listed).contains i = true ∧ (free.contains i = true ∨ (free.contains i = false ∧ ∀ j, late.contains j = true → waits .any ops ops.size j i = true)) := by
      cases hfr : free.contains i
      · rw [hfr] at hB
        simp only [cond_false, regOk, Bool.and_eq_true] at hB
        obtain ⟨b1, b2, b3, b4⟩ := hB
        exact ⟨b1, b2, b3, .inr ⟨rfl, fun j hj => List.all_eq_true.1 b4 j (by simpa using hj)⟩⟩
      · rw [hfr] at hB
        simp only [cond_true, regOk, Bool.and_eq_true] at hB
        exact ⟨hB.1, hB.2.1, hB.2.2.1, .inl rfl⟩
    obtain ⟨b1, b2, b3, b4⟩ := hB'
    have hr' : i ∈ Region.ready .any ops listed := by simpa using b3
    obtain ⟨_, o, hoj, hdep⟩ := mem_ready.1 hr'
    have hdc' := hdc.set hoj hdep
    have hsz' : (listed.setIfInBounds i true).size = ops.size := by simp [hsz]
    have hdd : ∃ d, o.dst = some d := by
      simp only [dstAt, hoj] at hds
      exact Option.isSome_iff_exists.1 hds
    obtain ⟨d0, hd0⟩ := hdd
    have hf' : r.length ≤ fuel := by simp at hf; omega
    obtain ⟨d, op, ty, pos, af, gu⟩ := o
    simp only at hd0
    subst hd0
    rcases vcR_guard (X := vcRF P T nt late free ops K r) (i := i) g a ha (vcRF_split hoj k) with ⟨hw1, k1⟩ | ⟨hw1, k1⟩
    · rcases b4 with hfr | ⟨hfr, hlate⟩
      · rw [hfr] at k1
        simp only [vcYS, vcYF] at k1
        cases hy : vcY P T op st.tm [] (fun s => putT nt (some d0) s st.tm st.ob (vcRF P T nt late free ops K r)) with
        | none => simp only [hy] at k1
        | some p =>
          simp only [hy] at k1
          have g0 : Gd c ⟨st.tm, []⟩ tm ⟨h.F, h.w0, []⟩ ρ G := ⟨g.fF, g.fw, g.gF, g.gx, g.fm, g.tm, rfl⟩
          obtain ⟨s, v, q1, q2, q3⟩ := vcY_sound g0 hy k1 (P := P) (nt := nt) (ty := ty) (pos := pos) (af := af) (gd := gu) (d := some d0)
          simp only [putT] at q3
          cases hd : Nat.blt d0 nt
          · rw [hd] at q3; exact q3.elim
          · rw [hd] at q3
            have hrest := vcRF_sound hK r _ fuel _ _ h ρ G hf' ho hdc' hsz' (g.put (d := d0) q2) q3 _ w (ha.put (by simpa using hd) v) hw
            exact wpAnyX_free hoj (Region.noSelect_spec b1) (fun c a w hq => q.ok c a _ _ w hq) hfr fuel listed a w hdc (Region.free_spec hoj b2) hr' (.inl ⟨hw1, fun w' hw' => q1.out a w' ha hw'⟩) hw.frn hrest
      · rw [hfr] at k1
        simp only [vcYS, vcYP] at k1
        cases hy : vcY P T op st.tm st.ob (fun s => putT nt (some d0) s st.tm st.ob (vcRF P T nt late free ops K r)) with
        | none => simp only [hy] at k1
        | some p =>
          simp only [hy] at k1
          obtain ⟨s, v, q1, q2, q3⟩ := vcY_sound g hy k1 (P := P) (nt := nt) (ty := ty) (pos := pos) (af := af) (gd := gu) (d := some d0)
          simp only [putT] at q3
          cases hd : Nat.blt d0 nt
          · rw [hd] at q3; exact q3.elim
          · rw [hd] at q3
            have hrest := vcRF_sound hK r _ fuel _ _ h ρ G hf' ho hdc' hsz' (g.put (d := d0) q2) q3 _ w (ha.put (by simpa using hd) v) hw
            exact wpAnyX_first hoj (Region.noSelect_spec b1) (fun c a w hq => q.ok c a _ _ w hq) (n := ops.size) hlate fuel listed a w hdc (Region.free_spec hoj b2) hr' (.inl ⟨hw1, fun w hw => q1.out a w ha hw⟩) hw hw.frn hrest
    · simp only [skipT] at k1
      cases hd : Nat.blt d0 nt
      · rw [hd] at k1; exact k1.elim
      · rw [hd] at k1
        have hrest := vcRF_sound hK r _ fuel _ _ h ρ G hf' ho hdc' hsz' (g.put (d := d0) (.t (vs := []) rfl (by simp))) k1 _ w (ha.put (by simpa using hd) undef) hw
        rcases b4 with hfr | ⟨_, hlate⟩
        · exact wpAnyX_free hoj (Region.noSelect_spec b1) (fun c a w hq => q.ok c a _ _ w hq) hfr fuel listed a w hdc (Region.free_spec hoj b2) hr' (.inr ⟨hw1, rfl⟩) hw.frn hrest
        · exact wpAnyX_first hoj (Region.noSelect_spec b1) (fun c a w hq => q.ok c a _ _ w hq) (n := ops.size) hlate fuel listed a w hdc (Region.free_spec hoj b2) hr' (.inr ⟨hw1, rfl⟩) hw hw.frn hrest
  | (i, false) :: r, listed, fuel + 1, st, tm, h, ρ, G, hf, ho, hdc, hsz, g, k, a, w, ha, hw => by
    have ho0 := ho
    simp only [ordOkF, Bool.and_eq_true] at ho
    have hr : Region.ready .any ops listed = [i] := eq_of_beq ho.1
    have hf' : r.length ≤ fuel := by simp at hf; omega
    cases hc : late.contains i
    · rw [hc] at ho
      simp only [cond_false] at ho
      refine ⟨fun h' => (by rw [hr] at h'; cases h'), fun j hj => ?_⟩
      have hj' := hj
      rw [hr] at hj
      obtain rfl : j = i := by simpa using hj
      obtain ⟨_, o, hoj, hdep⟩ := mem_ready.1 hj'
      simp only [Bool.and_eq_true, Bool.not_eq_true'] at ho
      have hkp : keepT o.op = true := by have := ho.2.1.1; simpa only [keepAt, hoj] using this
      have hnf : free.contains j = false := ho.2.1.2
      have hg : ∀ w', Hp h w' → ((free.contains j = true → w' = w) ∧ (late.contains j = false → free.contains j = false → Hp h w')) ∧ Frn h w' := fun w' hw' => ⟨⟨fun hf => absurd hf (by rw [hnf]; simp), fun _ _ => hw'⟩, hw'.frn⟩
      have hdc' := hdc.set hoj hdep
      have hsz' : (listed.setIfInBounds j true).size = ops.size := by simp [hsz]
      unfold wpOp
      simp only [hoj]
      obtain ⟨d, op, ty, pos, af, gu⟩ := o
      rcases vcR_guard (X := vcRF P T nt late free ops K r) (i := j) g a ha (vcRF_split hoj k) with ⟨hw1, k1⟩ | ⟨hw1, k1⟩
      · rw [if_pos hw1]
        refine .inl (Oper.wp_mono ?_ ((vcOpK_keep (P := P) (T := T) (Q := Q) hkp g.recx (by simp only [hc, Bool.not_false] at k1; exact k1)).out a w ha hw))
        rintro a' w' ⟨tm', h', h1, h2, st', ρ', G', h3, hh, hkeep, g', k'⟩
        exact ⟨hg w' (hkeep w' (hh w' h2)), wpAnyX_mono hkeep (fun w2 hw2 => Frn.back hw g' hw2) _ _ _ _ (vcRF_sound hK r _ fuel st' tm' h3 ρ' G' hf' ho.2.2 hdc' hsz' (g.back g') k' a' w' h1 (hh w' h2))⟩
      · rw [if_neg (by rw [hw1]; simp)]
        cases d with
        | none => exact ⟨⟨⟨fun _ => trivial, (hg w hw).1.2⟩, (hg w hw).2⟩, vcRF_sound hK r _ fuel st tm h ρ G hf' ho.2.2 hdc' hsz' g k1 a w ha hw⟩
        | some d =>
          simp only [skipT] at k1
          cases hd : Nat.blt d nt
          · rw [hd] at k1; exact k1.elim
          · rw [hd] at k1
            exact ⟨⟨⟨fun _ => trivial, (hg w hw).1.2⟩, (hg w hw).2⟩, vcRF_sound hK r _ fuel _ _ h ρ G hf' ho.2.2 hdc' hsz' (g.put (d := d) (.t (vs := []) rfl (by simp))) k1 _ w (ha.put (by simpa using hd) undef) hw⟩
    · rw [hc] at ho
      simp only [cond_true, Bool.and_eq_true] at ho
      refine vcRF_tail hK _ listed (fuel + 1) _ st tm h ρ G hf (by simp only [allLate, Bool.and_eq_true]; exact ⟨⟨rfl, hc⟩, ho.2.1.1⟩) ho0 (fun j hj => ?_) g k a w ha hw
      have hjs : j < ops.size := by
        rcases Nat.lt_or_ge j listed.size with h' | h'
        · omega
        · simp [Array.getElem?_eq_none h'] at hj
      have := List.all_eq_true.1 ho.2.1.2 j (List.mem_range.2 hjs)
      simp only [hj, Bool.false_or, Bool.and_eq_true, Bool.not_eq_true'] at this
      exact this
/-- A region that draws, by an order; the free ones read frozen memory alone. -/
theorem Drw.ofF {i : Nat} {tmT : List (Nat × SV)} {ob : List (Nat × Ob)} (late free : List Nat) (r : List (Nat × Bool)) (ho : (Nat.ble r.length ops.size && ordOkF ops late free (Array.replicate ops.size false) r) = true) (k : vcRF P T nt late free ops K r tmT ob) : Drw P nt i ops K tmT ob :=
  ⟨fun c tm h ρ G g Q q hK => ⟨fun a w ha hw => wp_region_any hT.mo (wpAny_of_X (S := Hp h) (S1 := Frn h) (late := late) (free := free) _ _ _ _ (by
    simp only [Bool.and_eq_true, Nat.ble_eq] at ho
    exact vcRF_sound hK r _ _ ⟨tmT, ob⟩ tm h ρ G ho.1 ho.2 DC.start (by simp) g k a { w with drawn := w.drawn + 1 } ha (hw.drawn _)))⟩⟩
end
end Go.Proofs.Ytgiebofmfkacgaa

/-
  The layer of trees: regions that draw their order: first what reads frozen memory alone, then all orders of the rest. Of no program.
-/
namespace Go.Proofs.Ytgiebofmfkacgaa
open Go.RowKit
section
variable (P : Program) (T : List (Nat × Ty)) (nt : Nat)
def vcPf (ops : Array Oper) (K : Kt) (t : OT) : List Nat → Kt
  | [], tm, ob => vcOT P T nt ops K t tm ob
  | i :: r, tm, ob => match nth ops.toList i with
    | none => False
    | some o => match o.guard with
      | none => vcYF P T nt o tm ob (vcPf ops K t r)
      | some _ => False
end
def ordOkP (ops : Array Oper) (late free : List Nat) (t : OT) : Array Bool → List Nat → Bool
  | listed, [] => t.chk ops true listed && (List.range ops.size).all (fun j => listed.getD j true || (late.contains j && !free.contains j))
  | listed, i :: r => (free.contains i && regOk ops listed [] i) && (dstAt ops i && ordOkP ops late free t (listed.setIfInBounds i true) r)
section
variable {P : Program} {T : List (Nat × Ty)} [hT : Tys P T] {nt : Nat} {ops : Array Oper} {Q : Exit → Act → World → Prop} {late free : List Nat} {c : Cx} {K : Kt}
theorem vcOTX_sound (hK : ∀ st tm h ρ G, Gd c st tm h ρ G → K st.tm st.ob → AWq nt Q .normal tm h) : ∀ (t : OT) (listed : Array Bool) (fuel : Nat) (S : World → Prop) (st : St) (tm : List (Nat × Value)) (h : Hs) (ρ : Rho) (G : FG), t.depth ≤ fuel → (∀ j, listed.getD j true = false → late.contains j = true ∧ free.contains j = false) → Gd c st tm h ρ G → vcOT P T nt ops K t st.tm st.ob → ∀ (a : Act) (w : World), Slt nt tm a → Hp h w →
    (t.chk ops true listed = true → wpAnyX P .any ops Q S (Frn h) late free fuel listed a w) ∧ (∀ f, fuel = f + 1 → t.chk ops false listed = true → ∀ i ∈ t.heads, listed.getD i true = false → wpOp P ops Q i (fun a' w' => (((free.contains i = true → w' = w) ∧ (late.contains i = false → free.contains i = false → S w')) ∧ Frn h w') ∧ wpAnyX P .any ops Q S (Frn h) late free f (listed.setIfInBounds i true) a' w') a w)
  | .nil, listed, fuel, S, st, tm, h, ρ, G, hf, hlt, g, k, a, w, ha, hw => by
    refine ⟨fun hc => ?_, fun f _ _ i hi => by cases hi⟩
    have hr : Region.ready .any ops listed = [] := by simpa [OT.chk] using hc
    have hq := (hK st tm h ρ G g k).out a w ha hw
    cases fuel with
    | zero => exact ⟨hr, hq⟩
    | succ n => exact ⟨fun _ => hq, by rw [hr]; simp⟩
  | .alt i s r, listed, fuel, S, st, tm, h, ρ, G, hf, hlt, g, k, a, w, ha, hw => by
    obtain ⟨k1, k2⟩ := vcOT_alt k
    simp only [OT.depth] at hf
    have two : ∀ f, fuel = f + 1 → (OT.alt i s r).chk ops false listed = true → ∀ j ∈ (OT.alt i s r).heads, listed.getD j true = false → wpOp P ops Q j (fun a' w' => (((free.contains j = true → w' = w) ∧ (late.contains j = false → free.contains j = false → S w')) ∧ Frn h w') ∧ wpAnyX P .any ops Q S (Frn h) late free f (listed.setIfInBounds j true) a' w') a w := by
      intro f hfu hc j hj hun
      simp only [OT.chk, cond_false, Bool.true_and, Bool.and_eq_true] at hc
      rcases List.mem_cons.1 hj with rfl | hj
      · obtain ⟨lt1, lt2⟩ := hlt j hun
        have hlt' : ∀ q, (listed.setIfInBounds j true).getD q true = false → late.contains q = true ∧ free.contains q = false := fun q hq => hlt q (by
          by_cases hjq : j = q
          · subst hjq; exact hun
          · rw [getD_set_ne true hjq] at hq; exact hq)
        exact vcG_sound g.recx k1 (fun tm' h' ⟨st', ρ', G', h2, hh, g', k'⟩ a' w' ha' hw' => ⟨⟨⟨fun hn => (by rw [lt2] at hn; cases hn), fun hn => (by rw [lt1] at hn; cases hn)⟩, Frn.back hw g' (hh w' hw').frn⟩,
          wpAnyX_mono (fun _ h => h) (fun w2 hw2 => Frn.back hw g' hw2) _ _ _ _ ((vcOTX_sound hK s _ f S st' tm' h2 ρ' G' (by omega) hlt' (g.back g') k' a' w' ha' (hh w' hw')).1 hc.1)⟩) a w ha hw
      · have hne : r ≠ .nil := fun e => by subst e; cases hj
        exact (vcOTX_sound hK r listed fuel S st tm h ρ G (by omega) hlt g (k2 hne) a w ha hw).2 f hfu hc.2 j hj hun
    refine ⟨fun hc => ?_, two⟩
    simp only [OT.chk, cond_true, Bool.and_eq_true] at hc
    have hr : Region.ready .any ops listed = (OT.alt i s r).heads := eq_of_beq hc.1
    cases fuel with
    | zero => omega
    | succ n =>
      refine ⟨fun h' => (by rw [hr] at h'; cases h'), fun j hj => ?_⟩
      have hun := (mem_ready.1 hj).1
      rw [hr] at hj
      exact two n rfl (by simp only [OT.chk, cond_false, Bool.true_and, Bool.and_eq_true]; exact hc.2) j hj hun
theorem vcPf_sound [q : PanicOk Q] (hK : ∀ st tm h ρ G, Gd c st tm h ρ G → K st.tm st.ob → AWq nt Q .normal tm h) (t : OT) : ∀ (r : List Nat) (listed : Array Bool) (fuel : Nat) (st : St) (tm : List (Nat × Value)) (h : Hs) (ρ : Rho) (G : FG), r.length + t.depth ≤ fuel → ordOkP ops late free t listed r = true → DC .any ops listed → listed.size = ops.size → Gd c st tm h ρ G → vcPf P T nt ops K t r st.tm st.ob →
    ∀ (a : Act) (w : World), Slt nt tm a → Hp h w → wpAnyX P .any ops Q (Hp h) (Frn h) late free fuel listed a w
  | [], listed, fuel, st, tm, h, ρ, G, hf, ho, hdc, hsz, g, k, a, w, ha, hw => by
    simp only [ordOkP, Bool.and_eq_true] at ho
    refine (vcOTX_sound hK t listed fuel _ st tm h ρ G (by simpa using hf) (fun j hj => ?_) g k a w ha hw).1 ho.1
    have hjs : j < ops.size := by
      rcases Nat.lt_or_ge j listed.size with h' | h'
      · omega
      · simp [Array.getElem?_eq_none h'] at hj
    have := List.all_eq_true.1 ho.2 j (List.mem_range.2 hjs)
    simp only [hj, Bool.false_or, Bool.and_eq_true, Bool.not_eq_true'] at this
    exact this
  | i :: r, listed, 0, st, tm, h, ρ, G, hf, ho, _, _, g, k, a, w, ha, hw => by simp at hf
  | i :: r, listed, fuel + 1, st, tm, h, ρ, G, hf, ho, hdc, hsz, g, k, a, w, ha, hw => by
    simp only [ordOkP, Bool.and_eq_true, regOk] at ho
    obtain ⟨⟨hfr, b1, b2, b3, _⟩, hds, ho⟩ := ho
    have hr' : i ∈ Region.ready .any ops listed := by simpa using b3
    obtain ⟨_, o, hoj, hdep⟩ := mem_ready.1 hr'
    have hdc' := hdc.set hoj hdep
    have hsz' : (listed.setIfInBounds i true).size = ops.size := by simp [hsz]
    have hdd : ∃ d, o.dst = some d := by
      simp only [dstAt, hoj] at hds
      exact Option.isSome_iff_exists.1 hds
    obtain ⟨d0, hd0⟩ := hdd
    have hf' : r.length + t.depth ≤ fuel := by simp at hf; omega
    have hn : nth ops.toList i = some o := by rw [nth_eq]; simpa using hoj
    simp only [vcPf, hn] at k
    obtain ⟨d, op, ty, pos, af, gu⟩ := o
    simp only at hd0
    subst hd0
    cases gu with
    | some x => exact k.elim
    | none =>
      simp only [vcYF] at k
      cases hy : vcY P T op st.tm [] (fun s => putT nt (some d0) s st.tm st.ob (vcPf P T nt ops K t r)) with
      | none => simp only [hy] at k
      | some p =>
        simp only [hy] at k
        have g0 : Gd c ⟨st.tm, []⟩ tm ⟨h.F, h.w0, []⟩ ρ G := ⟨g.fF, g.fw, g.gF, g.gx, g.fm, g.tm, rfl⟩
        obtain ⟨s, v, q1, q2, q3⟩ := vcY_sound g0 hy k (P := P) (nt := nt) (ty := ty) (pos := pos) (af := af) (gd := none) (d := some d0)
        simp only [putT] at q3
        cases hd : Nat.blt d0 nt
        · rw [hd] at q3; exact q3.elim
        · rw [hd] at q3
          have hrest := vcPf_sound hK t r _ fuel _ _ h ρ G hf' ho hdc' hsz' (g.put (d := d0) q2) q3 _ w (ha.put (by simpa using hd) v) hw
          exact wpAnyX_free hoj (Region.noSelect_spec b1) (fun c a w hq => q.ok c a _ _ w hq) hfr fuel listed a w hdc (Region.free_spec hoj b2) hr' (.inl ⟨rfl, fun w' hw' => q1.out a w' ha hw'⟩) hw.frn hrest
/-- A region that draws: first what reads frozen memory alone, then all orders of the rest. -/
theorem Drw.ofP {i : Nat} {tmT : List (Nat × SV)} {ob : List (Nat × Ob)} (late free : List Nat) (r : List Nat) (t : OT) (ho : (Nat.ble (r.length + t.depth) ops.size && ordOkP ops late free t (Array.replicate ops.size false) r) = true) (k : vcPf P T nt ops K t r tmT ob) : Drw P nt i ops K tmT ob :=
  ⟨fun c tm h ρ G g Q q hK => ⟨fun a w ha hw => wp_region_any hT.mo (wpAny_of_X (S := Hp h) (S1 := Frn h) (late := late) (free := free) _ _ _ _ (by
    simp only [Bool.and_eq_true, Nat.ble_eq] at ho
    exact vcPf_sound hK t r _ _ ⟨tmT, ob⟩ tm h ρ G ho.1 ho.2 DC.start (by simp) g k a { w with drawn := w.drawn + 1 } ha (hw.drawn _)))⟩⟩
end
end Go.Proofs.Ytgiebofmfkacgaa
namespace Go.Proofs.Ytgiebofmfkacgaa
open Go.RowKit
def mixR (f : Rc → Rc) (l : List Rc) (i : Nat) : List Rc := (l.take i).map f ++ l.drop i
set_option maxHeartbeats 2000000 in
theorem jobsFault_T (jobs : List Jb) : CallsA Try.prog 29 [.d (.u (jvs jobs))] [] (Is (.a (fd (simFault jobs)))) := by
  by_cases h0 : jobs.length = 0
  · have e : simFault jobs = (10, -1) := by simp [simFault, h0]
    rw [e]
    refine callsA_of_vc (T := tt) Try.func29 rfl rfl rfl rfl rfl ?_
    repeat' ((conv => whnf); first | refine Gs.id ?_ | with_reducible refine And.intro ?_ ?_ | with_reducible refine Brn.T rfl ?_ | with_reducible refine Brn.F rfl ?_ | refine Brn.T (by (try simp only [smT]); first | rfl | assumption | omega | (simp only [*]; done) | (simp [*]; done) | fail) ?_ | refine Brn.F (by (try simp only [smT]); first | rfl | assumption | omega | (simp only [*]; done) | (simp [*]; done) | fail) ?_ | (refine Brn.mk (fun hb => ?_) (fun hb => ?_) <;> (try simp only [smT] at hb) <;> (try (exact absurd trivial hb)) <;> (try (exfalso; omega))) | (refine Bnd.mk (fun hm => ?_); (try simp only [smT] at hm)) | refine Rng.mk (by (try simp only [smT]); omega) ?_ | refine Ix.map rfl (by (try simp only [smT]); omega) ?_ | refine Ix.map (m := 0) rfl (by (try simp only [smT]); omega) ?_ | refine Ix.lit (m := 0) rfl rfl ?_ | refine Ixo.mk ⟨_, rfl, (by (try simp only [smT]); omega), ?_⟩ | refine Rw.lit rfl ?_ | refine Rw.self (by (try simp only [smT]); omega) ?_ | refine Rw.map (by (try simp only [smT]); omega) ?_ | refine Len.mk (by first | rfl | (simp; done) | (simp only [smT]; assumption) | (simp only [smT]; omega)) ?_ | refine Eqv.mk (by kernel_rfl) ?_ | refine Apd.mk (by first | rfl | simp) (by first | rfl | simp) (by (try simp only [smT]); first | omega | (simp; omega)) (by unfold maxLen; first | (simp; done) | (simp; omega) | omega) ?_ | refine Raw.capNil (T := tt) rfl rfl rfl rfl ?_ | refine Raw.sliceNil (T := tt) rfl rfl (by first | rfl | omega | (simp; done)) rfl rfl rfl rfl ?_ | (refine Raw.appendR (T := tt) ?_; (conv => whnf); first | refine Rw.lit rfl ?_ | refine Rw.self (by (try simp only [smT]); omega) ?_ | refine Rw.map (by (try simp only [smT]); omega) ?_) | refine Raw.appendIn (T := tt) rfl rfl rfl rfl rfl rfl rfl rfl rfl rfl (by (try simp only [smT]); omega) (by (try simp only [smT]); omega) ?_ | refine Raw.clear (T := tt) rfl rfl rfl rfl rfl rfl rfl (by (try simp only [smT]); omega) ?_ | refine Slc.mk ⟨_, _, rfl, rfl, (by (try simp only [smT]); omega), (by (try simp only [smT]); omega), ?_⟩ | refine Slc.mk ⟨0, _, rfl, rfl, (by (try simp only [smT]); omega), (by (try simp only [smT]); omega), ?_⟩ | refine Slc.mk ⟨1, _, rfl, rfl, (by (try simp only [smT]); omega), (by (try simp only [smT]); omega), ?_⟩ | refine Slc3.mk ⟨_, _, _, rfl, rfl, rfl, (by (try simp only [smT]); omega), (by (try simp only [smT]); omega), (by (try simp only [smT]); omega)⟩ ?_ | refine Drw.ofF (T := tt) (i := 10) [6, 12, 13] [7, 8, 9, 10, 11] [(1, true), (2, true), (3, true), (4, true), (5, true), (7, true), (8, true), (9, true), (10, true), (11, true), (0, false), (6, false), (12, false), (13, false)] (by kernel_rfl) ?_ | refine Drw.ofP (T := tt) (i := 10) [0, 6, 12, 13] [1, 2, 3, 4, 5, 7, 8, 9, 10, 11] [1, 2, 3, 4, 5, 7, 8, 9, 10, 11] (OT.alt 0 (OT.alt 6 (OT.alt 12 (OT.alt 13 OT.nil OT.nil) OT.nil) OT.nil) OT.nil) (by kernel_rfl) ?_ | (refine CL.mk (Or.inl ?_); (conv => whnf); first | refine Cl.is (at_T _ _) rfl (by first | exact fun _ => rfl | (intro e; cases e; done) | fail) ?_) | (refine CL.mk (Or.inl ?_); (conv => whnf); refine ClO.mk (Or.inl ?_); (repeat ((conv => whnf); refine Len.mk (by first | rfl | (simp; done) | (simp only [smT]; assumption) | (simp only [smT]; omega)) ?_)); (conv => whnf); first | refine Cl.is (at_T _ _) rfl (by first | exact fun _ => rfl | (intro e; cases e; done) | fail) ?_) | (refine CL.mk (Or.inl ?_); (conv => whnf); refine ClO.mk (Or.inr ?_); (repeat ((conv => whnf); refine Len.mk (by first | rfl | (simp; done) | (simp only [smT]; assumption) | (simp only [smT]; omega)) ?_)); (conv => whnf); first | refine Cl.is (at_T _ _) rfl (by first | exact fun _ => rfl | (intro e; cases e; done) | fail) ?_))
    all_goals (conv => whnf)
    · exact Ret.is rfl
  · by_cases h6 : 60 < jobs.length
    · have e : simFault jobs = (2, -1) := by simp [simFault, h0, h6]
      rw [e]
      refine callsA_of_vc (T := tt) Try.func29 rfl rfl rfl rfl rfl ?_
      repeat' ((conv => whnf); first | refine Gs.id ?_ | with_reducible refine And.intro ?_ ?_ | with_reducible refine Brn.T rfl ?_ | with_reducible refine Brn.F rfl ?_ | refine Brn.T (by (try simp only [smT]); first | rfl | assumption | omega | (simp only [*]; done) | (simp [*]; done) | fail) ?_ | refine Brn.F (by (try simp only [smT]); first | rfl | assumption | omega | (simp only [*]; done) | (simp [*]; done) | fail) ?_ | (refine Brn.mk (fun hb => ?_) (fun hb => ?_) <;> (try simp only [smT] at hb) <;> (try (exact absurd trivial hb)) <;> (try (exfalso; omega))) | (refine Bnd.mk (fun hm => ?_); (try simp only [smT] at hm)) | refine Rng.mk (by (try simp only [smT]); omega) ?_ | refine Ix.map rfl (by (try simp only [smT]); omega) ?_ | refine Ix.map (m := 0) rfl (by (try simp only [smT]); omega) ?_ | refine Ix.lit (m := 0) rfl rfl ?_ | refine Ixo.mk ⟨_, rfl, (by (try simp only [smT]); omega), ?_⟩ | refine Rw.lit rfl ?_ | refine Rw.self (by (try simp only [smT]); omega) ?_ | refine Rw.map (by (try simp only [smT]); omega) ?_ | refine Len.mk (by first | rfl | (simp; done) | (simp only [smT]; assumption) | (simp only [smT]; omega)) ?_ | refine Eqv.mk (by kernel_rfl) ?_ | refine Apd.mk (by first | rfl | simp) (by first | rfl | simp) (by (try simp only [smT]); first | omega | (simp; omega)) (by unfold maxLen; first | (simp; done) | (simp; omega) | omega) ?_ | refine Raw.capNil (T := tt) rfl rfl rfl rfl ?_ | refine Raw.sliceNil (T := tt) rfl rfl (by first | rfl | omega | (simp; done)) rfl rfl rfl rfl ?_ | (refine Raw.appendR (T := tt) ?_; (conv => whnf); first | refine Rw.lit rfl ?_ | refine Rw.self (by (try simp only [smT]); omega) ?_ | refine Rw.map (by (try simp only [smT]); omega) ?_) | refine Raw.appendIn (T := tt) rfl rfl rfl rfl rfl rfl rfl rfl rfl rfl (by (try simp only [smT]); omega) (by (try simp only [smT]); omega) ?_ | refine Raw.clear (T := tt) rfl rfl rfl rfl rfl rfl rfl (by (try simp only [smT]); omega) ?_ | refine Slc.mk ⟨_, _, rfl, rfl, (by (try simp only [smT]); omega), (by (try simp only [smT]); omega), ?_⟩ | refine Slc.mk ⟨0, _, rfl, rfl, (by (try simp only [smT]); omega), (by (try simp only [smT]); omega), ?_⟩ | refine Slc.mk ⟨1, _, rfl, rfl, (by (try simp only [smT]); omega), (by (try simp only [smT]); omega), ?_⟩ | refine Slc3.mk ⟨_, _, _, rfl, rfl, rfl, (by (try simp only [smT]); omega), (by (try simp only [smT]); omega), (by (try simp only [smT]); omega)⟩ ?_ | refine Drw.ofF (T := tt) (i := 10) [6, 12, 13] [7, 8, 9, 10, 11] [(1, true), (2, true), (3, true), (4, true), (5, true), (7, true), (8, true), (9, true), (10, true), (11, true), (0, false), (6, false), (12, false), (13, false)] (by kernel_rfl) ?_ | refine Drw.ofP (T := tt) (i := 10) [0, 6, 12, 13] [1, 2, 3, 4, 5, 7, 8, 9, 10, 11] [1, 2, 3, 4, 5, 7, 8, 9, 10, 11] (OT.alt 0 (OT.alt 6 (OT.alt 12 (OT.alt 13 OT.nil OT.nil) OT.nil) OT.nil) OT.nil) (by kernel_rfl) ?_ | (refine CL.mk (Or.inl ?_); (conv => whnf); first | refine Cl.is (at_T _ _) rfl (by first | exact fun _ => rfl | (intro e; cases e; done) | fail) ?_) | (refine CL.mk (Or.inl ?_); (conv => whnf); refine ClO.mk (Or.inl ?_); (repeat ((conv => whnf); refine Len.mk (by first | rfl | (simp; done) | (simp only [smT]; assumption) | (simp only [smT]; omega)) ?_)); (conv => whnf); first | refine Cl.is (at_T _ _) rfl (by first | exact fun _ => rfl | (intro e; cases e; done) | fail) ?_) | (refine CL.mk (Or.inl ?_); (conv => whnf); refine ClO.mk (Or.inr ?_); (repeat ((conv => whnf); refine Len.mk (by first | rfl | (simp; done) | (simp only [smT]; assumption) | (simp only [smT]; omega)) ?_)); (conv => whnf); first | refine Cl.is (at_T _ _) rfl (by first | exact fun _ => rfl | (intro e; cases e; done) | fail) ?_))
      all_goals (conv => whnf)
      · exact Ret.is rfl
    · have e : simFault jobs = jobsM jobs.length jobs 0 := by rw [simFault, if_neg h0, if_neg h6]
      rw [e]
      refine callsA_of_vc (T := tt) Try.func29 rfl rfl rfl rfl rfl ?_
      repeat' ((conv => whnf); first | refine Gs.id ?_ | with_reducible refine And.intro ?_ ?_ | with_reducible refine Brn.T rfl ?_ | with_reducible refine Brn.F rfl ?_ | refine Brn.T (by (try simp only [smT]); first | rfl | assumption | omega | (simp only [*]; done) | (simp [*]; done) | fail) ?_ | refine Brn.F (by (try simp only [smT]); first | rfl | assumption | omega | (simp only [*]; done) | (simp [*]; done) | fail) ?_ | (refine Brn.mk (fun hb => ?_) (fun hb => ?_) <;> (try simp only [smT] at hb) <;> (try (exact absurd trivial hb)) <;> (try (exfalso; omega))) | (refine Bnd.mk (fun hm => ?_); (try simp only [smT] at hm)) | refine Rng.mk (by (try simp only [smT]); omega) ?_ | refine Ix.map rfl (by (try simp only [smT]); omega) ?_ | refine Ix.map (m := 0) rfl (by (try simp only [smT]); omega) ?_ | refine Ix.lit (m := 0) rfl rfl ?_ | refine Ixo.mk ⟨_, rfl, (by (try simp only [smT]); omega), ?_⟩ | refine Rw.lit rfl ?_ | refine Rw.self (by (try simp only [smT]); omega) ?_ | refine Rw.map (by (try simp only [smT]); omega) ?_ | refine Len.mk (by first | rfl | (simp; done) | (simp only [smT]; assumption) | (simp only [smT]; omega)) ?_ | refine Eqv.mk (by kernel_rfl) ?_ | refine Apd.mk (by first | rfl | simp) (by first | rfl | simp) (by (try simp only [smT]); first | omega | (simp; omega)) (by unfold maxLen; first | (simp; done) | (simp; omega) | omega) ?_ | refine Raw.capNil (T := tt) rfl rfl rfl rfl ?_ | refine Raw.sliceNil (T := tt) rfl rfl (by first | rfl | omega | (simp; done)) rfl rfl rfl rfl ?_ | (refine Raw.appendR (T := tt) ?_; (conv => whnf); first | refine Rw.lit rfl ?_ | refine Rw.self (by (try simp only [smT]); omega) ?_ | refine Rw.map (by (try simp only [smT]); omega) ?_) | refine Raw.appendIn (T := tt) rfl rfl rfl rfl rfl rfl rfl rfl rfl rfl (by (try simp only [smT]); omega) (by (try simp only [smT]); omega) ?_ | refine Raw.clear (T := tt) rfl rfl rfl rfl rfl rfl rfl (by (try simp only [smT]); omega) ?_ | refine Slc.mk ⟨_, _, rfl, rfl, (by (try simp only [smT]); omega), (by (try simp only [smT]); omega), ?_⟩ | refine Slc.mk ⟨0, _, rfl, rfl, (by (try simp only [smT]); omega), (by (try simp only [smT]); omega), ?_⟩ | refine Slc.mk ⟨1, _, rfl, rfl, (by (try simp only [smT]); omega), (by (try simp only [smT]); omega), ?_⟩ | refine Slc3.mk ⟨_, _, _, rfl, rfl, rfl, (by (try simp only [smT]); omega), (by (try simp only [smT]); omega), (by (try simp only [smT]); omega)⟩ ?_ | refine Drw.ofF (T := tt) (i := 10) [6, 12, 13] [7, 8, 9, 10, 11] [(1, true), (2, true), (3, true), (4, true), (5, true), (7, true), (8, true), (9, true), (10, true), (11, true), (0, false), (6, false), (12, false), (13, false)] (by kernel_rfl) ?_ | refine Drw.ofP (T := tt) (i := 10) [0, 6, 12, 13] [1, 2, 3, 4, 5, 7, 8, 9, 10, 11] [1, 2, 3, 4, 5, 7, 8, 9, 10, 11] (OT.alt 0 (OT.alt 6 (OT.alt 12 (OT.alt 13 OT.nil OT.nil) OT.nil) OT.nil) OT.nil) (by kernel_rfl) ?_ | (refine CL.mk (Or.inl ?_); (conv => whnf); first | refine Cl.is (at_T _ _) rfl (by first | exact fun _ => rfl | (intro e; cases e; done) | fail) ?_) | (refine CL.mk (Or.inl ?_); (conv => whnf); refine ClO.mk (Or.inl ?_); (repeat ((conv => whnf); refine Len.mk (by first | rfl | (simp; done) | (simp only [smT]; assumption) | (simp only [smT]; omega)) ?_)); (conv => whnf); first | refine Cl.is (at_T _ _) rfl (by first | exact fun _ => rfl | (intro e; cases e; done) | fail) ?_) | (refine CL.mk (Or.inl ?_); (conv => whnf); refine ClO.mk (Or.inr ?_); (repeat ((conv => whnf); refine Len.mk (by first | rfl | (simp; done) | (simp only [smT]; assumption) | (simp only [smT]; omega)) ?_)); (conv => whnf); first | refine Cl.is (at_T _ _) rfl (by first | exact fun _ => rfl | (intro e; cases e; done) | fail) ?_))
      all_goals (conv => whnf)
      refine ⟨⟨Nat, fun i => i ≤ jobs.length ∧ jobsM jobs.length jobs 0 = jobsM jobs.length (jobs.drop i) i, fun i => jobs.length - i, fun i => ⟨[(0, .d (.u (jvs jobs))), (2, .d (.p 2 0)), (3, di i)], [(2, .bx 27 [.u (.int .i64 0), .u (.int .i64 0)])]⟩, 0, ⟨by omega, rfl⟩, ⟨[(2, .k 2)], ⟨by (try dsimp only); (repeat (refine LeT.cons rfl (by first | exact LeS.d (by first | exact LeD.u rfl | exact LeD.p rfl | exact LeD.ow rfl rfl | exact LeD.ow rfl (by simp) | exact LeD.no rfl rfl | exact LeD.nl (by first | rfl | simp) | exact LeD.u (by simp; done) | exact LeD.u (by congr 1; omega) | exact LeD.q rfl | exact LeD.r rfl | exact LeD.r (by simp; done) | exact LeD.re | exact LeD.ows rfl rfl rfl | exact LeD.u (by congr 1; congr 1; simp) | exact LeD.fn (by repeat (first | exact LeN.nil | refine LeN.cons rfl ?_))) | exact LeS.a (by repeat (first | exact LeL.nil | refine LeL.cons (by first | exact LeD.u rfl | exact LeD.p rfl | exact LeD.ow rfl rfl | exact LeD.ow rfl (by simp) | exact LeD.no rfl rfl | exact LeD.nl (by first | rfl | simp) | exact LeD.u (by simp; done) | exact LeD.u (by congr 1; omega) | exact LeD.q rfl | exact LeD.r rfl | exact LeD.r (by simp; done) | exact LeD.re | exact LeD.ows rfl rfl rfl | exact LeD.u (by congr 1; congr 1; simp) | exact LeD.fn (by repeat (first | exact LeN.nil | refine LeN.cons rfl ?_))) ?_))) ?_)); exact LeT.nil, by (try dsimp only); repeat (first | exact LeO.nil | refine LeO.bx rfl rfl (by repeat (first | exact LeL.nil | refine LeL.cons (by first | exact LeD.u rfl | exact LeD.p rfl | exact LeD.ow rfl rfl | exact LeD.ow rfl (by simp) | exact LeD.no rfl rfl | exact LeD.nl (by first | rfl | simp) | exact LeD.u (by simp; done) | exact LeD.u (by congr 1; omega) | exact LeD.q rfl | exact LeD.r rfl | exact LeD.r (by simp; done) | exact LeD.re | exact LeD.ows rfl rfl rfl | exact LeD.u (by congr 1; congr 1; simp) | exact LeD.fn (by repeat (first | exact LeN.nil | refine LeN.cons rfl ?_))) ?_)) ?_ | refine LeO.ar rfl rfl (by first | rfl | simp) ?_ | refine LeO.fm rfl (by first | rfl | simp) ?_ | refine LeO.no rfl rfl ?_)⟩⟩, fun i ⟨hi, he⟩ => ?_⟩⟩
      dsimp only
      by_cases h9 : i < jobs.length
      · rw [he, jobsM_step _ _ _ h9]
        have hrow : ∀ {K : List V → Prop}, K (jobs[i]).v → Ix (jobs.map Jb.v) (i : Int) K := fun k => Ix.map rfl h9 k
        generalize jobs[i] = j at hrow ⊢
        obtain ⟨acts, guard⟩ := j
        by_cases hl : 30 < acts.length ∨ 30 < guard.length
        · have e2 : checkJobM ⟨acts, guard⟩ jobs.length = 2 := by simp only [checkJobM]; rw [if_pos hl]
          rw [e2, if_pos (by decide)]
          repeat' ((conv => whnf); first | refine hrow ?_ | refine Gs.id ?_ | with_reducible refine And.intro ?_ ?_ | with_reducible refine Brn.T rfl ?_ | with_reducible refine Brn.F rfl ?_ | refine Brn.T (by (try simp only [smT]); first | rfl | assumption | omega | (simp only [*]; done) | (simp [*]; done) | fail) ?_ | refine Brn.F (by (try simp only [smT]); first | rfl | assumption | omega | (simp only [*]; done) | (simp [*]; done) | fail) ?_ | (refine Brn.mk (fun hb => ?_) (fun hb => ?_) <;> (try simp only [smT] at hb) <;> (try (exact absurd trivial hb)) <;> (try (exfalso; omega))) | (refine Bnd.mk (fun hm => ?_); (try simp only [smT] at hm)) | refine Rng.mk (by (try simp only [smT]); omega) ?_ | refine Ix.map rfl (by (try simp only [smT]); omega) ?_ | refine Ix.map (m := 0) rfl (by (try simp only [smT]); omega) ?_ | refine Ix.lit (m := 0) rfl rfl ?_ | refine Ixo.mk ⟨_, rfl, (by (try simp only [smT]); omega), ?_⟩ | refine Rw.lit rfl ?_ | refine Rw.self (by (try simp only [smT]); omega) ?_ | refine Rw.map (by (try simp only [smT]); omega) ?_ | refine Len.mk (by first | rfl | (simp; done) | (simp only [smT]; assumption) | (simp only [smT]; omega)) ?_ | refine Eqv.mk (by kernel_rfl) ?_ | refine Apd.mk (by first | rfl | simp) (by first | rfl | simp) (by (try simp only [smT]); first | omega | (simp; omega)) (by unfold maxLen; first | (simp; done) | (simp; omega) | omega) ?_ | refine Raw.capNil (T := tt) rfl rfl rfl rfl ?_ | refine Raw.sliceNil (T := tt) rfl rfl (by first | rfl | omega | (simp; done)) rfl rfl rfl rfl ?_ | (refine Raw.appendR (T := tt) ?_; (conv => whnf); first | refine hrow ?_ | refine Rw.lit rfl ?_ | refine Rw.self (by (try simp only [smT]); omega) ?_ | refine Rw.map (by (try simp only [smT]); omega) ?_) | refine Raw.appendIn (T := tt) rfl rfl rfl rfl rfl rfl rfl rfl rfl rfl (by (try simp only [smT]); omega) (by (try simp only [smT]); omega) ?_ | refine Raw.clear (T := tt) rfl rfl rfl rfl rfl rfl rfl (by (try simp only [smT]); omega) ?_ | refine Slc.mk ⟨_, _, rfl, rfl, (by (try simp only [smT]); omega), (by (try simp only [smT]); omega), ?_⟩ | refine Slc.mk ⟨0, _, rfl, rfl, (by (try simp only [smT]); omega), (by (try simp only [smT]); omega), ?_⟩ | refine Slc.mk ⟨1, _, rfl, rfl, (by (try simp only [smT]); omega), (by (try simp only [smT]); omega), ?_⟩ | refine Slc3.mk ⟨_, _, _, rfl, rfl, rfl, (by (try simp only [smT]); omega), (by (try simp only [smT]); omega), (by (try simp only [smT]); omega)⟩ ?_ | refine Drw.ofF (T := tt) (i := 10) [6, 12, 13] [7, 8, 9, 10, 11] [(1, true), (2, true), (3, true), (4, true), (5, true), (7, true), (8, true), (9, true), (10, true), (11, true), (0, false), (6, false), (12, false), (13, false)] (by kernel_rfl) ?_ | refine Drw.ofP (T := tt) (i := 10) [0, 6, 12, 13] [1, 2, 3, 4, 5, 7, 8, 9, 10, 11] [1, 2, 3, 4, 5, 7, 8, 9, 10, 11] (OT.alt 0 (OT.alt 6 (OT.alt 12 (OT.alt 13 OT.nil OT.nil) OT.nil) OT.nil) OT.nil) (by kernel_rfl) ?_ | (refine CL.mk (Or.inl ?_); (conv => whnf); first | refine Cl.is (at_T _ _) rfl (by first | exact fun _ => rfl | (intro e; cases e; done) | fail) ?_) | (refine CL.mk (Or.inl ?_); (conv => whnf); refine ClO.mk (Or.inl ?_); (repeat ((conv => whnf); refine Len.mk (by first | rfl | (simp; done) | (simp only [smT]; assumption) | (simp only [smT]; omega)) ?_)); (conv => whnf); first | refine Cl.is (at_T _ _) rfl (by first | exact fun _ => rfl | (intro e; cases e; done) | fail) ?_) | (refine CL.mk (Or.inl ?_); (conv => whnf); refine ClO.mk (Or.inr ?_); (repeat ((conv => whnf); refine Len.mk (by first | rfl | (simp; done) | (simp only [smT]; assumption) | (simp only [smT]; omega)) ?_)); (conv => whnf); first | refine Cl.is (at_T _ _) rfl (by first | exact fun _ => rfl | (intro e; cases e; done) | fail) ?_))
          all_goals (conv => whnf)
          all_goals exact Ret.is rfl
        · have e2 : checkJobM ⟨acts, guard⟩ jobs.length = firstBad jobs.length (acts ++ guard) := by simp only [checkJobM]; rw [if_neg hl]
          rw [e2]
          repeat' ((conv => whnf); first | refine hrow ?_ | refine Gs.id ?_ | with_reducible refine And.intro ?_ ?_ | with_reducible refine Brn.T rfl ?_ | with_reducible refine Brn.F rfl ?_ | refine Brn.T (by (try simp only [smT]); first | rfl | assumption | omega | (simp only [*]; done) | (simp [*]; done) | fail) ?_ | refine Brn.F (by (try simp only [smT]); first | rfl | assumption | omega | (simp only [*]; done) | (simp [*]; done) | fail) ?_ | (refine Brn.mk (fun hb => ?_) (fun hb => ?_) <;> (try simp only [smT] at hb) <;> (try (exact absurd trivial hb)) <;> (try (exfalso; omega))) | (refine Bnd.mk (fun hm => ?_); (try simp only [smT] at hm)) | refine Rng.mk (by (try simp only [smT]); omega) ?_ | refine Ix.map rfl (by (try simp only [smT]); omega) ?_ | refine Ix.map (m := 0) rfl (by (try simp only [smT]); omega) ?_ | refine Ix.lit (m := 0) rfl rfl ?_ | refine Ixo.mk ⟨_, rfl, (by (try simp only [smT]); omega), ?_⟩ | refine Rw.lit rfl ?_ | refine Rw.self (by (try simp only [smT]); omega) ?_ | refine Rw.map (by (try simp only [smT]); omega) ?_ | refine Len.mk (by first | rfl | (simp; done) | (simp only [smT]; assumption) | (simp only [smT]; omega)) ?_ | refine Eqv.mk (by kernel_rfl) ?_ | refine Apd.mk (by first | rfl | simp) (by first | rfl | simp) (by (try simp only [smT]); first | omega | (simp; omega)) (by unfold maxLen; first | (simp; done) | (simp; omega) | omega) ?_ | refine Raw.capNil (T := tt) rfl rfl rfl rfl ?_ | refine Raw.sliceNil (T := tt) rfl rfl (by first | rfl | omega | (simp; done)) rfl rfl rfl rfl ?_ | (refine Raw.appendR (T := tt) ?_; (conv => whnf); first | refine hrow ?_ | refine Rw.lit rfl ?_ | refine Rw.self (by (try simp only [smT]); omega) ?_ | refine Rw.map (by (try simp only [smT]); omega) ?_) | refine Raw.appendIn (T := tt) rfl rfl rfl rfl rfl rfl rfl rfl rfl rfl (by (try simp only [smT]); omega) (by (try simp only [smT]); omega) ?_ | refine Raw.clear (T := tt) rfl rfl rfl rfl rfl rfl rfl (by (try simp only [smT]); omega) ?_ | refine Slc.mk ⟨_, _, rfl, rfl, (by (try simp only [smT]); omega), (by (try simp only [smT]); omega), ?_⟩ | refine Slc.mk ⟨0, _, rfl, rfl, (by (try simp only [smT]); omega), (by (try simp only [smT]); omega), ?_⟩ | refine Slc.mk ⟨1, _, rfl, rfl, (by (try simp only [smT]); omega), (by (try simp only [smT]); omega), ?_⟩ | refine Slc3.mk ⟨_, _, _, rfl, rfl, rfl, (by (try simp only [smT]); omega), (by (try simp only [smT]); omega), (by (try simp only [smT]); omega)⟩ ?_ | refine Drw.ofF (T := tt) (i := 10) [6, 12, 13] [7, 8, 9, 10, 11] [(1, true), (2, true), (3, true), (4, true), (5, true), (7, true), (8, true), (9, true), (10, true), (11, true), (0, false), (6, false), (12, false), (13, false)] (by kernel_rfl) ?_ | refine Drw.ofP (T := tt) (i := 10) [0, 6, 12, 13] [1, 2, 3, 4, 5, 7, 8, 9, 10, 11] [1, 2, 3, 4, 5, 7, 8, 9, 10, 11] (OT.alt 0 (OT.alt 6 (OT.alt 12 (OT.alt 13 OT.nil OT.nil) OT.nil) OT.nil) OT.nil) (by kernel_rfl) ?_ | (refine CL.mk (Or.inl ?_); (conv => whnf); first | refine Cl.is (at_T _ _) rfl (by first | exact fun _ => rfl | (intro e; cases e; done) | fail) ?_) | (refine CL.mk (Or.inl ?_); (conv => whnf); refine ClO.mk (Or.inl ?_); (repeat ((conv => whnf); refine Len.mk (by first | rfl | (simp; done) | (simp only [smT]; assumption) | (simp only [smT]; omega)) ?_)); (conv => whnf); first | refine Cl.is (at_T _ _) rfl (by first | exact fun _ => rfl | (intro e; cases e; done) | fail) ?_) | (refine CL.mk (Or.inl ?_); (conv => whnf); refine ClO.mk (Or.inr ?_); (repeat ((conv => whnf); refine Len.mk (by first | rfl | (simp; done) | (simp only [smT]; assumption) | (simp only [smT]; omega)) ?_)); (conv => whnf); first | refine Cl.is (at_T _ _) rfl (by first | exact fun _ => rfl | (intro e; cases e; done) | fail) ?_))
          all_goals (conv => whnf)
          have ha : acts.length ≤ 30 := by omega
          have hg : guard.length ≤ 30 := by omega
          clear hrow e2 he
          generalize hX : jobsM jobs.length (jobs.drop (i + 1)) (i + 1) = X
          have hLl : (acts ++ guard).length = acts.length + guard.length := by simp
          refine ⟨⟨Nat, fun q => q ≤ (acts ++ guard).length ∧ firstBad jobs.length (acts ++ guard) = firstBad jobs.length ((acts ++ guard).drop q), fun q => (acts ++ guard).length - q, fun q => ⟨[(0, .d (.u (jvs jobs))), (2, .d (.p 2 0)), (3, di i), (4, .d (.ow 51 (acts ++ guard).length)), (5, di q)], [aar 51 (acts ++ guard), (2, .bx 27 [.u (.int .i64 0), .u (.int .i64 0)])]⟩, 0, ⟨by omega, rfl⟩, ⟨[(51, .k 51), (2, .k 2)], ⟨by (try dsimp only); (repeat (refine LeT.cons rfl (by first | exact LeS.d (by first | exact LeD.u rfl | exact LeD.p rfl | exact LeD.ow rfl rfl | exact LeD.ow rfl (by simp) | exact LeD.no rfl rfl | exact LeD.nl (by first | rfl | simp) | exact LeD.u (by simp; done) | exact LeD.u (by congr 1; omega) | exact LeD.q rfl | exact LeD.r rfl | exact LeD.r (by simp; done) | exact LeD.re | exact LeD.ows rfl rfl rfl | exact LeD.u (by congr 1; congr 1; simp) | exact LeD.fn (by repeat (first | exact LeN.nil | refine LeN.cons rfl ?_))) | exact LeS.a (by repeat (first | exact LeL.nil | refine LeL.cons (by first | exact LeD.u rfl | exact LeD.p rfl | exact LeD.ow rfl rfl | exact LeD.ow rfl (by simp) | exact LeD.no rfl rfl | exact LeD.nl (by first | rfl | simp) | exact LeD.u (by simp; done) | exact LeD.u (by congr 1; omega) | exact LeD.q rfl | exact LeD.r rfl | exact LeD.r (by simp; done) | exact LeD.re | exact LeD.ows rfl rfl rfl | exact LeD.u (by congr 1; congr 1; simp) | exact LeD.fn (by repeat (first | exact LeN.nil | refine LeN.cons rfl ?_))) ?_))) ?_)); exact LeT.nil, by (try dsimp only); repeat (first | exact LeO.nil | refine LeO.bx rfl rfl (by repeat (first | exact LeL.nil | refine LeL.cons (by first | exact LeD.u rfl | exact LeD.p rfl | exact LeD.ow rfl rfl | exact LeD.ow rfl (by simp) | exact LeD.no rfl rfl | exact LeD.nl (by first | rfl | simp) | exact LeD.u (by simp; done) | exact LeD.u (by congr 1; omega) | exact LeD.q rfl | exact LeD.r rfl | exact LeD.r (by simp; done) | exact LeD.re | exact LeD.ows rfl rfl rfl | exact LeD.u (by congr 1; congr 1; simp) | exact LeD.fn (by repeat (first | exact LeN.nil | refine LeN.cons rfl ?_))) ?_)) ?_ | refine LeO.ar rfl rfl (by first | rfl | simp) ?_ | refine LeO.fm rfl (by first | rfl | simp) ?_ | refine LeO.no rfl rfl ?_)⟩⟩, fun q ⟨hq, hf⟩ => ?_⟩⟩
          dsimp only
          generalize acts ++ guard = L at *
          by_cases h10 : q < L.length
          · rw [hf, List.drop_eq_getElem_cons h10, firstBad]
            have hrw : ∀ {K : List V → Prop}, K (L[q]).v → Ix (L.map Ac.v) (q : Int) K := fun k => Ix.map rfl h10 k
            repeat' ((conv => whnf); first | refine hrw ?_ | refine Gs.id ?_ | with_reducible refine And.intro ?_ ?_ | with_reducible refine Brn.T rfl ?_ | with_reducible refine Brn.F rfl ?_ | refine Brn.T (by (try simp only [smT]); first | rfl | assumption | omega | (simp only [*]; done) | (simp [*]; done) | fail) ?_ | refine Brn.F (by (try simp only [smT]); first | rfl | assumption | omega | (simp only [*]; done) | (simp [*]; done) | fail) ?_ | (refine Brn.mk (fun hb => ?_) (fun hb => ?_) <;> (try simp only [smT] at hb) <;> (try (exact absurd trivial hb)) <;> (try (exfalso; omega))) | (refine Bnd.mk (fun hm => ?_); (try simp only [smT] at hm)) | refine Rng.mk (by (try simp only [smT]); omega) ?_ | refine Ix.map rfl (by (try simp only [smT]); omega) ?_ | refine Ix.map (m := 0) rfl (by (try simp only [smT]); omega) ?_ | refine Ix.lit (m := 0) rfl rfl ?_ | refine Ixo.mk ⟨_, rfl, (by (try simp only [smT]); omega), ?_⟩ | refine Rw.lit rfl ?_ | refine Rw.self (by (try simp only [smT]); omega) ?_ | refine Rw.map (by (try simp only [smT]); omega) ?_ | refine Len.mk (by first | rfl | (simp; done) | (simp only [smT]; assumption) | (simp only [smT]; omega)) ?_ | refine Eqv.mk (by kernel_rfl) ?_ | refine Apd.mk (by first | rfl | simp) (by first | rfl | simp) (by (try simp only [smT]); first | omega | (simp; omega)) (by unfold maxLen; first | (simp; done) | (simp; omega) | omega) ?_ | refine Raw.capNil (T := tt) rfl rfl rfl rfl ?_ | refine Raw.sliceNil (T := tt) rfl rfl (by first | rfl | omega | (simp; done)) rfl rfl rfl rfl ?_ | (refine Raw.appendR (T := tt) ?_; (conv => whnf); first | refine hrw ?_ | refine Rw.lit rfl ?_ | refine Rw.self (by (try simp only [smT]); omega) ?_ | refine Rw.map (by (try simp only [smT]); omega) ?_) | refine Raw.appendIn (T := tt) rfl rfl rfl rfl rfl rfl rfl rfl rfl rfl (by (try simp only [smT]); omega) (by (try simp only [smT]); omega) ?_ | refine Raw.clear (T := tt) rfl rfl rfl rfl rfl rfl rfl (by (try simp only [smT]); omega) ?_ | refine Slc.mk ⟨_, _, rfl, rfl, (by (try simp only [smT]); omega), (by (try simp only [smT]); omega), ?_⟩ | refine Slc.mk ⟨0, _, rfl, rfl, (by (try simp only [smT]); omega), (by (try simp only [smT]); omega), ?_⟩ | refine Slc.mk ⟨1, _, rfl, rfl, (by (try simp only [smT]); omega), (by (try simp only [smT]); omega), ?_⟩ | refine Slc3.mk ⟨_, _, _, rfl, rfl, rfl, (by (try simp only [smT]); omega), (by (try simp only [smT]); omega), (by (try simp only [smT]); omega)⟩ ?_ | refine Drw.ofF (T := tt) (i := 10) [6, 12, 13] [7, 8, 9, 10, 11] [(1, true), (2, true), (3, true), (4, true), (5, true), (7, true), (8, true), (9, true), (10, true), (11, true), (0, false), (6, false), (12, false), (13, false)] (by kernel_rfl) ?_ | refine Drw.ofP (T := tt) (i := 10) [0, 6, 12, 13] [1, 2, 3, 4, 5, 7, 8, 9, 10, 11] [1, 2, 3, 4, 5, 7, 8, 9, 10, 11] (OT.alt 0 (OT.alt 6 (OT.alt 12 (OT.alt 13 OT.nil OT.nil) OT.nil) OT.nil) OT.nil) (by kernel_rfl) ?_ | (refine CL.mk (Or.inl ?_); (conv => whnf); first | refine Cl.is (at_T _ _) rfl (by first | exact fun _ => rfl | (intro e; cases e; done) | fail) ?_ | refine Cl.is (in_T _ _ _) rfl (by first | exact fun _ => rfl | (intro e; cases e; done) | fail) ?_) | (refine CL.mk (Or.inl ?_); (conv => whnf); refine ClO.mk (Or.inl ?_); (repeat ((conv => whnf); refine Len.mk (by first | rfl | (simp; done) | (simp only [smT]; assumption) | (simp only [smT]; omega)) ?_)); (conv => whnf); first | refine Cl.is (at_T _ _) rfl (by first | exact fun _ => rfl | (intro e; cases e; done) | fail) ?_ | refine Cl.is (in_T _ _ _) rfl (by first | exact fun _ => rfl | (intro e; cases e; done) | fail) ?_) | (refine CL.mk (Or.inl ?_); (conv => whnf); refine ClO.mk (Or.inr ?_); (repeat ((conv => whnf); refine Len.mk (by first | rfl | (simp; done) | (simp only [smT]; assumption) | (simp only [smT]; omega)) ?_)); (conv => whnf); first | refine Cl.is (at_T _ _) rfl (by first | exact fun _ => rfl | (intro e; cases e; done) | fail) ?_ | refine Cl.is (in_T _ _ _) rfl (by first | exact fun _ => rfl | (intro e; cases e; done) | fail) ?_))
            all_goals (conv => whnf)
            all_goals first
              | (have hc : checkM (L[q]).kind (L[q]).n jobs.length = 0 := by clear hf hX hrw; simp_all [checkM, rangeM, inB] <;> omega
                 rw [hc]
                 exact ⟨q + 1, ⟨by omega, by simp⟩, by omega, [(51, .k 51), (2, .k 2)], ⟨by (try dsimp only); (repeat (refine LeT.cons rfl (by first | exact LeS.d (by first | exact LeD.u rfl | exact LeD.p rfl | exact LeD.ow rfl rfl | exact LeD.ow rfl (by simp) | exact LeD.no rfl rfl | exact LeD.nl (by first | rfl | simp) | exact LeD.u (by simp; done) | exact LeD.u (by congr 1; omega) | exact LeD.q rfl | exact LeD.r rfl | exact LeD.r (by simp; done) | exact LeD.re | exact LeD.ows rfl rfl rfl | exact LeD.u (by congr 1; congr 1; simp) | exact LeD.fn (by repeat (first | exact LeN.nil | refine LeN.cons rfl ?_))) | exact LeS.a (by repeat (first | exact LeL.nil | refine LeL.cons (by first | exact LeD.u rfl | exact LeD.p rfl | exact LeD.ow rfl rfl | exact LeD.ow rfl (by simp) | exact LeD.no rfl rfl | exact LeD.nl (by first | rfl | simp) | exact LeD.u (by simp; done) | exact LeD.u (by congr 1; omega) | exact LeD.q rfl | exact LeD.r rfl | exact LeD.r (by simp; done) | exact LeD.re | exact LeD.ows rfl rfl rfl | exact LeD.u (by congr 1; congr 1; simp) | exact LeD.fn (by repeat (first | exact LeN.nil | refine LeN.cons rfl ?_))) ?_))) ?_)); exact LeT.nil, by (try dsimp only); repeat (first | exact LeO.nil | refine LeO.bx rfl rfl (by repeat (first | exact LeL.nil | refine LeL.cons (by first | exact LeD.u rfl | exact LeD.p rfl | exact LeD.ow rfl rfl | exact LeD.ow rfl (by simp) | exact LeD.no rfl rfl | exact LeD.nl (by first | rfl | simp) | exact LeD.u (by simp; done) | exact LeD.u (by congr 1; omega) | exact LeD.q rfl | exact LeD.r rfl | exact LeD.r (by simp; done) | exact LeD.re | exact LeD.ows rfl rfl rfl | exact LeD.u (by congr 1; congr 1; simp) | exact LeD.fn (by repeat (first | exact LeN.nil | refine LeN.cons rfl ?_))) ?_)) ?_ | refine LeO.ar rfl rfl (by first | rfl | simp) ?_ | refine LeO.fm rfl (by first | rfl | simp) ?_ | refine LeO.no rfl rfl ?_)⟩⟩)
              | (have hc : checkM (L[q]).kind (L[q]).n jobs.length = 4 := by simp_all [checkM, rangeM, inB]
                 rw [hc]; exact Ret.is rfl)
              | (have hc : checkM (L[q]).kind (L[q]).n jobs.length = 5 := by simp_all [checkM, rangeM, inB]
                 rw [hc]; exact Ret.is rfl)
          · obtain rfl : q = L.length := by omega
            rw [hf, List.drop_length, firstBad]
            repeat' ((conv => whnf); first | refine Gs.id ?_ | with_reducible refine And.intro ?_ ?_ | with_reducible refine Brn.T rfl ?_ | with_reducible refine Brn.F rfl ?_ | refine Brn.T (by (try simp only [smT]); first | rfl | assumption | omega | (simp only [*]; done) | (simp [*]; done) | fail) ?_ | refine Brn.F (by (try simp only [smT]); first | rfl | assumption | omega | (simp only [*]; done) | (simp [*]; done) | fail) ?_ | (refine Brn.mk (fun hb => ?_) (fun hb => ?_) <;> (try simp only [smT] at hb) <;> (try (exact absurd trivial hb)) <;> (try (exfalso; omega))) | (refine Bnd.mk (fun hm => ?_); (try simp only [smT] at hm)) | refine Rng.mk (by (try simp only [smT]); omega) ?_ | refine Ix.map rfl (by (try simp only [smT]); omega) ?_ | refine Ix.map (m := 0) rfl (by (try simp only [smT]); omega) ?_ | refine Ix.lit (m := 0) rfl rfl ?_ | refine Ixo.mk ⟨_, rfl, (by (try simp only [smT]); omega), ?_⟩ | refine Rw.lit rfl ?_ | refine Rw.self (by (try simp only [smT]); omega) ?_ | refine Rw.map (by (try simp only [smT]); omega) ?_ | refine Len.mk (by first | rfl | (simp; done) | (simp only [smT]; assumption) | (simp only [smT]; omega)) ?_ | refine Eqv.mk (by kernel_rfl) ?_ | refine Apd.mk (by first | rfl | simp) (by first | rfl | simp) (by (try simp only [smT]); first | omega | (simp; omega)) (by unfold maxLen; first | (simp; done) | (simp; omega) | omega) ?_ | refine Raw.capNil (T := tt) rfl rfl rfl rfl ?_ | refine Raw.sliceNil (T := tt) rfl rfl (by first | rfl | omega | (simp; done)) rfl rfl rfl rfl ?_ | (refine Raw.appendR (T := tt) ?_; (conv => whnf); first | refine Rw.lit rfl ?_ | refine Rw.self (by (try simp only [smT]); omega) ?_ | refine Rw.map (by (try simp only [smT]); omega) ?_) | refine Raw.appendIn (T := tt) rfl rfl rfl rfl rfl rfl rfl rfl rfl rfl (by (try simp only [smT]); omega) (by (try simp only [smT]); omega) ?_ | refine Raw.clear (T := tt) rfl rfl rfl rfl rfl rfl rfl (by (try simp only [smT]); omega) ?_ | refine Slc.mk ⟨_, _, rfl, rfl, (by (try simp only [smT]); omega), (by (try simp only [smT]); omega), ?_⟩ | refine Slc.mk ⟨0, _, rfl, rfl, (by (try simp only [smT]); omega), (by (try simp only [smT]); omega), ?_⟩ | refine Slc.mk ⟨1, _, rfl, rfl, (by (try simp only [smT]); omega), (by (try simp only [smT]); omega), ?_⟩ | refine Slc3.mk ⟨_, _, _, rfl, rfl, rfl, (by (try simp only [smT]); omega), (by (try simp only [smT]); omega), (by (try simp only [smT]); omega)⟩ ?_ | refine Drw.ofF (T := tt) (i := 10) [6, 12, 13] [7, 8, 9, 10, 11] [(1, true), (2, true), (3, true), (4, true), (5, true), (7, true), (8, true), (9, true), (10, true), (11, true), (0, false), (6, false), (12, false), (13, false)] (by kernel_rfl) ?_ | refine Drw.ofP (T := tt) (i := 10) [0, 6, 12, 13] [1, 2, 3, 4, 5, 7, 8, 9, 10, 11] [1, 2, 3, 4, 5, 7, 8, 9, 10, 11] (OT.alt 0 (OT.alt 6 (OT.alt 12 (OT.alt 13 OT.nil OT.nil) OT.nil) OT.nil) OT.nil) (by kernel_rfl) ?_ | (refine CL.mk (Or.inl ?_); (conv => whnf); first | refine Cl.is (at_T _ _) rfl (by first | exact fun _ => rfl | (intro e; cases e; done) | fail) ?_) | (refine CL.mk (Or.inl ?_); (conv => whnf); refine ClO.mk (Or.inl ?_); (repeat ((conv => whnf); refine Len.mk (by first | rfl | (simp; done) | (simp only [smT]; assumption) | (simp only [smT]; omega)) ?_)); (conv => whnf); first | refine Cl.is (at_T _ _) rfl (by first | exact fun _ => rfl | (intro e; cases e; done) | fail) ?_) | (refine CL.mk (Or.inl ?_); (conv => whnf); refine ClO.mk (Or.inr ?_); (repeat ((conv => whnf); refine Len.mk (by first | rfl | (simp; done) | (simp only [smT]; assumption) | (simp only [smT]; omega)) ?_)); (conv => whnf); first | refine Cl.is (at_T _ _) rfl (by first | exact fun _ => rfl | (intro e; cases e; done) | fail) ?_))
            all_goals (conv => whnf)
            · exact ⟨i + 1, ⟨by omega, by simpa using hX.symm⟩, by omega, [(2, .k 2)], ⟨by (try dsimp only); (repeat (refine LeT.cons rfl (by first | exact LeS.d (by first | exact LeD.u rfl | exact LeD.p rfl | exact LeD.ow rfl rfl | exact LeD.ow rfl (by simp) | exact LeD.no rfl rfl | exact LeD.nl (by first | rfl | simp) | exact LeD.u (by simp; done) | exact LeD.u (by congr 1; omega) | exact LeD.q rfl | exact LeD.r rfl | exact LeD.r (by simp; done) | exact LeD.re | exact LeD.ows rfl rfl rfl | exact LeD.u (by congr 1; congr 1; simp) | exact LeD.fn (by repeat (first | exact LeN.nil | refine LeN.cons rfl ?_))) | exact LeS.a (by repeat (first | exact LeL.nil | refine LeL.cons (by first | exact LeD.u rfl | exact LeD.p rfl | exact LeD.ow rfl rfl | exact LeD.ow rfl (by simp) | exact LeD.no rfl rfl | exact LeD.nl (by first | rfl | simp) | exact LeD.u (by simp; done) | exact LeD.u (by congr 1; omega) | exact LeD.q rfl | exact LeD.r rfl | exact LeD.r (by simp; done) | exact LeD.re | exact LeD.ows rfl rfl rfl | exact LeD.u (by congr 1; congr 1; simp) | exact LeD.fn (by repeat (first | exact LeN.nil | refine LeN.cons rfl ?_))) ?_))) ?_)); exact LeT.nil, by (try dsimp only); repeat (first | exact LeO.nil | refine LeO.bx rfl rfl (by repeat (first | exact LeL.nil | refine LeL.cons (by first | exact LeD.u rfl | exact LeD.p rfl | exact LeD.ow rfl rfl | exact LeD.ow rfl (by simp) | exact LeD.no rfl rfl | exact LeD.nl (by first | rfl | simp) | exact LeD.u (by simp; done) | exact LeD.u (by congr 1; omega) | exact LeD.q rfl | exact LeD.r rfl | exact LeD.r (by simp; done) | exact LeD.re | exact LeD.ows rfl rfl rfl | exact LeD.u (by congr 1; congr 1; simp) | exact LeD.fn (by repeat (first | exact LeN.nil | refine LeN.cons rfl ?_))) ?_)) ?_ | refine LeO.ar rfl rfl (by first | rfl | simp) ?_ | refine LeO.fm rfl (by first | rfl | simp) ?_ | refine LeO.no rfl rfl ?_)⟩⟩
      · obtain rfl : i = jobs.length := by omega
        rw [he, List.drop_length, jobsM]
        repeat' ((conv => whnf); first | refine Gs.id ?_ | with_reducible refine And.intro ?_ ?_ | with_reducible refine Brn.T rfl ?_ | with_reducible refine Brn.F rfl ?_ | refine Brn.T (by (try simp only [smT]); first | rfl | assumption | omega | (simp only [*]; done) | (simp [*]; done) | fail) ?_ | refine Brn.F (by (try simp only [smT]); first | rfl | assumption | omega | (simp only [*]; done) | (simp [*]; done) | fail) ?_ | (refine Brn.mk (fun hb => ?_) (fun hb => ?_) <;> (try simp only [smT] at hb) <;> (try (exact absurd trivial hb)) <;> (try (exfalso; omega))) | (refine Bnd.mk (fun hm => ?_); (try simp only [smT] at hm)) | refine Rng.mk (by (try simp only [smT]); omega) ?_ | refine Ix.map rfl (by (try simp only [smT]); omega) ?_ | refine Ix.map (m := 0) rfl (by (try simp only [smT]); omega) ?_ | refine Ix.lit (m := 0) rfl rfl ?_ | refine Ixo.mk ⟨_, rfl, (by (try simp only [smT]); omega), ?_⟩ | refine Rw.lit rfl ?_ | refine Rw.self (by (try simp only [smT]); omega) ?_ | refine Rw.map (by (try simp only [smT]); omega) ?_ | refine Len.mk (by first | rfl | (simp; done) | (simp only [smT]; assumption) | (simp only [smT]; omega)) ?_ | refine Eqv.mk (by kernel_rfl) ?_ | refine Apd.mk (by first | rfl | simp) (by first | rfl | simp) (by (try simp only [smT]); first | omega | (simp; omega)) (by unfold maxLen; first | (simp; done) | (simp; omega) | omega) ?_ | refine Raw.capNil (T := tt) rfl rfl rfl rfl ?_ | refine Raw.sliceNil (T := tt) rfl rfl (by first | rfl | omega | (simp; done)) rfl rfl rfl rfl ?_ | (refine Raw.appendR (T := tt) ?_; (conv => whnf); first | refine Rw.lit rfl ?_ | refine Rw.self (by (try simp only [smT]); omega) ?_ | refine Rw.map (by (try simp only [smT]); omega) ?_) | refine Raw.appendIn (T := tt) rfl rfl rfl rfl rfl rfl rfl rfl rfl rfl (by (try simp only [smT]); omega) (by (try simp only [smT]); omega) ?_ | refine Raw.clear (T := tt) rfl rfl rfl rfl rfl rfl rfl (by (try simp only [smT]); omega) ?_ | refine Slc.mk ⟨_, _, rfl, rfl, (by (try simp only [smT]); omega), (by (try simp only [smT]); omega), ?_⟩ | refine Slc.mk ⟨0, _, rfl, rfl, (by (try simp only [smT]); omega), (by (try simp only [smT]); omega), ?_⟩ | refine Slc.mk ⟨1, _, rfl, rfl, (by (try simp only [smT]); omega), (by (try simp only [smT]); omega), ?_⟩ | refine Slc3.mk ⟨_, _, _, rfl, rfl, rfl, (by (try simp only [smT]); omega), (by (try simp only [smT]); omega), (by (try simp only [smT]); omega)⟩ ?_ | refine Drw.ofF (T := tt) (i := 10) [6, 12, 13] [7, 8, 9, 10, 11] [(1, true), (2, true), (3, true), (4, true), (5, true), (7, true), (8, true), (9, true), (10, true), (11, true), (0, false), (6, false), (12, false), (13, false)] (by kernel_rfl) ?_ | refine Drw.ofP (T := tt) (i := 10) [0, 6, 12, 13] [1, 2, 3, 4, 5, 7, 8, 9, 10, 11] [1, 2, 3, 4, 5, 7, 8, 9, 10, 11] (OT.alt 0 (OT.alt 6 (OT.alt 12 (OT.alt 13 OT.nil OT.nil) OT.nil) OT.nil) OT.nil) (by kernel_rfl) ?_ | (refine CL.mk (Or.inl ?_); (conv => whnf); first | refine Cl.is (at_T _ _) rfl (by first | exact fun _ => rfl | (intro e; cases e; done) | fail) ?_) | (refine CL.mk (Or.inl ?_); (conv => whnf); refine ClO.mk (Or.inl ?_); (repeat ((conv => whnf); refine Len.mk (by first | rfl | (simp; done) | (simp only [smT]; assumption) | (simp only [smT]; omega)) ?_)); (conv => whnf); first | refine Cl.is (at_T _ _) rfl (by first | exact fun _ => rfl | (intro e; cases e; done) | fail) ?_) | (refine CL.mk (Or.inl ?_); (conv => whnf); refine ClO.mk (Or.inr ?_); (repeat ((conv => whnf); refine Len.mk (by first | rfl | (simp; done) | (simp only [smT]; assumption) | (simp only [smT]; omega)) ?_)); (conv => whnf); first | refine Cl.is (at_T _ _) rfl (by first | exact fun _ => rfl | (intro e; cases e; done) | fail) ?_))
        all_goals (conv => whnf)
        · exact Ret.is rfl
end Go.Proofs.Ytgiebofmfkacgaa
