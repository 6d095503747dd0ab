/-
  EventloopDelaysScale: for all jobs and every factor the law returns true, and the jobs read afterwards as they read before. No condition.
-/
import Derived.Test.YtgiebofmfkacgaaQb6
namespace Go.Proofs.Ytgiebofmfkacgaa

def begunS (l : List Rc) (x : Int) : Bool := l.any fun r => r.kind == 1 && r.task == x
def endedS (l : List Rc) (x : Int) : Bool := l.any fun r => r.kind == 3 && r.task == x
def lastS (l : List Rc) : Int := l.foldl (fun a r => if r.kind = 1 then r.task else a) (-1)
/-- What is asked of a record behind others. -/
structure RecOk (l : List Rc) (r : Rc) : Prop where
  tim : ∀ q, l.getLast? = some q → q.time ≤ r.time
  rng : 0 ≤ r.task ∧ r.task ≤ 59
  en : endedS l r.task = false
  be : r.kind = 1 → begunS l r.task = false ∧ lastS l < r.task
  sa : r.kind = 2 → begunS l r.task = true
def LiveL (l : List Rc) : Prop := ∀ (i : Nat) r, l[i]? = some r → RecOk (l.take i) r
theorem LiveL.nil : LiveL [] := fun i r h => by simp at h
theorem LiveL.snoc {l : List Rc} {r : Rc} (h : LiveL l) (k : RecOk l r) : LiveL (l ++ [r]) := fun i q hq => by
  rcases Nat.lt_trichotomy i l.length with hi | hi | hi
  · rw [List.getElem?_append_left hi] at hq
    rw [List.take_append_of_le_length (Nat.le_of_lt hi)]
    exact h i q hq
  · subst hi
    simp at hq
    subst hq
    rw [List.take_left']
    · exact k
    · rfl
  · rw [List.getElem?_eq_none (by simp; omega)] at hq; cases hq
theorem begunS_snoc (l : List Rc) (r : Rc) (x : Int) : begunS (l ++ [r]) x = (begunS l x || (r.kind == 1 && r.task == x)) := by simp [begunS]
theorem endedS_snoc (l : List Rc) (r : Rc) (x : Int) : endedS (l ++ [r]) x = (endedS l x || (r.kind == 3 && r.task == x)) := by simp [endedS]
theorem lastS_snoc (l : List Rc) (r : Rc) : lastS (l ++ [r]) = if r.kind = 1 then r.task else lastS l := by simp [lastS, List.foldl_append]
def ub (tasks : List Tsk) (x : Int) : Bool := match tasks[x.toNat]? with
  | some t => !t.begun
  | none => false
theorem ub_nat {tasks : List Tsk} {i : Nat} {t : Tsk} (h : tasks[i]? = some t) : ub tasks (i : Int) = !t.begun := by simp [ub, h]
structure LInv (s : Sm) (run : List Int) : Prop where
  live : LiveL s.log
  rel : ∀ (i : Nat) t, s.tasks[i]? = some t → t.begun = begunS s.log i ∧ t.ended = endedS s.log i
  no : ∀ i : Nat, s.tasks.length ≤ i → begunS s.log i = false ∧ endedS s.log i = false
  tim : ∀ r ∈ s.log, r.time ≤ s.now
  unb : ∀ (i : Nat) t, s.tasks[i]? = some t → t.ended = false → t.begun = false → (i : Int) ∈ run ++ s.rs
  ord : ((run ++ s.rs).filter (ub s.tasks)).Pairwise (· < ·)
  lst : ∀ x ∈ run ++ s.rs, ub s.tasks x = true → lastS s.log < x
  lsm : lastS s.log < s.tasks.length
section
variable {jobs : List Jb} {s s' : Sm} {run run' : List Int} {M σ n : Nat} {x : Int}
theorem ub_congr {a b : List Tsk} (h : ∀ i : Nat, (a[i]?).map (fun t => (t.begun, t.ended)) = (b[i]?).map fun t => (t.begun, t.ended)) : ub a = ub b := by
  funext x
  have := h x.toNat
  simp only [ub]
  cases ha : a[x.toNat]? <;> cases hb : b[x.toNat]? <;> rw [ha, hb] at this <;> simp at this <;> simp [this]
theorem LInv.quiet (g : LInv s run) (hb : ∀ i : Nat, (s'.tasks[i]?).map (fun t => (t.begun, t.ended)) = (s.tasks[i]?).map fun t => (t.begun, t.ended)) (hl : s'.log = s.log) (hn : s.now ≤ s'.now) (hf : (run' ++ s'.rs).filter (ub s.tasks) = (run ++ s.rs).filter (ub s.tasks)) (hlen : s'.tasks.length = s.tasks.length) : LInv s' run' := by
  have hu := ub_congr hb
  have hmem : ∀ x, ub s.tasks x = true → (x ∈ run' ++ s'.rs ↔ x ∈ run ++ s.rs) := fun x hx => by
    constructor
    · intro h
      have : x ∈ (run' ++ s'.rs).filter (ub s.tasks) := List.mem_filter.2 ⟨h, hx⟩
      rw [hf] at this
      exact (List.mem_filter.1 this).1
    · intro h
      have : x ∈ (run ++ s.rs).filter (ub s.tasks) := List.mem_filter.2 ⟨h, hx⟩
      rw [← hf] at this
      exact (List.mem_filter.1 this).1
  have back : ∀ (i : Nat) t, s'.tasks[i]? = some t → ∃ u, s.tasks[i]? = some u ∧ u.begun = t.begun ∧ u.ended = t.ended := fun i t h => by
    have := hb i
    rw [h] at this
    cases hs : s.tasks[i]? with
    | none => rw [hs] at this; cases this
    | some u => rw [hs] at this; simp at this; exact ⟨u, rfl, this.1.symm, this.2.symm⟩
  refine ⟨by rw [hl]; exact g.live, fun i t h => ?_, fun i h => ?_, fun r h => ?_, fun i t h he hbg => ?_, ?_, fun x h hx => ?_, by rw [hl, hlen]; exact g.lsm⟩
  · obtain ⟨u, u1, u2, u3⟩ := back i t h
    rw [hl, ← u2, ← u3]; exact g.rel i u u1
  · rw [hl]; exact g.no i (by rw [← hlen]; exact h)
  · rw [hl] at h; exact Int.le_trans (g.tim r h) hn
  · obtain ⟨u, u1, u2, u3⟩ := back i t h
    have := g.unb i u u1 (by rw [u3]; exact he) (by rw [u2]; exact hbg)
    exact (hmem _ (by rw [ub_nat u1, u2, hbg]; rfl)).2 this
  · rw [hu, hf]; exact g.ord
  · rw [hu] at hx
    rw [hl]
    exact g.lst x ((hmem x hx).1 h) hx
/-- A record of the running task. -/
theorem RecOk.of (L : LInv s run) (g : Good jobs s run M σ) (hn : (n : Int) ∈ run) {k v : Int} (h1 : k = 1 → ∃ t, s.tasks[n]? = some t ∧ t.begun = false) (h2 : k = 2 → ∃ t, s.tasks[n]? = some t ∧ t.begun = true) : RecOk s.log ⟨s.now, n, k, v⟩ := by
  obtain ⟨i, t, e, ht, he⟩ := g.pl.al (n : Int) (List.mem_append_left _ hn)
  obtain rfl : n = i := by omega
  have hlt := lt_of_get ht
  have hlen := g.len
  obtain ⟨q1, q2⟩ := L.rel n t ht
  refine ⟨fun q hq => L.tim q (List.mem_of_getLast? hq), ⟨by dsimp only; omega, by dsimp only; omega⟩, by rw [← q2]; exact he, fun e => ?_, fun e => ?_⟩
  · obtain ⟨u, u1, u2⟩ := h1 e
    rw [ht] at u1
    injection u1 with u1
    subst u1
    exact ⟨by rw [← q1]; exact u2, L.lst n (List.mem_append_left _ hn) (by rw [ub_nat ht, u2]; rfl)⟩
  · obtain ⟨u, u1, u2⟩ := h2 e
    rw [ht] at u1
    injection u1 with u1
    subst u1
    rw [← q1]; exact u2
/-- A record that is neither a beginning nor an end. -/
theorem LInv.say (L : LInv s run) {k v : Int} (h1 : k ≠ 1) (h3 : k ≠ 3) (r : RecOk s.log ⟨s.now, n, k, v⟩) : LInv ⟨s.now, s.ser, s.rs, s.ts, s.tasks, s.log ++ [⟨s.now, n, k, v⟩]⟩ run := by
  have e1 : ∀ x, begunS (s.log ++ [⟨s.now, n, k, v⟩]) x = begunS s.log x := fun x => by rw [begunS_snoc]; simp [h1]
  have e3 : ∀ x, endedS (s.log ++ [⟨s.now, n, k, v⟩]) x = endedS s.log x := fun x => by rw [endedS_snoc]; simp [h3]
  have e2 : lastS (s.log ++ [⟨s.now, n, k, v⟩]) = lastS s.log := by rw [lastS_snoc]; simp [h1]
  refine ⟨L.live.snoc r, fun i t h => ?_, fun i h => ?_, fun q h => ?_, L.unb, L.ord, fun x h hx => by dsimp only; rw [e2]; exact L.lst x h hx, by dsimp only; rw [e2]; exact L.lsm⟩
  · dsimp only; rw [e1, e3]; exact L.rel i t h
  · dsimp only; rw [e1, e3]; exact L.no i h
  · simp only [List.mem_append, List.mem_singleton] at h
    rcases h with h | rfl
    · exact L.tim q h
    · exact Int.le_refl _
theorem filt_skip {p : Int → Bool} {l : List Int} (h : p x = false) : (l ++ [x]).filter p = l.filter p := by simp [h]
theorem filt_head {p : Int → Bool} {l : List Int} (h : p x = false) : ([x] ++ l).filter p = l.filter p := by simp [h]
/-- A task begins. -/
theorem LInv.begin (L : LInv s [(n : Int)]) (g : Good jobs s [(n : Int)] M σ) {t : Tsk} (ht : s.tasks[n]? = some t) (hb : t.begun = false) {v : Int} : LInv ⟨s.now, s.ser, s.rs, s.ts, s.tasks.set n { t with begun := true }, s.log ++ [⟨s.now, n, 1, v⟩]⟩ [(n : Int)] := by
  have hn := lt_of_get ht
  have r : RecOk s.log ⟨s.now, n, 1, v⟩ := RecOk.of L g (by simp) (fun _ => ⟨t, ht, hb⟩) (fun e => absurd e (by decide))
  have hno := List.nodup_cons.1 (show ((n : Int) :: pl s).Nodup from g.pl.nd)
  have hno' : (n : Int) ∉ s.rs := fun q => hno.1 (List.mem_append_left _ (List.mem_append_left _ q))
  have e3 : ∀ x, endedS (s.log ++ [⟨s.now, n, 1, v⟩]) x = endedS s.log x := fun x => by rw [endedS_snoc]; simp
  have e1 : ∀ x : Int, begunS (s.log ++ [⟨s.now, n, 1, v⟩]) x = (begunS s.log x || (n : Int) == x) := fun x => by rw [begunS_snoc]; simp
  have e2 : lastS (s.log ++ [⟨s.now, n, 1, v⟩]) = n := by rw [lastS_snoc]; simp
  have hubn : ub (s.tasks.set n { t with begun := true }) (n : Int) = false := by rw [ub_nat (t := { t with begun := true }) (by simp [hn])]; rfl
  have hubo : ∀ x : Int, 0 ≤ x → x ≠ n → ub (s.tasks.set n { t with begun := true }) x = ub s.tasks x := fun x h0 hx => by
    have : ¬ n = x.toNat := by omega
    simp only [ub, List.getElem?_set_ne this]
  have hfs : s.rs.filter (ub (s.tasks.set n { t with begun := true })) = s.rs.filter (ub s.tasks) := List.filter_congr fun x hx => by
    obtain ⟨i, rfl, _⟩ := alive_lt (g.pl.al x (by simp [pl, hx]))
    exact hubo _ (by omega) fun e => hno' (e ▸ hx)
  have hord := L.ord
  rw [List.singleton_append, List.filter_cons_of_pos (by rw [ub_nat ht, hb]; rfl), List.pairwise_cons] at hord
  refine ⟨L.live.snoc r, fun i u h => ?_, fun i h => ?_, fun q h => ?_, fun i u h he hbu => ?_, ?_, fun x h hx => ?_, ?_⟩
  · dsimp only at h ⊢
    rw [e1, e3]
    by_cases hi : n = i
    · subst hi
      simp [hn] at h
      subst h
      simp only [beq_self_eq_true, Bool.or_true]
      exact ⟨trivial, (L.rel n t ht).2⟩
    · rw [List.getElem?_set_ne hi] at h
      have : ((n : Int) == (i : Int)) = false := by simp; omega
      rw [this, Bool.or_false]
      exact L.rel i u h
  · dsimp only at h ⊢
    simp only [List.length_set] at h
    have : ((n : Int) == (i : Int)) = false := by simp; omega
    rw [e1, e3, this, Bool.or_false]
    exact L.no i h
  · simp only [List.mem_append, List.mem_singleton] at h
    rcases h with h | rfl
    · exact L.tim q h
    · exact Int.le_refl _
  · dsimp only at h ⊢
    by_cases hi : n = i
    · subst hi; simp
    · rw [List.getElem?_set_ne hi] at h
      exact L.unb i u h he hbu
  · dsimp only
    rw [filt_head hubn, hfs]
    exact hord.2
  · dsimp only at h hx ⊢
    rw [e2]
    rcases List.mem_cons.1 (show x ∈ (n : Int) :: s.rs from h) with rfl | h
    · rw [hubn] at hx; cases hx
    · obtain ⟨i, rfl, _⟩ := alive_lt (g.pl.al x (by simp [pl, h]))
      rw [hubo _ (by omega) fun e => hno' (e ▸ h)] at hx
      exact hord.1 _ (List.mem_filter.2 ⟨h, hx⟩)
  · dsimp only; rw [e2]; simp; omega
end
end Go.Proofs.Ytgiebofmfkacgaa
namespace Go.Proofs.Ytgiebofmfkacgaa
section
variable {jobs : List Jb} {s s' : Sm} {run run' : List Int} {M σ n : Nat} {x : Int}
theorem be_set {n i : Nat} {t t' : Tsk} (h : s.tasks[n]? = some t) (e1 : t'.begun = t.begun) (e2 : t'.ended = t.ended) : ((s.tasks.set n t')[i]?).map (fun t => (t.begun, t.ended)) = (s.tasks[i]?).map fun t => (t.begun, t.ended) := by
  by_cases hi : n = i
  · subst hi
    rw [h]; simp [lt_of_get h, e1, e2]
  · rw [List.getElem?_set_ne hi]
theorem LInv.upd (L : LInv s run) {t t' : Tsk} (h : s.tasks[n]? = some t) (e1 : t'.begun = t.begun) (e2 : t'.ended = t.ended) : LInv ⟨s.now, s.ser, s.rs, s.ts, s.tasks.set n t', s.log⟩ run :=
  L.quiet (fun _ => be_set h e1 e2) rfl (Int.le_refl _) rfl (by simp)
theorem next_queue {c : Ck} {x : Int} {l : List Int} (hv : Valid c) (h : c.rs = x :: l) : nextM c = (⟨c.now, c.ser, l, c.ts⟩, (x, (0, 0))) := by
  rw [nextM, if_pos ((valid_iff c).2 hv), fire_rs c (by rw [h]; simp), popM, h]
theorem LInv.pop (L : LInv s []) (g : Good jobs s [] M 0) {c' : Ck} {x : Int} (h : nextM s.ck = (c', (x, (0, 0)))) : LInv (s.put c') [x] := by
  obtain ⟨_, g2, hnow, hl⟩ := g.pop h
  refine L.quiet (fun _ => rfl) rfl hnow ?_ rfl
  cases hr : s.rs with
  | cons y r =>
    have := next_queue (c := s.ck) g.v hr
    rw [h] at this
    injection this with e1 e2
    injection e2 with e2 _
    subst e1 e2
    rfl
  | nil =>
    have none_ : ∀ y : Int, alive s.tasks y → ub s.tasks y = false := fun y ⟨i, t, e, ht, he⟩ => by
      subst e
      rw [ub_nat ht]
      cases hb : t.begun
      · have := L.unb i t ht he hb
        rw [hr] at this
        cases this
      · rfl
    have : ∀ y ∈ [x] ++ c'.rs, ub s.tasks y = false := fun y hy => by
      refine none_ y (g2.pl.al y ?_)
      simp only [List.mem_append] at hy ⊢
      rcases hy with hy | hy
      · exact .inl hy
      · exact .inr (by simp only [pl, List.mem_append]; exact .inl (.inl hy))
    simp only [Sm.put]
    rw [List.filter_eq_nil_iff.2 (fun y hy => by rw [this y hy]; decide)]
    rfl
theorem LInv.begun_not (L : LInv s run) (g : Good jobs s run M σ) {x : Int} (h : x ∈ s.ts.map (·.task) ∨ x ∈ wts s.tasks) : ub s.tasks x = false := by
  have hx : x ∈ run ++ pl s := by simp only [pl, List.mem_append]; rcases h with h | h <;> simp [h]
  obtain ⟨i, t, rfl, ht, he⟩ := g.pl.al x hx
  rw [ub_nat ht]
  cases hb : t.begun
  · have h1 := L.unb i t ht he hb
    have hnd := g.pl.nd
    have hp : run ++ pl s = (run ++ s.rs) ++ (s.ts.map (·.task) ++ wts s.tasks) := by simp [pl]
    rw [hp, List.nodup_append] at hnd
    exact absurd rfl (hnd.2.2 _ h1 _ (by simp only [List.mem_append]; exact h))
  · rfl
theorem LInv.run_begun (L : LInv s [(n : Int)]) {t : Tsk} (ht : s.tasks[n]? = some t) (hb : t.begun = true) : ub s.tasks (n : Int) = false := by rw [ub_nat ht, hb]; rfl
theorem LInv.sleep (L : LInv s [(n : Int)]) {t : Tsk} (ht : s.tasks[n]? = some t) (hb : t.begun = true) (d : Int) : LInv (s.put (sleptM s.ck n d)) [] := by
  have hu := L.run_begun ht hb
  refine L.quiet (fun _ => rfl) rfl ?_ ?_ rfl
  · simp only [Sm.put, sleptM]; split <;> exact Int.le_refl _
  · rw [List.nil_append, filt_head hu]
    simp only [Sm.put, sleptM]
    split
    · exact filt_skip hu
    · rfl
theorem LInv.wait (L : LInv s [(n : Int)]) {t u : Tsk} (ht : s.tasks[n]? = some t) (hb : t.begun = true) {m : Nat} (hu : s.tasks[m]? = some u) : LInv ⟨s.now, s.ser, s.rs, s.ts, s.tasks.set m { u with waiters := u.waiters ++ [(n : Int)] }, s.log⟩ [] :=
  L.quiet (fun _ => be_set hu rfl rfl) rfl (Int.le_refl _) (by rw [List.nil_append, filt_head (L.run_begun ht hb)]) (by simp)
theorem cancelTs_be (tasks : List Tsk) (m i : Nat) : ((cancelTs tasks m)[i]?).map (fun t => (t.begun, t.ended)) = (tasks[i]?).map fun t => (t.begun, t.ended) := by
  rw [cancelTs_get]; cases tasks[i]? <;> rfl
theorem LInv.cancel (L : LInv s [(n : Int)]) {m : Nat} {t : Tsk} (h : s.tasks[m]? = some t) (hmn : m ≠ n) (he : t.ended = false) : LInv ⟨(wokenM s.ck m).now, (wokenM s.ck m).ser, (wokenM s.ck m).rs, (wokenM s.ck m).ts, cancelTs s.tasks m, s.log⟩ [(n : Int)] := by
  refine L.quiet (fun i => cancelTs_be _ _ _) rfl ?_ ?_ (by simp [cancelTs_len])
  · simp only [wokenM]; split <;> exact Int.le_refl _
  · simp only [wokenM]
    split
    · rfl
    · rename_i hh
      have hm : (m : Int) ∉ s.rs := (has_false_iff _ _).1 (by simpa using hh)
      have hub : ub s.tasks (m : Int) = false := by
        rw [ub_nat h]
        cases hb : t.begun
        · have := L.unb m t h he hb
          rw [List.singleton_append, List.mem_cons] at this
          rcases this with e | e
          · omega
          · exact absurd e hm
        · rfl
      simp only [enq]
      rw [← List.append_assoc]
      exact filt_skip hub
theorem LInv.spawn (L : LInv s [(n : Int)]) (g : Good jobs s [(n : Int)] M σ) (j : Nat) : LInv (spawnM jobs s j) [(n : Int)] := by
  unfold spawnM
  by_cases h6 : s.tasks.length = 60
  · rw [if_pos h6]; exact L
  · rw [if_neg h6]
    have hlen := g.len
    rw [g.spawnEq (by omega)]
    have hl : ∀ x ∈ [(n : Int)] ++ s.rs, ∃ i : Nat, x = (i : Int) ∧ i < s.tasks.length := fun x hx => alive_lt (g.pl.al x (by
      simp only [List.mem_append] at hx ⊢
      rcases hx with hx | hx
      · exact .inl hx
      · exact .inr (by simp only [pl, List.mem_append]; exact .inl (.inl hx))))
    have hub : ∀ x ∈ [(n : Int)] ++ s.rs, ub (s.tasks ++ [⟨j, false, false, false, false, (jobs.getD j ⟨[], []⟩).acts, []⟩]) x = ub s.tasks x := fun x hx => by
      obtain ⟨i, rfl, hi⟩ := hl x hx
      simp only [ub, Int.toNat_natCast, List.getElem?_append_left hi]
    have hubn : ub (s.tasks ++ [⟨j, false, false, false, false, (jobs.getD j ⟨[], []⟩).acts, []⟩]) (s.tasks.length : Int) = true := by simp [ub]
    have hlsm := L.lsm
    refine ⟨L.live, fun i t h => ?_, fun i h => ?_, L.tim, fun i t h he hb => ?_, ?_, fun x h hx => ?_, ?_⟩
    · dsimp only at h ⊢
      by_cases hi : i < s.tasks.length
      · rw [List.getElem?_append_left hi] at h; exact L.rel i t h
      · have hi2 : i = s.tasks.length := by have := (List.getElem?_eq_some_iff.1 h).1; simp at this; omega
        subst hi2
        simp at h
        subst h
        obtain ⟨q1, q2⟩ := L.no s.tasks.length (Nat.le_refl _)
        exact ⟨q1.symm, q2.symm⟩
    · dsimp only at h ⊢
      simp at h
      exact L.no i (by omega)
    · dsimp only [enq, Sm.ck] at h ⊢
      by_cases hi : i < s.tasks.length
      · rw [List.getElem?_append_left hi] at h
        have := L.unb i t h he hb
        simp only [List.mem_append] at this ⊢
        rcases this with q | q
        · exact .inl q
        · exact .inr (.inl q)
      · have hi2 : i = s.tasks.length := by have := (List.getElem?_eq_some_iff.1 h).1; simp at this; omega
        subst hi2
        simp
    · dsimp only [enq, Sm.ck]
      rw [← List.append_assoc, List.filter_append, List.filter_congr hub, List.filter_cons_of_pos hubn, List.filter_nil, List.pairwise_append]
      refine ⟨L.ord, by simp, fun a ha b hb => ?_⟩
      simp at hb
      subst hb
      obtain ⟨i, rfl, hi⟩ := hl a (List.mem_filter.1 ha).1
      omega
    · dsimp only [enq, Sm.ck] at h hx ⊢
      rw [← List.append_assoc, List.mem_append] at h
      rcases h with h | h
      · rw [hub x h] at hx; exact L.lst x h hx
      · simp at h; subst h; exact hlsm
    · dsimp only; simp; omega
theorem LInv.end_ (L : LInv s [(n : Int)]) (g : Good jobs s [(n : Int)] M (σ + 1)) {t : Tsk} (h : s.tasks[n]? = some t) : LInv (endM s n) [] := by
  have r : RecOk s.log ⟨s.now, n, 3, 0⟩ := RecOk.of L g (by simp) (fun e => absurd e (by decide)) (fun e => absurd e (by decide))
  obtain ⟨hw, _⟩ := g.end_ h
  have hn := lt_of_get h
  rw [endM, h]
  simp only [hw]
  have e1 : ∀ x, begunS (s.log ++ [⟨s.now, n, 3, 0⟩]) x = begunS s.log x := fun x => by rw [begunS_snoc]; simp
  have e3 : ∀ x : Int, endedS (s.log ++ [⟨s.now, n, 3, 0⟩]) x = (endedS s.log x || (n : Int) == x) := fun x => by rw [endedS_snoc]; simp
  have e2 : lastS (s.log ++ [⟨s.now, n, 3, 0⟩]) = lastS s.log := by rw [lastS_snoc]; simp
  have hub : ub (s.tasks.set n { t with ended := true, waiters := [] }) = ub s.tasks := by
    funext x
    simp only [ub]
    by_cases hi : n = x.toNat
    · rw [← hi, h]; simp [hn]
    · rw [List.getElem?_set_ne hi]
  have hwn : ∀ x ∈ t.waiters, ub s.tasks x = false := fun x hx => L.begun_not g (.inr (mem_wts.2 ⟨t, List.mem_of_getElem? h, hx⟩))
  have hf : (s.rs ++ t.waiters).filter (ub s.tasks) = s.rs.filter (ub s.tasks) := by
    have hz : t.waiters.filter (ub s.tasks) = [] := List.filter_eq_nil_iff.2 (fun y hy => by rw [hwn y hy]; decide)
    rw [List.filter_append, hz, List.append_nil]
  have hsub : (s.rs.filter (ub s.tasks)).Sublist (([(n : Int)] ++ s.rs).filter (ub s.tasks)) := (List.sublist_append_right _ _).filter _
  refine ⟨L.live.snoc r, fun i u hu => ?_, fun i hi => ?_, fun q hq => ?_, fun i u hu he hb => ?_, ?_, fun x hx hxu => ?_, by dsimp only; rw [e2]; simpa using L.lsm⟩
  · dsimp only at hu ⊢
    rw [e1, e3]
    by_cases hi : n = i
    · subst hi
      simp [hn] at hu
      subst hu
      simp only [beq_self_eq_true, Bool.or_true]
      exact ⟨(L.rel n t h).1, trivial⟩
    · rw [List.getElem?_set_ne hi] at hu
      have : ((n : Int) == (i : Int)) = false := by simp; omega
      rw [this, Bool.or_false]
      exact L.rel i u hu
  · dsimp only at hi ⊢
    simp only [List.length_set] at hi
    have : ((n : Int) == (i : Int)) = false := by simp; omega
    rw [e1, e3, this, Bool.or_false]
    exact L.no i hi
  · simp only [List.mem_append, List.mem_singleton] at hq
    rcases hq with hq | rfl
    · exact L.tim q hq
    · exact Int.le_refl _
  · dsimp only at hu ⊢
    by_cases hi : n = i
    · subst hi
      simp [hn] at hu
      subst hu
      cases he
    · rw [List.getElem?_set_ne hi] at hu
      have := L.unb i u hu he hb
      rw [List.singleton_append, List.mem_cons] at this
      rcases this with e | e
      · omega
      · simp [e]
  · dsimp only
    rw [hub, List.nil_append, hf]
    exact L.ord.sublist hsub
  · dsimp only at hx hxu ⊢
    rw [hub] at hxu
    rw [e2]
    rw [List.nil_append, List.mem_append] at hx
    rcases hx with hx | hx
    · exact L.lst x (by simp [hx]) hxu
    · rw [hwn x hx] at hxu; cases hxu
theorem LInv.act (L : LInv s [(n : Int)]) (g : Good jobs s [(n : Int)] M σ) (hp : pot s + 2 ≤ M) {t : Tsk} (ht : s.tasks[n]? = some t) (hb : t.begun = true) {a : Ac} (ha : okB jobs a) : LInv (actM jobs s n a.kind a.n.toNat).1 (if (actM jobs s n a.kind a.n.toNat).2 then [] else [(n : Int)]) := by
  obtain ⟨ak, an⟩ := a
  obtain ⟨⟨a1, a2⟩, a3, a4, a5⟩ := ha
  dsimp only at a1 a2 a3 a4 a5 ⊢
  unfold actM
  split
  · exact L.say (by decide) (by decide) (RecOk.of L g (by simp) (fun e => absurd e (by decide)) fun _ => ⟨t, ht, hb⟩)
  split
  · rename_i _ hk
    have hd : 0 ≤ ((an.toNat : Nat) : Int) ∧ ((an.toNat : Nat) : Int) ≤ 1000000000 := ⟨by omega, by have := a4 hk; omega⟩
    simp only [g.sleepEq hd, if_true]
    exact L.sleep ht hb _
  split
  · exact L.spawn g _
  split
  · exact L
  · rename_i u hu
    split
    · split
      · rename_i hc
        simp only [if_true]
        exact L.wait ht hb hu
      · exact L
    · split
      · rename_i hc
        obtain ⟨e, k⟩ := g.cancel hp hu hc.1 hc.2.1
        simp only [e]
        exact L.cancel hu hc.1 hc.2.1
      · exact L
theorem LInv.go (hJ : Jok jobs) : ∀ {l : List Ac} {s : Sm} {M : Nat} {t : Tsk}, LInv s [(n : Int)] → Good jobs s [(n : Int)] M (σ + 1) → s.tasks[n]? = some t → t.left = l → t.begun = true → LInv (goM jobs n l s) []
  | [], s, M, t, L, g, ht, _, _ => L.end_ g ht
  | a :: l, s, M, t, L, g, ht, hl, hb => by
    obtain ⟨g1, hp⟩ := g.take ht hl
    have ha := (g.tk t (List.mem_of_getElem? ht)).2.2 a (by rw [hl]; simp)
    have g2 := g1.act hJ hp ha
    have hn := lt_of_get ht
    have ht1 : (⟨s.now, s.ser, s.rs, s.ts, s.tasks.set n { t with left := l }, s.log⟩ : Sm).tasks[n]? = some { t with left := l } := by simp [hn]
    have L1 : LInv ⟨s.now, s.ser, s.rs, s.ts, s.tasks.set n { t with left := l }, s.log⟩ [(n : Int)] := L.upd ht rfl rfl
    have L2 := L1.act g1 hp ht1 hb ha
    rw [goM, ht]
    simp only [Sm.set]
    have hbeg := actM_begun jobs ⟨s.now, s.ser, s.rs, s.ts, s.tasks.set n { t with left := l }, s.log⟩ n a.n.toNat a.kind { t with left := l } ht1
    obtain ⟨s', b, hr⟩ : ∃ s' b, actM jobs ⟨s.now, s.ser, s.rs, s.ts, s.tasks.set n { t with left := l }, s.log⟩ n a.kind a.n.toNat = (s', b) := ⟨_, _, rfl⟩
    simp only [hr] at g2 hbeg L2 ⊢
    cases b
    · obtain ⟨u, u1, u2, _, u3, _⟩ := hbeg rfl
      exact LInv.go hJ (l := l) L2 g2 u1 u2 (u3.trans hb)
    · exact L2
theorem LInv.proceed (hJ : Jok jobs) (L : LInv s [(n : Int)]) (g : Good jobs s [(n : Int)] M (σ + 2)) : LInv (proceedM jobs s n) [] := by
  have hn := g.run_lt (n := n) (by simp)
  obtain ⟨t, ht⟩ : ∃ t, s.tasks[n]? = some t := ⟨_, List.getElem?_eq_getElem hn⟩
  obtain ⟨⟨j, hj1, hj2⟩, k2, k3⟩ := g.tk t (List.mem_of_getElem? ht)
  rw [proceedM, ht]
  dsimp only
  have g1 : Good jobs (s.set n { t with cancelled := false }) [(n : Int)] M (σ + 2) := g.upd ht rfl rfl ⟨⟨j, hj1, hj2⟩, k2, k3⟩ (Nat.le_refl _)
  have ht1 : (s.set n { t with cancelled := false }).tasks[n]? = some { t with cancelled := false } := by simp [Sm.set, hn]
  have L1 : LInv (s.set n { t with cancelled := false }) [(n : Int)] := L.upd ht rfl rfl
  split
  · have L2 := L1.say (n := n) (k := 4) (v := 0) (by decide) (by decide) (RecOk.of L1 g1 (by simp) (fun e => absurd e (by decide)) fun e => absurd e (by decide))
    split
    · exact LInv.end_ (σ := σ) L2 (g1.note n 4 0) ht1
    · rename_i hc
      have hg : t.begun = true ∧ t.guarding = false := by simpa using hc
      have hjd : jobs.getD t.job.toNat ⟨[], []⟩ = jobs[j] := by simp [hj1, List.getD, hj2]
      obtain ⟨q1, q2⟩ := hJ.guard j hj2
      rw [hjd]
      have g2 := (g1.note n 4 0).upd (t' := { t with cancelled := false, guarding := true, left := jobs[j].guard }) ht1 rfl rfl ⟨⟨j, hj1, hj2⟩, q1, q2⟩ (by simp [wk, hg.2]; omega)
      have L3 := L2.upd (t' := { t with cancelled := false, guarding := true, left := jobs[j].guard }) ht1 rfl rfl
      exact LInv.go hJ (t := { t with cancelled := false, guarding := true, left := jobs[j].guard }) L3 g2 (by simp [hn, Sm.set, Sm.note]) rfl hg.1
  · split
    · rename_i hc
      have hb : t.begun = false := by simpa using hc
      have g2 := (g.note n 1 t.job).upd (t' := { t with begun := true }) ht rfl rfl ⟨⟨j, hj1, hj2⟩, k2, k3⟩ (Nat.le_refl _)
      exact LInv.go hJ (t := { t with begun := true }) (L.begin g ht hb) g2 (by simp [hn, Sm.set, Sm.note]) rfl rfl
    · rename_i hc
      exact LInv.go hJ L g.weak ht rfl (by simpa using hc)
theorem simF_live (hJ : Jok jobs) : ∀ {f : Nat} {s : Sm} {M : Nat}, Good jobs s [] M 0 → LInv s [] → LiveL (simF jobs f s)
  | 0, s, M, g, L => L.live
  | f + 1, s, M, g, L => by
    rw [simF]
    rcases next_spec g.v with ⟨_, hn⟩ | ⟨m, _, _, c', _, hn, _⟩
    · rw [hn, if_neg (by decide)]; exact L.live
    · rw [hn, if_pos rfl]
      obtain ⟨p1, p2, _⟩ := g.pop hn
      obtain ⟨i, rfl, hi⟩ := alive_lt (p2.pl.al m (by simp))
      obtain ⟨M', m1, m2⟩ := p2.weak.proceed (n := i) hJ
      simp only [Int.toNat_natCast]
      exact simF_live hJ m2 ((L.pop g hn).proceed hJ p2.weak)
theorem init_live (hJ : Jok jobs) : LInv (init jobs) [] := by
  refine ⟨.nil, fun i t h => ?_, fun i _ => ⟨rfl, rfl⟩, fun r h => by simp [init] at h, fun i t h _ _ => ?_, ?_, fun x h _ => ?_, by simp [init, lastS]⟩
  · cases i with
    | zero => simp [init] at h; subst h; exact ⟨rfl, rfl⟩
    | succ i => simp [init] at h
  · cases i with
    | zero => simp [init]
    | succ i => simp [init] at h
  · simp only [init, List.nil_append]
    rw [List.filter_cons_of_pos (by simp [ub])]
    simp
  · simp [init] at h
    subst h
    exact (by decide : (-1 : Int) < 0)
/-- Logs only grow. -/
theorem actM_grow (jobs : List Jb) (s : Sm) (n m : Nat) (k : Int) : ∃ r, (actM jobs s n k m).1.log = s.log ++ r := by
  unfold actM
  split
  · exact ⟨_, rfl⟩
  split
  · exact ⟨[], by simp [Sm.put]⟩
  split
  · unfold spawnM; split <;> exact ⟨[], by simp⟩
  split
  · exact ⟨[], by simp⟩
  · split
    · split <;> exact ⟨[], by simp⟩
    · split <;> exact ⟨[], by simp⟩
theorem endM_grow (s : Sm) (n : Nat) : ∃ r, (endM s n).log = s.log ++ r := by
  unfold endM
  split
  · exact ⟨[], by simp⟩
  · exact ⟨_, rfl⟩
theorem goM_grow (jobs : List Jb) (n : Nat) : ∀ (l : List Ac) (s : Sm), ∃ r, (goM jobs n l s).log = s.log ++ r
  | [], s => endM_grow s n
  | a :: l, s => by
    rw [goM]
    split
    · exact ⟨[], by simp⟩
    · rename_i t _
      obtain ⟨r, hr⟩ := actM_grow jobs (s.set n { t with left := l }) n a.n.toNat a.kind
      split
      · exact ⟨r, hr⟩
      · obtain ⟨q, hq⟩ := goM_grow jobs n l (actM jobs (s.set n { t with left := l }) n a.kind a.n.toNat).1
        exact ⟨r ++ q, by rw [hq, hr, List.append_assoc]; rfl⟩
theorem proceedM_grow (jobs : List Jb) (s : Sm) (n : Nat) : ∃ r, (proceedM jobs s n).log = s.log ++ r := by
  unfold proceedM
  split
  · exact ⟨[], by simp⟩
  · rename_i t _
    split
    · split
      · obtain ⟨r, h⟩ := endM_grow ((s.set n { t with cancelled := false }).note n 4 0) n
        exact ⟨[⟨s.now, n, 4, 0⟩] ++ r, by rw [h]; simp only [Sm.note, Sm.set, List.append_assoc]⟩
      · obtain ⟨r, h⟩ := goM_grow jobs n (jobs.getD t.job.toNat ⟨[], []⟩).guard (((s.set n { t with cancelled := false }).note n 4 0).set n { t with cancelled := false, guarding := true, left := (jobs.getD t.job.toNat ⟨[], []⟩).guard })
        exact ⟨[⟨s.now, n, 4, 0⟩] ++ r, by rw [h]; simp only [Sm.note, Sm.set, List.append_assoc]⟩
    · split
      · obtain ⟨r, h⟩ := goM_grow jobs n t.left ((s.note n 1 t.job).set n { t with begun := true })
        exact ⟨[⟨s.now, n, 1, t.job⟩] ++ r, by rw [h]; simp only [Sm.note, Sm.set, List.append_assoc]⟩
      · exact goM_grow jobs n _ s
theorem simF_grow (jobs : List Jb) : ∀ (f : Nat) (s : Sm), ∃ r, simF jobs f s = s.log ++ r
  | 0, s => ⟨[], by simp [simF]⟩
  | f + 1, s => by
    rw [simF]
    split
    · obtain ⟨r, h⟩ := proceedM_grow jobs (s.put (nextM s.ck).1) (nextM s.ck).2.1.toNat
      obtain ⟨q, k⟩ := simF_grow jobs f (proceedM jobs (s.put (nextM s.ck).1) (nextM s.ck).2.1.toNat)
      exact ⟨r ++ q, by rw [k, h, List.append_assoc]; rfl⟩
    · exact ⟨[], by simp⟩
theorem sim_first (jobs : List Jb) : ∃ r, simM jobs = ⟨0, 0, 1, 0⟩ :: r := by
  have e : nextM ⟨0, 0, [0], []⟩ = (⟨0, 0, [], []⟩, (0, (0, 0))) := by decide +kernel
  rw [simM, show (7202 : Nat) = 7201 + 1 from rfl, simF]
  have e' : nextM (init jobs).ck = (⟨0, 0, [], []⟩, (0, (0, 0))) := e
  rw [e', if_pos rfl]
  obtain ⟨q, k⟩ := simF_grow jobs 7201 (proceedM jobs ((init jobs).put ⟨0, 0, [], []⟩) ((0 : Int).toNat))
  rw [k]
  have : ∃ r, (proceedM jobs ((init jobs).put ⟨0, 0, [], []⟩) ((0 : Int).toNat)).log = ⟨0, 0, 1, 0⟩ :: r := by
    obtain ⟨r, h⟩ := goM_grow jobs 0 (jobs.getD 0 ⟨[], []⟩).acts ((((init jobs).put ⟨0, 0, [], []⟩).note 0 1 0).set 0 ⟨0, true, false, false, false, (jobs.getD 0 ⟨[], []⟩).acts, []⟩)
    refine ⟨r, ?_⟩
    have : proceedM jobs ((init jobs).put ⟨0, 0, [], []⟩) ((0 : Int).toNat) = goM jobs 0 (jobs.getD 0 ⟨[], []⟩).acts ((((init jobs).put ⟨0, 0, [], []⟩).note 0 1 0).set 0 ⟨0, true, false, false, false, (jobs.getD 0 ⟨[], []⟩).acts, []⟩) := rfl
    rw [this, h]
    rfl
  obtain ⟨r, h⟩ := this
  exact ⟨r ++ q, by rw [h]; rfl⟩
theorem sim_live {jobs : List Jb} (h : (simFault jobs).1 = 0) : LiveL (simM jobs) ∧ begunS (simM jobs) 0 = true := by
  have hJ := simFault_ok h
  refine ⟨simF_live hJ (init_good hJ) (init_live hJ), ?_⟩
  obtain ⟨r, e⟩ := sim_first jobs
  rw [e]
  simp [begunS]
end
end Go.Proofs.Ytgiebofmfkacgaa
namespace Go.Proofs.Ytgiebofmfkacgaa
theorem simF_top {jobs : List Jb} (hJ : Jok jobs) : ∀ {f : Nat} {s : Sm} {M : Nat}, Good jobs s [] M 0 → LInv s [] → ∀ r ∈ simF jobs f s, r.time ≤ 7201000000000
  | 0, s, M, g, L => fun r hr => by have := L.tim r hr; have := g.tm; omega
  | f + 1, s, M, g, L => by
    rw [simF]
    rcases next_spec g.v with ⟨_, hn⟩ | ⟨m, _, _, c', _, hn, _⟩
    · rw [hn, if_neg (by decide)]; exact fun r hr => by have := L.tim r hr; have := g.tm; omega
    · rw [hn, if_pos rfl]
      obtain ⟨p1, p2, _⟩ := g.pop hn
      obtain ⟨i, rfl, hi⟩ := alive_lt (p2.pl.al m (by simp))
      obtain ⟨M', m1, m2⟩ := p2.weak.proceed (n := i) hJ
      simp only [Int.toNat_natCast]
      exact simF_top hJ m2 ((L.pop g hn).proceed hJ p2.weak)
theorem sim_times {jobs : List Jb} (h : (simFault jobs).1 = 0) : ∀ (i : Nat) r, (simM jobs)[i]? = some r → 0 ≤ r.time ∧ r.time ≤ 7201000000000 := by
  have hJ := simFault_ok h
  obtain ⟨hl, _⟩ := sim_live h
  obtain ⟨q, e⟩ := sim_first jobs
  have low : ∀ (i : Nat) r, (simM jobs)[i]? = some r → 0 ≤ r.time := by
    intro i
    induction i with
    | zero => intro r hr; rw [e] at hr; simp at hr; subst hr; decide
    | succ i ih =>
      intro r hr
      have hi : i < (simM jobs).length := by have := (List.getElem?_eq_some_iff.1 hr).1; omega
      have h1 := ih _ (List.getElem?_eq_getElem hi)
      have h2 := (hl (i + 1) r hr).tim (simM jobs)[i] (by rw [List.take_succ_eq_append_getElem hi]; simp only [List.getLast?_append, List.getLast?_singleton, Option.some_or])
      omega
  exact fun i r hr => ⟨low i r hr, simF_top hJ (init_good hJ) (init_live hJ) r (List.mem_of_getElem? hr)⟩
end Go.Proofs.Ytgiebofmfkacgaa
namespace Go.Proofs.Ytgiebofmfkacgaa
open Go.RowKit
set_option maxHeartbeats 2000000 in
theorem scaled_T (l : List Ac) (k : Int) (hl : l.length ≤ 30) (hb : ∀ a ∈ l, a.kind = 2 → 0 ≤ a.n ∧ a.n ≤ 1000000000) (hk : 1 ≤ k) (hk' : k ≤ 1000) : CallsA Try.prog 32 [.d (.u (avs l)), di k] [] (Is (.d (.u (avs (l.map (scA k)))))) := by
  refine callsA_of_vc (T := tt) Try.func32 rfl rfl rfl rfl rfl ?_
  repeat' ((conv => whnf); first | refine Gs.id ?_ | with_reducible refine And.intro ?_ ?_ | with_reducible refine Brn.T rfl ?_ | with_reducible refine Brn.F rfl ?_ | refine Brn.T (by (try simp only [smT]); first | rfl | assumption | omega | (simp only [*]; done) | (simp [*]; done) | fail) ?_ | refine Brn.F (by (try simp only [smT]); first | rfl | assumption | omega | (simp only [*]; done) | (simp [*]; done) | fail) ?_ | (refine Brn.mk (fun hb => ?_) (fun hb => ?_) <;> (try simp only [smT] at hb) <;> (try (exact absurd trivial hb)) <;> (try (exfalso; omega))) | (refine Bnd.mk (fun hm => ?_); (try simp only [smT] at hm)) | refine Rng.mk (by (try simp only [smT]); omega) ?_ | refine Ix.map rfl (by (try simp only [smT]); omega) ?_ | refine Ix.map (m := 0) rfl (by (try simp only [smT]); omega) ?_ | refine Ix.lit (m := 0) rfl rfl ?_ | refine Ixo.mk ⟨_, rfl, (by (try simp only [smT]); omega), ?_⟩ | refine Rw.lit rfl ?_ | refine Rw.self (by (try simp only [smT]); omega) ?_ | refine Rw.map (by (try simp only [smT]); omega) ?_ | refine Len.mk (by first | rfl | (simp; done) | (simp only [smT]; assumption) | (simp only [smT]; omega)) ?_ | refine Eqv.mk (by kernel_rfl) ?_ | refine Apd.mk (by first | rfl | simp) (by first | rfl | simp) (by (try simp only [smT]); first | omega | (simp; omega)) (by unfold maxLen; first | (simp; done) | (simp; omega) | omega) ?_ | refine Raw.capNil (T := tt) rfl rfl rfl rfl ?_ | refine Raw.sliceNil (T := tt) rfl rfl (by first | rfl | omega | (simp; done)) rfl rfl rfl rfl ?_ | (refine Raw.appendR (T := tt) ?_; (conv => whnf); first | refine Rw.lit rfl ?_ | refine Rw.self (by (try simp only [smT]); omega) ?_ | refine Rw.map (by (try simp only [smT]); omega) ?_) | refine Raw.appendIn (T := tt) rfl rfl rfl rfl rfl rfl rfl rfl rfl rfl (by (try simp only [smT]); omega) (by (try simp only [smT]); omega) ?_ | refine Raw.clear (T := tt) rfl rfl rfl rfl rfl rfl rfl (by (try simp only [smT]); omega) ?_ | refine Slc.mk ⟨_, _, rfl, rfl, (by (try simp only [smT]); omega), (by (try simp only [smT]); omega), ?_⟩ | refine Slc.mk ⟨0, _, rfl, rfl, (by (try simp only [smT]); omega), (by (try simp only [smT]); omega), ?_⟩ | refine Slc.mk ⟨1, _, rfl, rfl, (by (try simp only [smT]); omega), (by (try simp only [smT]); omega), ?_⟩ | refine Slc3.mk ⟨_, _, _, rfl, rfl, rfl, (by (try simp only [smT]); omega), (by (try simp only [smT]); omega), (by (try simp only [smT]); omega)⟩ ?_)
  all_goals (conv => whnf)
  refine ⟨⟨Nat, fun i => i ≤ l.length, fun i => l.length - i, fun i => match i with
    | 0 => ⟨[(0, .d (.u (avs l))), (1, di k), (5, .d (.u .nl)), (6, di 0)], []⟩
    | i + 1 => ⟨[(0, .d (.u (avs l))), (1, di k), (5, .d (.ow 904 ((l.take (i + 1)).map (scA k)).length)), (6, di (i + 1 : Nat))], [aar 904 ((l.take (i + 1)).map (scA k))]⟩, 0, Nat.zero_le _, ⟨[], ⟨by (try dsimp only); (repeat (refine LeT.cons rfl (by first | exact LeS.d (by first | exact LeD.u rfl | exact LeD.p rfl | exact LeD.ow rfl rfl | exact LeD.ow rfl (by simp) | exact LeD.no rfl rfl | exact LeD.nl (by first | rfl | simp) | exact LeD.u (by simp; done) | exact LeD.u (by congr 1; omega) | exact LeD.q rfl | exact LeD.r rfl | exact LeD.r (by simp; done) | exact LeD.re | exact LeD.ows rfl rfl rfl | exact LeD.u (by congr 1; congr 1; simp) | exact LeD.fn (by repeat (first | exact LeN.nil | refine LeN.cons rfl ?_))) | exact LeS.a (by repeat (first | exact LeL.nil | refine LeL.cons (by first | exact LeD.u rfl | exact LeD.p rfl | exact LeD.ow rfl rfl | exact LeD.ow rfl (by simp) | exact LeD.no rfl rfl | exact LeD.nl (by first | rfl | simp) | exact LeD.u (by simp; done) | exact LeD.u (by congr 1; omega) | exact LeD.q rfl | exact LeD.r rfl | exact LeD.r (by simp; done) | exact LeD.re | exact LeD.ows rfl rfl rfl | exact LeD.u (by congr 1; congr 1; simp) | exact LeD.fn (by repeat (first | exact LeN.nil | refine LeN.cons rfl ?_))) ?_))) ?_)); exact LeT.nil, by (try dsimp only); repeat (first | exact LeO.nil | refine LeO.bx rfl rfl (by repeat (first | exact LeL.nil | refine LeL.cons (by first | exact LeD.u rfl | exact LeD.p rfl | exact LeD.ow rfl rfl | exact LeD.ow rfl (by simp) | exact LeD.no rfl rfl | exact LeD.nl (by first | rfl | simp) | exact LeD.u (by simp; done) | exact LeD.u (by congr 1; omega) | exact LeD.q rfl | exact LeD.r rfl | exact LeD.r (by simp; done) | exact LeD.re | exact LeD.ows rfl rfl rfl | exact LeD.u (by congr 1; congr 1; simp) | exact LeD.fn (by repeat (first | exact LeN.nil | refine LeN.cons rfl ?_))) ?_)) ?_ | refine LeO.ar rfl rfl (by first | rfl | simp) ?_ | refine LeO.fm rfl (by first | rfl | simp) ?_ | refine LeO.no rfl rfl ?_)⟩⟩, fun i hi => ?_⟩⟩
  dsimp only at hi ⊢
  by_cases h9 : i < l.length
  · have hbi := hb l[i] (List.getElem_mem h9)
    have ht1 : l.take (i + 1) = l.take i ++ [l[i]] := List.take_succ_eq_append_getElem h9
    have hrow : ∀ {K : List V → Prop}, K (l[i]).v → Ix (l.map Ac.v) (i : Int) K := fun k => Ix.map rfl h9 k
    generalize l[i] = a at hbi ht1 hrow
    obtain ⟨kd, n⟩ := a
    dsimp only at hbi
    by_cases h2 : kd = 2
    · subst h2
      obtain ⟨b1, b2⟩ := hbi rfl
      have m1 : 0 ≤ n * k := Int.mul_nonneg b1 (by omega)
      have m2 : n * k ≤ 1000000000 * 1000 := Int.mul_le_mul b2 hk' (by omega) (by omega)
      rcases i with _ | i
      · have hA : min 1 l.length = 1 := by omega
        repeat' ((conv => whnf); first | refine hrow ?_ | refine Gs.id ?_ | with_reducible refine And.intro ?_ ?_ | with_reducible refine Brn.T rfl ?_ | with_reducible refine Brn.F rfl ?_ | refine Brn.T (by (try simp only [smT]); first | rfl | assumption | omega | (simp only [*]; done) | (simp [*]; done) | fail) ?_ | refine Brn.F (by (try simp only [smT]); first | rfl | assumption | omega | (simp only [*]; done) | (simp [*]; done) | fail) ?_ | (refine Brn.mk (fun hb => ?_) (fun hb => ?_) <;> (try simp only [smT] at hb) <;> (try (exact absurd trivial hb)) <;> (try (exfalso; omega))) | (refine Bnd.mk (fun hm => ?_); (try simp only [smT] at hm)) | refine Rng.mk (by (try simp only [smT]); omega) ?_ | refine Ix.map rfl (by (try simp only [smT]); omega) ?_ | refine Ix.map (m := 0) rfl (by (try simp only [smT]); omega) ?_ | refine Ix.lit (m := 0) rfl rfl ?_ | refine Ixo.mk ⟨_, rfl, (by (try simp only [smT]); omega), ?_⟩ | refine Rw.lit rfl ?_ | refine Rw.self (by (try simp only [smT]); omega) ?_ | refine Rw.map (by (try simp only [smT]); omega) ?_ | refine Len.mk (by first | rfl | (simp; done) | (simp only [smT]; assumption) | (simp only [smT]; omega)) ?_ | refine Eqv.mk (by kernel_rfl) ?_ | refine Apd.mk (by first | rfl | simp) (by first | rfl | simp) (by (try simp only [smT]); first | omega | (simp; omega)) (by unfold maxLen; first | (simp; done) | (simp; omega) | omega) ?_ | refine Raw.capNil (T := tt) rfl rfl rfl rfl ?_ | refine Raw.sliceNil (T := tt) rfl rfl (by first | rfl | omega | (simp; done)) rfl rfl rfl rfl ?_ | (refine Raw.appendR (T := tt) ?_; (conv => whnf); first | refine hrow ?_ | refine Rw.lit rfl ?_ | refine Rw.self (by (try simp only [smT]); omega) ?_ | refine Rw.map (by (try simp only [smT]); omega) ?_) | refine Raw.appendIn (T := tt) rfl rfl rfl rfl rfl rfl rfl rfl rfl rfl (by (try simp only [smT]); omega) (by (try simp only [smT]); omega) ?_ | refine Raw.clear (T := tt) rfl rfl rfl rfl rfl rfl rfl (by (try simp only [smT]); omega) ?_ | refine Slc.mk ⟨_, _, rfl, rfl, (by (try simp only [smT]); omega), (by (try simp only [smT]); omega), ?_⟩ | refine Slc.mk ⟨0, _, rfl, rfl, (by (try simp only [smT]); omega), (by (try simp only [smT]); omega), ?_⟩ | refine Slc.mk ⟨1, _, rfl, rfl, (by (try simp only [smT]); omega), (by (try simp only [smT]); omega), ?_⟩ | refine Slc3.mk ⟨_, _, _, rfl, rfl, rfl, (by (try simp only [smT]); omega), (by (try simp only [smT]); omega), (by (try simp only [smT]); omega)⟩ ?_)
        all_goals (conv => whnf)
        all_goals exact ⟨1, by omega, by omega, [(904, .k 29)], ⟨by (try dsimp only); (repeat (refine LeT.cons rfl (by first | exact LeS.d (by first | exact LeD.u rfl | exact LeD.p rfl | exact LeD.ow rfl rfl | exact LeD.ow rfl (by simp [ht1, scA, hA, h9]) | exact LeD.no rfl rfl | exact LeD.nl (by first | rfl | simp [ht1, scA, hA, h9]) | exact LeD.u (by simp [ht1, scA, hA, h9]; done) | exact LeD.u (by congr 1; omega) | exact LeD.q rfl | exact LeD.r rfl | exact LeD.r (by simp [ht1, scA, hA, h9]; done) | exact LeD.re | exact LeD.ows rfl rfl rfl | exact LeD.u (by congr 1; congr 1; simp) | exact LeD.fn (by repeat (first | exact LeN.nil | refine LeN.cons rfl ?_))) | exact LeS.a (by repeat (first | exact LeL.nil | refine LeL.cons (by first | exact LeD.u rfl | exact LeD.p rfl | exact LeD.ow rfl rfl | exact LeD.ow rfl (by simp [ht1, scA, hA, h9]) | exact LeD.no rfl rfl | exact LeD.nl (by first | rfl | simp [ht1, scA, hA, h9]) | exact LeD.u (by simp [ht1, scA, hA, h9]; done) | exact LeD.u (by congr 1; omega) | exact LeD.q rfl | exact LeD.r rfl | exact LeD.r (by simp [ht1, scA, hA, h9]; done) | exact LeD.re | exact LeD.ows rfl rfl rfl | exact LeD.u (by congr 1; congr 1; simp) | exact LeD.fn (by repeat (first | exact LeN.nil | refine LeN.cons rfl ?_))) ?_))) ?_)); exact LeT.nil, by (try dsimp only); repeat (first | exact LeO.nil | refine LeO.bx rfl rfl (by repeat (first | exact LeL.nil | refine LeL.cons (by first | exact LeD.u rfl | exact LeD.p rfl | exact LeD.ow rfl rfl | exact LeD.ow rfl (by simp [ht1, scA, hA, h9]) | exact LeD.no rfl rfl | exact LeD.nl (by first | rfl | simp [ht1, scA, hA, h9]) | exact LeD.u (by simp [ht1, scA, hA, h9]; done) | exact LeD.u (by congr 1; omega) | exact LeD.q rfl | exact LeD.r rfl | exact LeD.r (by simp [ht1, scA, hA, h9]; done) | exact LeD.re | exact LeD.ows rfl rfl rfl | exact LeD.u (by congr 1; congr 1; simp) | exact LeD.fn (by repeat (first | exact LeN.nil | refine LeN.cons rfl ?_))) ?_)) ?_ | refine LeO.ar rfl rfl (by first | rfl | simp [ht1, scA, hA, h9]) ?_ | refine LeO.fm rfl (by first | rfl | simp [ht1, scA, hA, h9]) ?_ | refine LeO.no rfl rfl ?_)⟩⟩
      · have hA : min (i + 1) l.length = i + 1 := by omega
        have hB : min (i + 1 + 1) l.length = i + 1 + 1 := by omega
        repeat' ((conv => whnf); first | refine hrow ?_ | refine Gs.id ?_ | with_reducible refine And.intro ?_ ?_ | with_reducible refine Brn.T rfl ?_ | with_reducible refine Brn.F rfl ?_ | refine Brn.T (by (try simp only [smT]); first | rfl | assumption | omega | (simp only [*]; done) | (simp [*]; done) | fail) ?_ | refine Brn.F (by (try simp only [smT]); first | rfl | assumption | omega | (simp only [*]; done) | (simp [*]; done) | fail) ?_ | (refine Brn.mk (fun hb => ?_) (fun hb => ?_) <;> (try simp only [smT] at hb) <;> (try (exact absurd trivial hb)) <;> (try (exfalso; omega))) | (refine Bnd.mk (fun hm => ?_); (try simp only [smT] at hm)) | refine Rng.mk (by (try simp only [smT]); omega) ?_ | refine Ix.map rfl (by (try simp only [smT]); omega) ?_ | refine Ix.map (m := 0) rfl (by (try simp only [smT]); omega) ?_ | refine Ix.lit (m := 0) rfl rfl ?_ | refine Ixo.mk ⟨_, rfl, (by (try simp only [smT]); omega), ?_⟩ | refine Rw.lit rfl ?_ | refine Rw.self (by (try simp only [smT]); omega) ?_ | refine Rw.map (by (try simp only [smT]); omega) ?_ | refine Len.mk (by first | rfl | (simp; done) | (simp only [smT]; assumption) | (simp only [smT]; omega)) ?_ | refine Eqv.mk (by kernel_rfl) ?_ | refine Apd.mk (by first | rfl | simp) (by first | rfl | simp) (by (try simp only [smT]); first | omega | (simp; omega)) (by unfold maxLen; first | (simp; done) | (simp; omega) | omega) ?_ | refine Raw.capNil (T := tt) rfl rfl rfl rfl ?_ | refine Raw.sliceNil (T := tt) rfl rfl (by first | rfl | omega | (simp; done)) rfl rfl rfl rfl ?_ | (refine Raw.appendR (T := tt) ?_; (conv => whnf); first | refine hrow ?_ | refine Rw.lit rfl ?_ | refine Rw.self (by (try simp only [smT]); omega) ?_ | refine Rw.map (by (try simp only [smT]); omega) ?_) | refine Raw.appendIn (T := tt) rfl rfl rfl rfl rfl rfl rfl rfl rfl rfl (by (try simp only [smT]); omega) (by (try simp only [smT]); omega) ?_ | refine Raw.clear (T := tt) rfl rfl rfl rfl rfl rfl rfl (by (try simp only [smT]); omega) ?_ | refine Slc.mk ⟨_, _, rfl, rfl, (by (try simp only [smT]); omega), (by (try simp only [smT]); omega), ?_⟩ | refine Slc.mk ⟨0, _, rfl, rfl, (by (try simp only [smT]); omega), (by (try simp only [smT]); omega), ?_⟩ | refine Slc.mk ⟨1, _, rfl, rfl, (by (try simp only [smT]); omega), (by (try simp only [smT]); omega), ?_⟩ | refine Slc3.mk ⟨_, _, _, rfl, rfl, rfl, (by (try simp only [smT]); omega), (by (try simp only [smT]); omega), (by (try simp only [smT]); omega)⟩ ?_)
        all_goals (conv => whnf)
        all_goals exact ⟨i + 2, by omega, by omega, [(904, .k 29)], ⟨by (try dsimp only); (repeat (refine LeT.cons rfl (by first | exact LeS.d (by first | exact LeD.u rfl | exact LeD.p rfl | exact LeD.ow rfl rfl | exact LeD.ow rfl (by simp [ht1, scA, hA, hB, h9]) | exact LeD.no rfl rfl | exact LeD.nl (by first | rfl | simp [ht1, scA, hA, hB, h9]) | exact LeD.u (by simp [ht1, scA, hA, hB, h9]; done) | exact LeD.u (by congr 1; omega) | exact LeD.q rfl | exact LeD.r rfl | exact LeD.r (by simp [ht1, scA, hA, hB, h9]; done) | exact LeD.re | exact LeD.ows rfl rfl rfl | exact LeD.u (by congr 1; congr 1; simp) | exact LeD.fn (by repeat (first | exact LeN.nil | refine LeN.cons rfl ?_))) | exact LeS.a (by repeat (first | exact LeL.nil | refine LeL.cons (by first | exact LeD.u rfl | exact LeD.p rfl | exact LeD.ow rfl rfl | exact LeD.ow rfl (by simp [ht1, scA, hA, hB, h9]) | exact LeD.no rfl rfl | exact LeD.nl (by first | rfl | simp [ht1, scA, hA, hB, h9]) | exact LeD.u (by simp [ht1, scA, hA, hB, h9]; done) | exact LeD.u (by congr 1; omega) | exact LeD.q rfl | exact LeD.r rfl | exact LeD.r (by simp [ht1, scA, hA, hB, h9]; done) | exact LeD.re | exact LeD.ows rfl rfl rfl | exact LeD.u (by congr 1; congr 1; simp) | exact LeD.fn (by repeat (first | exact LeN.nil | refine LeN.cons rfl ?_))) ?_))) ?_)); exact LeT.nil, by (try dsimp only); repeat (first | exact LeO.nil | refine LeO.bx rfl rfl (by repeat (first | exact LeL.nil | refine LeL.cons (by first | exact LeD.u rfl | exact LeD.p rfl | exact LeD.ow rfl rfl | exact LeD.ow rfl (by simp [ht1, scA, hA, hB, h9]) | exact LeD.no rfl rfl | exact LeD.nl (by first | rfl | simp [ht1, scA, hA, hB, h9]) | exact LeD.u (by simp [ht1, scA, hA, hB, h9]; done) | exact LeD.u (by congr 1; omega) | exact LeD.q rfl | exact LeD.r rfl | exact LeD.r (by simp [ht1, scA, hA, hB, h9]; done) | exact LeD.re | exact LeD.ows rfl rfl rfl | exact LeD.u (by congr 1; congr 1; simp) | exact LeD.fn (by repeat (first | exact LeN.nil | refine LeN.cons rfl ?_))) ?_)) ?_ | refine LeO.ar rfl rfl (by first | rfl | simp [ht1, scA, hA, hB, h9]) ?_ | refine LeO.fm rfl (by first | rfl | simp [ht1, scA, hA, hB, h9]) ?_ | refine LeO.no rfl rfl ?_)⟩⟩
    · rcases i with _ | i
      · have hA : min 1 l.length = 1 := by omega
        repeat' ((conv => whnf); first | refine hrow ?_ | refine Gs.id ?_ | with_reducible refine And.intro ?_ ?_ | with_reducible refine Brn.T rfl ?_ | with_reducible refine Brn.F rfl ?_ | refine Brn.T (by (try simp only [smT]); first | rfl | assumption | omega | (simp only [*]; done) | (simp [*]; done) | fail) ?_ | refine Brn.F (by (try simp only [smT]); first | rfl | assumption | omega | (simp only [*]; done) | (simp [*]; done) | fail) ?_ | (refine Brn.mk (fun hb => ?_) (fun hb => ?_) <;> (try simp only [smT] at hb) <;> (try (exact absurd trivial hb)) <;> (try (exfalso; omega))) | (refine Bnd.mk (fun hm => ?_); (try simp only [smT] at hm)) | refine Rng.mk (by (try simp only [smT]); omega) ?_ | refine Ix.map rfl (by (try simp only [smT]); omega) ?_ | refine Ix.map (m := 0) rfl (by (try simp only [smT]); omega) ?_ | refine Ix.lit (m := 0) rfl rfl ?_ | refine Ixo.mk ⟨_, rfl, (by (try simp only [smT]); omega), ?_⟩ | refine Rw.lit rfl ?_ | refine Rw.self (by (try simp only [smT]); omega) ?_ | refine Rw.map (by (try simp only [smT]); omega) ?_ | refine Len.mk (by first | rfl | (simp; done) | (simp only [smT]; assumption) | (simp only [smT]; omega)) ?_ | refine Eqv.mk (by kernel_rfl) ?_ | refine Apd.mk (by first | rfl | simp) (by first | rfl | simp) (by (try simp only [smT]); first | omega | (simp; omega)) (by unfold maxLen; first | (simp; done) | (simp; omega) | omega) ?_ | refine Raw.capNil (T := tt) rfl rfl rfl rfl ?_ | refine Raw.sliceNil (T := tt) rfl rfl (by first | rfl | omega | (simp; done)) rfl rfl rfl rfl ?_ | (refine Raw.appendR (T := tt) ?_; (conv => whnf); first | refine hrow ?_ | refine Rw.lit rfl ?_ | refine Rw.self (by (try simp only [smT]); omega) ?_ | refine Rw.map (by (try simp only [smT]); omega) ?_) | refine Raw.appendIn (T := tt) rfl rfl rfl rfl rfl rfl rfl rfl rfl rfl (by (try simp only [smT]); omega) (by (try simp only [smT]); omega) ?_ | refine Raw.clear (T := tt) rfl rfl rfl rfl rfl rfl rfl (by (try simp only [smT]); omega) ?_ | refine Slc.mk ⟨_, _, rfl, rfl, (by (try simp only [smT]); omega), (by (try simp only [smT]); omega), ?_⟩ | refine Slc.mk ⟨0, _, rfl, rfl, (by (try simp only [smT]); omega), (by (try simp only [smT]); omega), ?_⟩ | refine Slc.mk ⟨1, _, rfl, rfl, (by (try simp only [smT]); omega), (by (try simp only [smT]); omega), ?_⟩ | refine Slc3.mk ⟨_, _, _, rfl, rfl, rfl, (by (try simp only [smT]); omega), (by (try simp only [smT]); omega), (by (try simp only [smT]); omega)⟩ ?_)
        all_goals (conv => whnf)
        all_goals exact ⟨1, by omega, by omega, [(904, .k 29)], ⟨by (try dsimp only); (repeat (refine LeT.cons rfl (by first | exact LeS.d (by first | exact LeD.u rfl | exact LeD.p rfl | exact LeD.ow rfl rfl | exact LeD.ow rfl (by simp [ht1, scA, hA, h2]) | exact LeD.no rfl rfl | exact LeD.nl (by first | rfl | simp [ht1, scA, hA, h2]) | exact LeD.u (by simp [ht1, scA, hA, h2]; done) | exact LeD.u (by congr 1; omega) | exact LeD.q rfl | exact LeD.r rfl | exact LeD.r (by simp [ht1, scA, hA, h2]; done) | exact LeD.re | exact LeD.ows rfl rfl rfl | exact LeD.u (by congr 1; congr 1; simp) | exact LeD.fn (by repeat (first | exact LeN.nil | refine LeN.cons rfl ?_))) | exact LeS.a (by repeat (first | exact LeL.nil | refine LeL.cons (by first | exact LeD.u rfl | exact LeD.p rfl | exact LeD.ow rfl rfl | exact LeD.ow rfl (by simp [ht1, scA, hA, h2]) | exact LeD.no rfl rfl | exact LeD.nl (by first | rfl | simp [ht1, scA, hA, h2]) | exact LeD.u (by simp [ht1, scA, hA, h2]; done) | exact LeD.u (by congr 1; omega) | exact LeD.q rfl | exact LeD.r rfl | exact LeD.r (by simp [ht1, scA, hA, h2]; done) | exact LeD.re | exact LeD.ows rfl rfl rfl | exact LeD.u (by congr 1; congr 1; simp) | exact LeD.fn (by repeat (first | exact LeN.nil | refine LeN.cons rfl ?_))) ?_))) ?_)); exact LeT.nil, by (try dsimp only); repeat (first | exact LeO.nil | refine LeO.bx rfl rfl (by repeat (first | exact LeL.nil | refine LeL.cons (by first | exact LeD.u rfl | exact LeD.p rfl | exact LeD.ow rfl rfl | exact LeD.ow rfl (by simp [ht1, scA, hA, h2]) | exact LeD.no rfl rfl | exact LeD.nl (by first | rfl | simp [ht1, scA, hA, h2]) | exact LeD.u (by simp [ht1, scA, hA, h2]; done) | exact LeD.u (by congr 1; omega) | exact LeD.q rfl | exact LeD.r rfl | exact LeD.r (by simp [ht1, scA, hA, h2]; done) | exact LeD.re | exact LeD.ows rfl rfl rfl | exact LeD.u (by congr 1; congr 1; simp) | exact LeD.fn (by repeat (first | exact LeN.nil | refine LeN.cons rfl ?_))) ?_)) ?_ | refine LeO.ar rfl rfl (by first | rfl | simp [ht1, scA, hA, h2]) ?_ | refine LeO.fm rfl (by first | rfl | simp [ht1, scA, hA, h2]) ?_ | refine LeO.no rfl rfl ?_)⟩⟩
      · have hA : min (i + 1) l.length = i + 1 := by omega
        have hB : min (i + 1 + 1) l.length = i + 1 + 1 := by omega
        repeat' ((conv => whnf); first | refine hrow ?_ | refine Gs.id ?_ | with_reducible refine And.intro ?_ ?_ | with_reducible refine Brn.T rfl ?_ | with_reducible refine Brn.F rfl ?_ | refine Brn.T (by (try simp only [smT]); first | rfl | assumption | omega | (simp only [*]; done) | (simp [*]; done) | fail) ?_ | refine Brn.F (by (try simp only [smT]); first | rfl | assumption | omega | (simp only [*]; done) | (simp [*]; done) | fail) ?_ | (refine Brn.mk (fun hb => ?_) (fun hb => ?_) <;> (try simp only [smT] at hb) <;> (try (exact absurd trivial hb)) <;> (try (exfalso; omega))) | (refine Bnd.mk (fun hm => ?_); (try simp only [smT] at hm)) | refine Rng.mk (by (try simp only [smT]); omega) ?_ | refine Ix.map rfl (by (try simp only [smT]); omega) ?_ | refine Ix.map (m := 0) rfl (by (try simp only [smT]); omega) ?_ | refine Ix.lit (m := 0) rfl rfl ?_ | refine Ixo.mk ⟨_, rfl, (by (try simp only [smT]); omega), ?_⟩ | refine Rw.lit rfl ?_ | refine Rw.self (by (try simp only [smT]); omega) ?_ | refine Rw.map (by (try simp only [smT]); omega) ?_ | refine Len.mk (by first | rfl | (simp; done) | (simp only [smT]; assumption) | (simp only [smT]; omega)) ?_ | refine Eqv.mk (by kernel_rfl) ?_ | refine Apd.mk (by first | rfl | simp) (by first | rfl | simp) (by (try simp only [smT]); first | omega | (simp; omega)) (by unfold maxLen; first | (simp; done) | (simp; omega) | omega) ?_ | refine Raw.capNil (T := tt) rfl rfl rfl rfl ?_ | refine Raw.sliceNil (T := tt) rfl rfl (by first | rfl | omega | (simp; done)) rfl rfl rfl rfl ?_ | (refine Raw.appendR (T := tt) ?_; (conv => whnf); first | refine hrow ?_ | refine Rw.lit rfl ?_ | refine Rw.self (by (try simp only [smT]); omega) ?_ | refine Rw.map (by (try simp only [smT]); omega) ?_) | refine Raw.appendIn (T := tt) rfl rfl rfl rfl rfl rfl rfl rfl rfl rfl (by (try simp only [smT]); omega) (by (try simp only [smT]); omega) ?_ | refine Raw.clear (T := tt) rfl rfl rfl rfl rfl rfl rfl (by (try simp only [smT]); omega) ?_ | refine Slc.mk ⟨_, _, rfl, rfl, (by (try simp only [smT]); omega), (by (try simp only [smT]); omega), ?_⟩ | refine Slc.mk ⟨0, _, rfl, rfl, (by (try simp only [smT]); omega), (by (try simp only [smT]); omega), ?_⟩ | refine Slc.mk ⟨1, _, rfl, rfl, (by (try simp only [smT]); omega), (by (try simp only [smT]); omega), ?_⟩ | refine Slc3.mk ⟨_, _, _, rfl, rfl, rfl, (by (try simp only [smT]); omega), (by (try simp only [smT]); omega), (by (try simp only [smT]); omega)⟩ ?_)
        all_goals (conv => whnf)
        all_goals exact ⟨i + 2, by omega, by omega, [(904, .k 29)], ⟨by (try dsimp only); (repeat (refine LeT.cons rfl (by first | exact LeS.d (by first | exact LeD.u rfl | exact LeD.p rfl | exact LeD.ow rfl rfl | exact LeD.ow rfl (by simp [ht1, scA, hA, hB, h2]) | exact LeD.no rfl rfl | exact LeD.nl (by first | rfl | simp [ht1, scA, hA, hB, h2]) | exact LeD.u (by simp [ht1, scA, hA, hB, h2]; done) | exact LeD.u (by congr 1; omega) | exact LeD.q rfl | exact LeD.r rfl | exact LeD.r (by simp [ht1, scA, hA, hB, h2]; done) | exact LeD.re | exact LeD.ows rfl rfl rfl | exact LeD.u (by congr 1; congr 1; simp) | exact LeD.fn (by repeat (first | exact LeN.nil | refine LeN.cons rfl ?_))) | exact LeS.a (by repeat (first | exact LeL.nil | refine LeL.cons (by first | exact LeD.u rfl | exact LeD.p rfl | exact LeD.ow rfl rfl | exact LeD.ow rfl (by simp [ht1, scA, hA, hB, h2]) | exact LeD.no rfl rfl | exact LeD.nl (by first | rfl | simp [ht1, scA, hA, hB, h2]) | exact LeD.u (by simp [ht1, scA, hA, hB, h2]; done) | exact LeD.u (by congr 1; omega) | exact LeD.q rfl | exact LeD.r rfl | exact LeD.r (by simp [ht1, scA, hA, hB, h2]; done) | exact LeD.re | exact LeD.ows rfl rfl rfl | exact LeD.u (by congr 1; congr 1; simp) | exact LeD.fn (by repeat (first | exact LeN.nil | refine LeN.cons rfl ?_))) ?_))) ?_)); exact LeT.nil, by (try dsimp only); repeat (first | exact LeO.nil | refine LeO.bx rfl rfl (by repeat (first | exact LeL.nil | refine LeL.cons (by first | exact LeD.u rfl | exact LeD.p rfl | exact LeD.ow rfl rfl | exact LeD.ow rfl (by simp [ht1, scA, hA, hB, h2]) | exact LeD.no rfl rfl | exact LeD.nl (by first | rfl | simp [ht1, scA, hA, hB, h2]) | exact LeD.u (by simp [ht1, scA, hA, hB, h2]; done) | exact LeD.u (by congr 1; omega) | exact LeD.q rfl | exact LeD.r rfl | exact LeD.r (by simp [ht1, scA, hA, hB, h2]; done) | exact LeD.re | exact LeD.ows rfl rfl rfl | exact LeD.u (by congr 1; congr 1; simp) | exact LeD.fn (by repeat (first | exact LeN.nil | refine LeN.cons rfl ?_))) ?_)) ?_ | refine LeO.ar rfl rfl (by first | rfl | simp [ht1, scA, hA, hB, h2]) ?_ | refine LeO.fm rfl (by first | rfl | simp [ht1, scA, hA, hB, h2]) ?_ | refine LeO.no rfl rfl ?_)⟩⟩
  · obtain rfl : i = l.length := by omega
    rcases l with _ | ⟨a, l⟩
    · repeat' ((conv => whnf); first | refine Gs.id ?_ | with_reducible refine And.intro ?_ ?_ | with_reducible refine Brn.T rfl ?_ | with_reducible refine Brn.F rfl ?_ | refine Brn.T (by (try simp only [smT]); first | rfl | assumption | omega | (simp only [*]; done) | (simp [*]; done) | fail) ?_ | refine Brn.F (by (try simp only [smT]); first | rfl | assumption | omega | (simp only [*]; done) | (simp [*]; done) | fail) ?_ | (refine Brn.mk (fun hb => ?_) (fun hb => ?_) <;> (try simp only [smT] at hb) <;> (try (exact absurd trivial hb)) <;> (try (exfalso; omega))) | (refine Bnd.mk (fun hm => ?_); (try simp only [smT] at hm)) | refine Rng.mk (by (try simp only [smT]); omega) ?_ | refine Ix.map rfl (by (try simp only [smT]); omega) ?_ | refine Ix.map (m := 0) rfl (by (try simp only [smT]); omega) ?_ | refine Ix.lit (m := 0) rfl rfl ?_ | refine Ixo.mk ⟨_, rfl, (by (try simp only [smT]); omega), ?_⟩ | refine Rw.lit rfl ?_ | refine Rw.self (by (try simp only [smT]); omega) ?_ | refine Rw.map (by (try simp only [smT]); omega) ?_ | refine Len.mk (by first | rfl | (simp; done) | (simp only [smT]; assumption) | (simp only [smT]; omega)) ?_ | refine Eqv.mk (by kernel_rfl) ?_ | refine Apd.mk (by first | rfl | simp) (by first | rfl | simp) (by (try simp only [smT]); first | omega | (simp; omega)) (by unfold maxLen; first | (simp; done) | (simp; omega) | omega) ?_ | refine Raw.capNil (T := tt) rfl rfl rfl rfl ?_ | refine Raw.sliceNil (T := tt) rfl rfl (by first | rfl | omega | (simp; done)) rfl rfl rfl rfl ?_ | (refine Raw.appendR (T := tt) ?_; (conv => whnf); first | refine Rw.lit rfl ?_ | refine Rw.self (by (try simp only [smT]); omega) ?_ | refine Rw.map (by (try simp only [smT]); omega) ?_) | refine Raw.appendIn (T := tt) rfl rfl rfl rfl rfl rfl rfl rfl rfl rfl (by (try simp only [smT]); omega) (by (try simp only [smT]); omega) ?_ | refine Raw.clear (T := tt) rfl rfl rfl rfl rfl rfl rfl (by (try simp only [smT]); omega) ?_ | refine Slc.mk ⟨_, _, rfl, rfl, (by (try simp only [smT]); omega), (by (try simp only [smT]); omega), ?_⟩ | refine Slc.mk ⟨0, _, rfl, rfl, (by (try simp only [smT]); omega), (by (try simp only [smT]); omega), ?_⟩ | refine Slc.mk ⟨1, _, rfl, rfl, (by (try simp only [smT]); omega), (by (try simp only [smT]); omega), ?_⟩ | refine Slc3.mk ⟨_, _, _, rfl, rfl, rfl, (by (try simp only [smT]); omega), (by (try simp only [smT]); omega), (by (try simp only [smT]); omega)⟩ ?_)
      all_goals (conv => whnf)
      all_goals exact Ret.nl (.d (.u (.nl rfl)))
    · repeat' ((conv => whnf); first | refine Gs.id ?_ | with_reducible refine And.intro ?_ ?_ | with_reducible refine Brn.T rfl ?_ | with_reducible refine Brn.F rfl ?_ | refine Brn.T (by (try simp only [smT]); first | rfl | assumption | omega | (simp only [*]; done) | (simp [*]; done) | fail) ?_ | refine Brn.F (by (try simp only [smT]); first | rfl | assumption | omega | (simp only [*]; done) | (simp [*]; done) | fail) ?_ | (refine Brn.mk (fun hb => ?_) (fun hb => ?_) <;> (try simp only [smT] at hb) <;> (try (exact absurd trivial hb)) <;> (try (exfalso; omega))) | (refine Bnd.mk (fun hm => ?_); (try simp only [smT] at hm)) | refine Rng.mk (by (try simp only [smT]); omega) ?_ | refine Ix.map rfl (by (try simp only [smT]); omega) ?_ | refine Ix.map (m := 0) rfl (by (try simp only [smT]); omega) ?_ | refine Ix.lit (m := 0) rfl rfl ?_ | refine Ixo.mk ⟨_, rfl, (by (try simp only [smT]); omega), ?_⟩ | refine Rw.lit rfl ?_ | refine Rw.self (by (try simp only [smT]); omega) ?_ | refine Rw.map (by (try simp only [smT]); omega) ?_ | refine Len.mk (by first | rfl | (simp; done) | (simp only [smT]; assumption) | (simp only [smT]; omega)) ?_ | refine Eqv.mk (by kernel_rfl) ?_ | refine Apd.mk (by first | rfl | simp) (by first | rfl | simp) (by (try simp only [smT]); first | omega | (simp; omega)) (by unfold maxLen; first | (simp; done) | (simp; omega) | omega) ?_ | refine Raw.capNil (T := tt) rfl rfl rfl rfl ?_ | refine Raw.sliceNil (T := tt) rfl rfl (by first | rfl | omega | (simp; done)) rfl rfl rfl rfl ?_ | (refine Raw.appendR (T := tt) ?_; (conv => whnf); first | refine Rw.lit rfl ?_ | refine Rw.self (by (try simp only [smT]); omega) ?_ | refine Rw.map (by (try simp only [smT]); omega) ?_) | refine Raw.appendIn (T := tt) rfl rfl rfl rfl rfl rfl rfl rfl rfl rfl (by (try simp only [smT]); omega) (by (try simp only [smT]); omega) ?_ | refine Raw.clear (T := tt) rfl rfl rfl rfl rfl rfl rfl (by (try simp only [smT]); omega) ?_ | refine Slc.mk ⟨_, _, rfl, rfl, (by (try simp only [smT]); omega), (by (try simp only [smT]); omega), ?_⟩ | refine Slc.mk ⟨0, _, rfl, rfl, (by (try simp only [smT]); omega), (by (try simp only [smT]); omega), ?_⟩ | refine Slc.mk ⟨1, _, rfl, rfl, (by (try simp only [smT]); omega), (by (try simp only [smT]); omega), ?_⟩ | refine Slc3.mk ⟨_, _, _, rfl, rfl, rfl, (by (try simp only [smT]); omega), (by (try simp only [smT]); omega), (by (try simp only [smT]); omega)⟩ ?_)
      all_goals (conv => whnf)
      all_goals exact Ret.is (by simp [tupT, SC.up])
end Go.Proofs.Ytgiebofmfkacgaa
namespace Go.Proofs.Ytgiebofmfkacgaa
open Go.RowKit
theorem mixR_length (f : Rc → Rc) (l : List Rc) (i : Nat) (h : i ≤ l.length) : (mixR f l i).length = l.length := by simp [mixR]; omega
theorem mixR_get {f : Rc → Rc} {l : List Rc} {i : Nat} (h : i < l.length) : (mixR f l i)[i]? = some l[i] := by
  have : (l.take i).length = i := by simp; omega
  rw [mixR, List.getElem?_append_right (by simp; omega)]
  rw [List.length_map, this, List.getElem?_drop]
  simp [List.getElem?_eq_getElem h]
theorem Rw_mix {f : Rc → Rc} {l : List Rc} {i : Nat} {K : List V → Prop} (h : i < l.length) (q : K (l[i]).v) : Rw ((mixR f l i).map Rc.v) i K := ⟨_, by rw [List.getElem?_map, mixR_get h]; rfl, q⟩
theorem mixR_set {f : Rc → Rc} {l : List Rc} {i : Nat} (h : i < l.length) : ((mixR f l i).map Rc.v).set i (f l[i]).v = (mixR f l (i + 1)).map Rc.v := by
  rw [← List.map_set]
  congr 1
  apply List.ext_getElem?
  intro j
  have hl : (l.take i).length = i := by simp; omega
  have hl1 : (l.take (i + 1)).length = i + 1 := by simp; omega
  rw [List.getElem?_set]
  by_cases hj : i = j
  · subst hj
    rw [if_pos rfl, if_pos (by rw [mixR_length _ _ _ (by omega)]; exact h), mixR, List.getElem?_append_left (by simp; omega)]
    simp [List.getElem?_take, List.getElem?_eq_getElem h]
  · rw [if_neg hj, mixR, mixR]
    by_cases hj2 : j < i
    · rw [List.getElem?_append_left (by simp; omega), List.getElem?_append_left (by simp; omega)]
      simp [List.getElem?_take, hj2, show j < i + 1 by omega]
    · rw [List.getElem?_append_right (by simp; omega), List.getElem?_append_right (by simp; omega)]
      simp only [List.length_map, hl, hl1, List.getElem?_drop]
      congr 1
      omega
set_option maxHeartbeats 4000000 in
theorem law_scale_T (jobs : List Jb) (k : Int) : CallsA Try.prog 10 [.d (.u (jvs jobs)), di k] [] (Is (db true)) := by
  have hj := jobsFault_T jobs
  by_cases h : (simFault jobs).1 = 0
  · by_cases hk : 1 ≤ k ∧ k ≤ 1000
    · obtain ⟨k1, k2⟩ := hk
      have hin : inB k 1 1000 = true := by simp [inB, k1, k2]
      have hJ := simFault_ok h
      have hso := simulate_own jobs h
      have htm := sim_times h
      have hne := hJ.ne
      have hle := hJ.le
      generalize simFault jobs = c at hj h
      obtain ⟨c, p⟩ := c
      dsimp only at h
      subst h
      have hinT := in_T k 1 1000
      rw [hin] at hinT
      refine callsA_of_vc (T := tt) Try.func10 rfl rfl rfl rfl rfl ?_
      repeat' ((conv => whnf); first | refine Gs.id ?_ | with_reducible refine And.intro ?_ ?_ | with_reducible refine Brn.T rfl ?_ | with_reducible refine Brn.F rfl ?_ | refine Brn.T (by (try simp only [smT]); first | rfl | assumption | omega | (simp only [*]; done) | (simp [*]; done) | fail) ?_ | refine Brn.F (by (try simp only [smT]); first | rfl | assumption | omega | (simp only [*]; done) | (simp [*]; done) | fail) ?_ | (refine Brn.mk (fun hb => ?_) (fun hb => ?_) <;> (try simp only [smT] at hb) <;> (try (exact absurd trivial hb)) <;> (try (exfalso; omega))) | (refine Bnd.mk (fun hm => ?_); (try simp only [smT] at hm)) | refine Rng.mk (by (try simp only [smT]); omega) ?_ | refine Ix.map rfl (by (try simp only [smT]); omega) ?_ | refine Ix.map (m := 0) rfl (by (try simp only [smT]); omega) ?_ | refine Ix.lit (m := 0) rfl rfl ?_ | refine Ixo.mk ⟨_, rfl, (by (try simp only [smT]); omega), ?_⟩ | refine Rw.lit rfl ?_ | refine Rw.self (by (try simp only [smT]); omega) ?_ | refine Rw.map (by (try simp only [smT]); omega) ?_ | refine Len.mk (by first | rfl | (simp; done) | (simp only [smT]; assumption) | (simp only [smT]; omega)) ?_ | refine Eqv.mk (by kernel_rfl) ?_ | refine Apd.mk (by first | rfl | simp) (by first | rfl | simp) (by (try simp only [smT]); first | omega | (simp; omega)) (by unfold maxLen; first | (simp; done) | (simp; omega) | omega) ?_ | refine Raw.capNil (T := tt) rfl rfl rfl rfl ?_ | refine Raw.sliceNil (T := tt) rfl rfl (by first | rfl | omega | (simp; done)) rfl rfl rfl rfl ?_ | (refine Raw.appendR (T := tt) ?_; (conv => whnf); first | refine Rw.lit rfl ?_ | refine Rw.self (by (try simp only [smT]); omega) ?_ | refine Rw.map (by (try simp only [smT]); omega) ?_) | refine Raw.appendIn (T := tt) rfl rfl rfl rfl rfl rfl rfl rfl rfl rfl (by (try simp only [smT]); omega) (by (try simp only [smT]); omega) ?_ | refine Raw.clear (T := tt) rfl rfl rfl rfl rfl rfl rfl (by (try simp only [smT]); omega) ?_ | refine Slc.mk ⟨_, _, rfl, rfl, (by (try simp only [smT]); omega), (by (try simp only [smT]); omega), ?_⟩ | refine Slc.mk ⟨0, _, rfl, rfl, (by (try simp only [smT]); omega), (by (try simp only [smT]); omega), ?_⟩ | refine Slc.mk ⟨1, _, rfl, rfl, (by (try simp only [smT]); omega), (by (try simp only [smT]); omega), ?_⟩ | refine Slc3.mk ⟨_, _, _, rfl, rfl, rfl, (by (try simp only [smT]); omega), (by (try simp only [smT]); omega), (by (try simp only [smT]); omega)⟩ ?_ | refine Drw.ofP (T := tt) (i := 7) [6, 13, 14, 15, 16] [0, 1, 2, 3, 4, 5, 7, 8, 9, 10, 11, 12] [0, 1, 2, 3, 4, 5, 7, 8, 9, 10, 11, 12] (OT.alt 6 (OT.alt 13 (OT.alt 14 (OT.alt 15 (OT.alt 16 OT.nil OT.nil) OT.nil) (OT.alt 15 (OT.alt 14 (OT.alt 16 OT.nil OT.nil) OT.nil) OT.nil)) (OT.alt 15 (OT.alt 13 (OT.alt 14 (OT.alt 16 OT.nil OT.nil) OT.nil) OT.nil) OT.nil)) (OT.alt 15 (OT.alt 6 (OT.alt 13 (OT.alt 14 (OT.alt 16 OT.nil OT.nil) OT.nil) OT.nil) OT.nil) OT.nil)) (by kernel_rfl) ?_ | refine Drw.of (T := tt) (i := 19) [] [] [(0, true), (1, true), (2, true), (3, true), (4, true), (5, true), (6, true), (7, true), (8, true)] (by kernel_rfl) ?_ | (refine CL.mk (Or.inl ?_); (conv => whnf); first | refine Cl.is (hj) rfl (by first | exact fun _ => rfl | (intro e; cases e; done) | fail) ?_ | refine Cl.is (hinT) rfl (by first | exact fun _ => rfl | (intro e; cases e; done) | fail) ?_ | refine Cl.is (simulated_T) rfl (by first | exact fun _ => rfl | (intro e; cases e; done) | fail) ?_) | (refine CL.mk (Or.inl ?_); (conv => whnf); refine ClO.mk (Or.inl ?_); (repeat ((conv => whnf); refine Len.mk (by first | rfl | (simp; done) | (simp only [smT]; assumption) | (simp only [smT]; omega)) ?_)); (conv => whnf); first | refine Cl.is (hj) rfl (by first | exact fun _ => rfl | (intro e; cases e; done) | fail) ?_ | refine Cl.is (hinT) rfl (by first | exact fun _ => rfl | (intro e; cases e; done) | fail) ?_ | refine Cl.is (simulated_T) rfl (by first | exact fun _ => rfl | (intro e; cases e; done) | fail) ?_) | (refine CL.mk (Or.inl ?_); (conv => whnf); refine ClO.mk (Or.inr ?_); (repeat ((conv => whnf); refine Len.mk (by first | rfl | (simp; done) | (simp only [smT]; assumption) | (simp only [smT]; omega)) ?_)); (conv => whnf); first | refine Cl.is (hj) rfl (by first | exact fun _ => rfl | (intro e; cases e; done) | fail) ?_ | refine Cl.is (hinT) rfl (by first | exact fun _ => rfl | (intro e; cases e; done) | fail) ?_ | refine Cl.is (simulated_T) rfl (by first | exact fun _ => rfl | (intro e; cases e; done) | fail) ?_))
      all_goals (conv => whnf)
      refine ⟨⟨Nat, fun i => i ≤ jobs.length, fun i => jobs.length - i, fun i => match i with
        | 0 => ⟨[(0, .d (.u (jvs jobs))), (1, di k), (5, .d (.u .nl)), (6, di 0)], []⟩
        | i + 1 => ⟨[(0, .d (.u (jvs jobs))), (1, di k), (5, .d (.ow 904 ((jobs.take (i + 1)).map (scJ k)).length)), (6, di (i + 1 : Nat))], [(904, .ar 61 2 (((jobs.take (i + 1)).map (scJ k)).map Jb.v))]⟩, 0, Nat.zero_le _, ⟨[], ⟨by (try dsimp only); (repeat (refine LeT.cons rfl (by first | exact LeS.d (by first | exact LeD.u rfl | exact LeD.p rfl | exact LeD.ow rfl rfl | exact LeD.ow rfl (by simp) | exact LeD.no rfl rfl | exact LeD.nl (by first | rfl | simp) | exact LeD.u (by simp; done) | exact LeD.u (by congr 1; omega) | exact LeD.q rfl | exact LeD.r rfl | exact LeD.r (by simp; done) | exact LeD.re | exact LeD.ows rfl rfl rfl | exact LeD.u (by congr 1; congr 1; simp) | exact LeD.fn (by repeat (first | exact LeN.nil | refine LeN.cons rfl ?_))) | exact LeS.a (by repeat (first | exact LeL.nil | refine LeL.cons (by first | exact LeD.u rfl | exact LeD.p rfl | exact LeD.ow rfl rfl | exact LeD.ow rfl (by simp) | exact LeD.no rfl rfl | exact LeD.nl (by first | rfl | simp) | exact LeD.u (by simp; done) | exact LeD.u (by congr 1; omega) | exact LeD.q rfl | exact LeD.r rfl | exact LeD.r (by simp; done) | exact LeD.re | exact LeD.ows rfl rfl rfl | exact LeD.u (by congr 1; congr 1; simp) | exact LeD.fn (by repeat (first | exact LeN.nil | refine LeN.cons rfl ?_))) ?_))) ?_)); exact LeT.nil, by (try dsimp only); repeat (first | exact LeO.nil | refine LeO.bx rfl rfl (by repeat (first | exact LeL.nil | refine LeL.cons (by first | exact LeD.u rfl | exact LeD.p rfl | exact LeD.ow rfl rfl | exact LeD.ow rfl (by simp) | exact LeD.no rfl rfl | exact LeD.nl (by first | rfl | simp) | exact LeD.u (by simp; done) | exact LeD.u (by congr 1; omega) | exact LeD.q rfl | exact LeD.r rfl | exact LeD.r (by simp; done) | exact LeD.re | exact LeD.ows rfl rfl rfl | exact LeD.u (by congr 1; congr 1; simp) | exact LeD.fn (by repeat (first | exact LeN.nil | refine LeN.cons rfl ?_))) ?_)) ?_ | refine LeO.ar rfl rfl (by first | rfl | simp) ?_ | refine LeO.fm rfl (by first | rfl | simp) ?_ | refine LeO.no rfl rfl ?_)⟩⟩, fun i hi => ?_⟩⟩
      dsimp only at hi ⊢
      by_cases h9 : i < jobs.length
      · have ht1 : jobs.take (i + 1) = jobs.take i ++ [jobs[i]] := List.take_succ_eq_append_getElem h9
        have hrow : ∀ {K : List V → Prop}, K (jobs[i]).v → Ix (jobs.map Jb.v) (i : Int) K := fun k => Ix.map rfl h9 k
        obtain ⟨a1, a2⟩ := hJ.acts i h9
        obtain ⟨b1, b2⟩ := hJ.guard i h9
        have sc1 := scaled_T (jobs[i]).acts k a1 (fun a ha e => ⟨(a2 a ha).2.1, (a2 a ha).2.2.1 e⟩) k1 k2
        have sc2 := scaled_T (jobs[i]).guard k b1 (fun a ha e => ⟨(b2 a ha).2.1, (b2 a ha).2.2.1 e⟩) k1 k2
        clear a1 a2 b1 b2
        generalize jobs[i] = jb at *
        obtain ⟨ac, gu⟩ := jb
        dsimp only at sc1 sc2
        rcases i with _ | i
        · have hA : min 1 jobs.length = 1 := by omega
          repeat' ((conv => whnf); first | refine hrow ?_ | refine Gs.id ?_ | with_reducible refine And.intro ?_ ?_ | with_reducible refine Brn.T rfl ?_ | with_reducible refine Brn.F rfl ?_ | refine Brn.T (by (try simp only [smT]); first | rfl | assumption | omega | (simp only [*]; done) | (simp [*]; done) | fail) ?_ | refine Brn.F (by (try simp only [smT]); first | rfl | assumption | omega | (simp only [*]; done) | (simp [*]; done) | fail) ?_ | (refine Brn.mk (fun hb => ?_) (fun hb => ?_) <;> (try simp only [smT] at hb) <;> (try (exact absurd trivial hb)) <;> (try (exfalso; omega))) | (refine Bnd.mk (fun hm => ?_); (try simp only [smT] at hm)) | refine Rng.mk (by (try simp only [smT]); omega) ?_ | refine Ix.map rfl (by (try simp only [smT]); omega) ?_ | refine Ix.map (m := 0) rfl (by (try simp only [smT]); omega) ?_ | refine Ix.lit (m := 0) rfl rfl ?_ | refine Ixo.mk ⟨_, rfl, (by (try simp only [smT]); omega), ?_⟩ | refine Rw.lit rfl ?_ | refine Rw.self (by (try simp only [smT]); omega) ?_ | refine Rw.map (by (try simp only [smT]); omega) ?_ | refine Len.mk (by first | rfl | (simp; done) | (simp only [smT]; assumption) | (simp only [smT]; omega)) ?_ | refine Eqv.mk (by kernel_rfl) ?_ | refine Apd.mk (by first | rfl | simp) (by first | rfl | simp) (by (try simp only [smT]); first | omega | (simp; omega)) (by unfold maxLen; first | (simp; done) | (simp; omega) | omega) ?_ | refine Raw.capNil (T := tt) rfl rfl rfl rfl ?_ | refine Raw.sliceNil (T := tt) rfl rfl (by first | rfl | omega | (simp; done)) rfl rfl rfl rfl ?_ | (refine Raw.appendR (T := tt) ?_; (conv => whnf); first | refine hrow ?_ | refine Rw.lit rfl ?_ | refine Rw.self (by (try simp only [smT]); omega) ?_ | refine Rw.map (by (try simp only [smT]); omega) ?_) | refine Raw.appendIn (T := tt) rfl rfl rfl rfl rfl rfl rfl rfl rfl rfl (by (try simp only [smT]); omega) (by (try simp only [smT]); omega) ?_ | refine Raw.clear (T := tt) rfl rfl rfl rfl rfl rfl rfl (by (try simp only [smT]); omega) ?_ | refine Slc.mk ⟨_, _, rfl, rfl, (by (try simp only [smT]); omega), (by (try simp only [smT]); omega), ?_⟩ | refine Slc.mk ⟨0, _, rfl, rfl, (by (try simp only [smT]); omega), (by (try simp only [smT]); omega), ?_⟩ | refine Slc.mk ⟨1, _, rfl, rfl, (by (try simp only [smT]); omega), (by (try simp only [smT]); omega), ?_⟩ | refine Slc3.mk ⟨_, _, _, rfl, rfl, rfl, (by (try simp only [smT]); omega), (by (try simp only [smT]); omega), (by (try simp only [smT]); omega)⟩ ?_ | refine Drw.ofP (T := tt) (i := 7) [6, 13, 14, 15, 16] [0, 1, 2, 3, 4, 5, 7, 8, 9, 10, 11, 12] [0, 1, 2, 3, 4, 5, 7, 8, 9, 10, 11, 12] (OT.alt 6 (OT.alt 13 (OT.alt 14 (OT.alt 15 (OT.alt 16 OT.nil OT.nil) OT.nil) (OT.alt 15 (OT.alt 14 (OT.alt 16 OT.nil OT.nil) OT.nil) OT.nil)) (OT.alt 15 (OT.alt 13 (OT.alt 14 (OT.alt 16 OT.nil OT.nil) OT.nil) OT.nil) OT.nil)) (OT.alt 15 (OT.alt 6 (OT.alt 13 (OT.alt 14 (OT.alt 16 OT.nil OT.nil) OT.nil) OT.nil) OT.nil) OT.nil)) (by kernel_rfl) ?_ | refine Drw.of (T := tt) (i := 19) [] [] [(0, true), (1, true), (2, true), (3, true), (4, true), (5, true), (6, true), (7, true), (8, true)] (by kernel_rfl) ?_ | (refine CL.mk (Or.inl ?_); (conv => whnf); first | refine Cl.is (sc1) rfl (by first | exact fun _ => rfl | (intro e; cases e; done) | fail) ?_ | refine Cl.is (sc2) rfl (by first | exact fun _ => rfl | (intro e; cases e; done) | fail) ?_) | (refine CL.mk (Or.inl ?_); (conv => whnf); refine ClO.mk (Or.inl ?_); (repeat ((conv => whnf); refine Len.mk (by first | rfl | (simp; done) | (simp only [smT]; assumption) | (simp only [smT]; omega)) ?_)); (conv => whnf); first | refine Cl.is (sc1) rfl (by first | exact fun _ => rfl | (intro e; cases e; done) | fail) ?_ | refine Cl.is (sc2) rfl (by first | exact fun _ => rfl | (intro e; cases e; done) | fail) ?_) | (refine CL.mk (Or.inl ?_); (conv => whnf); refine ClO.mk (Or.inr ?_); (repeat ((conv => whnf); refine Len.mk (by first | rfl | (simp; done) | (simp only [smT]; assumption) | (simp only [smT]; omega)) ?_)); (conv => whnf); first | refine Cl.is (sc1) rfl (by first | exact fun _ => rfl | (intro e; cases e; done) | fail) ?_ | refine Cl.is (sc2) rfl (by first | exact fun _ => rfl | (intro e; cases e; done) | fail) ?_))
          all_goals (conv => whnf)
          all_goals exact ⟨1, by omega, by omega, [(904, .k 47)], ⟨by (try dsimp only); (repeat (refine LeT.cons rfl (by first | exact LeS.d (by first | exact LeD.u rfl | exact LeD.p rfl | exact LeD.ow rfl rfl | exact LeD.ow rfl (by simp [ht1, scJ, hA]) | exact LeD.no rfl rfl | exact LeD.nl (by first | rfl | simp [ht1, scJ, hA]) | exact LeD.u (by simp [ht1, scJ, hA]; done) | exact LeD.u (by congr 1; omega) | exact LeD.q rfl | exact LeD.r rfl | exact LeD.r (by simp [ht1, scJ, hA]; done) | exact LeD.re | exact LeD.ows rfl rfl rfl | exact LeD.u (by congr 1; congr 1; simp) | exact LeD.fn (by repeat (first | exact LeN.nil | refine LeN.cons rfl ?_))) | exact LeS.a (by repeat (first | exact LeL.nil | refine LeL.cons (by first | exact LeD.u rfl | exact LeD.p rfl | exact LeD.ow rfl rfl | exact LeD.ow rfl (by simp [ht1, scJ, hA]) | exact LeD.no rfl rfl | exact LeD.nl (by first | rfl | simp [ht1, scJ, hA]) | exact LeD.u (by simp [ht1, scJ, hA]; done) | exact LeD.u (by congr 1; omega) | exact LeD.q rfl | exact LeD.r rfl | exact LeD.r (by simp [ht1, scJ, hA]; done) | exact LeD.re | exact LeD.ows rfl rfl rfl | exact LeD.u (by congr 1; congr 1; simp) | exact LeD.fn (by repeat (first | exact LeN.nil | refine LeN.cons rfl ?_))) ?_))) ?_)); exact LeT.nil, by (try dsimp only); repeat (first | exact LeO.nil | refine LeO.bx rfl rfl (by repeat (first | exact LeL.nil | refine LeL.cons (by first | exact LeD.u rfl | exact LeD.p rfl | exact LeD.ow rfl rfl | exact LeD.ow rfl (by simp [ht1, scJ, hA]) | exact LeD.no rfl rfl | exact LeD.nl (by first | rfl | simp [ht1, scJ, hA]) | exact LeD.u (by simp [ht1, scJ, hA]; done) | exact LeD.u (by congr 1; omega) | exact LeD.q rfl | exact LeD.r rfl | exact LeD.r (by simp [ht1, scJ, hA]; done) | exact LeD.re | exact LeD.ows rfl rfl rfl | exact LeD.u (by congr 1; congr 1; simp) | exact LeD.fn (by repeat (first | exact LeN.nil | refine LeN.cons rfl ?_))) ?_)) ?_ | refine LeO.ar rfl rfl (by first | rfl | simp [ht1, scJ, hA]) ?_ | refine LeO.fm rfl (by first | rfl | simp [ht1, scJ, hA]) ?_ | refine LeO.no rfl rfl ?_)⟩⟩
        · have hA : min (i + 1) jobs.length = i + 1 := by omega
          have hB : min (i + 1 + 1) jobs.length = i + 1 + 1 := by omega
          repeat' ((conv => whnf); first | refine hrow ?_ | refine Gs.id ?_ | with_reducible refine And.intro ?_ ?_ | with_reducible refine Brn.T rfl ?_ | with_reducible refine Brn.F rfl ?_ | refine Brn.T (by (try simp only [smT]); first | rfl | assumption | omega | (simp only [*]; done) | (simp [*]; done) | fail) ?_ | refine Brn.F (by (try simp only [smT]); first | rfl | assumption | omega | (simp only [*]; done) | (simp [*]; done) | fail) ?_ | (refine Brn.mk (fun hb => ?_) (fun hb => ?_) <;> (try simp only [smT] at hb) <;> (try (exact absurd trivial hb)) <;> (try (exfalso; omega))) | (refine Bnd.mk (fun hm => ?_); (try simp only [smT] at hm)) | refine Rng.mk (by (try simp only [smT]); omega) ?_ | refine Ix.map rfl (by (try simp only [smT]); omega) ?_ | refine Ix.map (m := 0) rfl (by (try simp only [smT]); omega) ?_ | refine Ix.lit (m := 0) rfl rfl ?_ | refine Ixo.mk ⟨_, rfl, (by (try simp only [smT]); omega), ?_⟩ | refine Rw.lit rfl ?_ | refine Rw.self (by (try simp only [smT]); omega) ?_ | refine Rw.map (by (try simp only [smT]); omega) ?_ | refine Len.mk (by first | rfl | (simp; done) | (simp only [smT]; assumption) | (simp only [smT]; omega)) ?_ | refine Eqv.mk (by kernel_rfl) ?_ | refine Apd.mk (by first | rfl | simp) (by first | rfl | simp) (by (try simp only [smT]); first | omega | (simp; omega)) (by unfold maxLen; first | (simp; done) | (simp; omega) | omega) ?_ | refine Raw.capNil (T := tt) rfl rfl rfl rfl ?_ | refine Raw.sliceNil (T := tt) rfl rfl (by first | rfl | omega | (simp; done)) rfl rfl rfl rfl ?_ | (refine Raw.appendR (T := tt) ?_; (conv => whnf); first | refine hrow ?_ | refine Rw.lit rfl ?_ | refine Rw.self (by (try simp only [smT]); omega) ?_ | refine Rw.map (by (try simp only [smT]); omega) ?_) | refine Raw.appendIn (T := tt) rfl rfl rfl rfl rfl rfl rfl rfl rfl rfl (by (try simp only [smT]); omega) (by (try simp only [smT]); omega) ?_ | refine Raw.clear (T := tt) rfl rfl rfl rfl rfl rfl rfl (by (try simp only [smT]); omega) ?_ | refine Slc.mk ⟨_, _, rfl, rfl, (by (try simp only [smT]); omega), (by (try simp only [smT]); omega), ?_⟩ | refine Slc.mk ⟨0, _, rfl, rfl, (by (try simp only [smT]); omega), (by (try simp only [smT]); omega), ?_⟩ | refine Slc.mk ⟨1, _, rfl, rfl, (by (try simp only [smT]); omega), (by (try simp only [smT]); omega), ?_⟩ | refine Slc3.mk ⟨_, _, _, rfl, rfl, rfl, (by (try simp only [smT]); omega), (by (try simp only [smT]); omega), (by (try simp only [smT]); omega)⟩ ?_ | refine Drw.ofP (T := tt) (i := 7) [6, 13, 14, 15, 16] [0, 1, 2, 3, 4, 5, 7, 8, 9, 10, 11, 12] [0, 1, 2, 3, 4, 5, 7, 8, 9, 10, 11, 12] (OT.alt 6 (OT.alt 13 (OT.alt 14 (OT.alt 15 (OT.alt 16 OT.nil OT.nil) OT.nil) (OT.alt 15 (OT.alt 14 (OT.alt 16 OT.nil OT.nil) OT.nil) OT.nil)) (OT.alt 15 (OT.alt 13 (OT.alt 14 (OT.alt 16 OT.nil OT.nil) OT.nil) OT.nil) OT.nil)) (OT.alt 15 (OT.alt 6 (OT.alt 13 (OT.alt 14 (OT.alt 16 OT.nil OT.nil) OT.nil) OT.nil) OT.nil) OT.nil)) (by kernel_rfl) ?_ | refine Drw.of (T := tt) (i := 19) [] [] [(0, true), (1, true), (2, true), (3, true), (4, true), (5, true), (6, true), (7, true), (8, true)] (by kernel_rfl) ?_ | (refine CL.mk (Or.inl ?_); (conv => whnf); first | refine Cl.is (sc1) rfl (by first | exact fun _ => rfl | (intro e; cases e; done) | fail) ?_ | refine Cl.is (sc2) rfl (by first | exact fun _ => rfl | (intro e; cases e; done) | fail) ?_) | (refine CL.mk (Or.inl ?_); (conv => whnf); refine ClO.mk (Or.inl ?_); (repeat ((conv => whnf); refine Len.mk (by first | rfl | (simp; done) | (simp only [smT]; assumption) | (simp only [smT]; omega)) ?_)); (conv => whnf); first | refine Cl.is (sc1) rfl (by first | exact fun _ => rfl | (intro e; cases e; done) | fail) ?_ | refine Cl.is (sc2) rfl (by first | exact fun _ => rfl | (intro e; cases e; done) | fail) ?_) | (refine CL.mk (Or.inl ?_); (conv => whnf); refine ClO.mk (Or.inr ?_); (repeat ((conv => whnf); refine Len.mk (by first | rfl | (simp; done) | (simp only [smT]; assumption) | (simp only [smT]; omega)) ?_)); (conv => whnf); first | refine Cl.is (sc1) rfl (by first | exact fun _ => rfl | (intro e; cases e; done) | fail) ?_ | refine Cl.is (sc2) rfl (by first | exact fun _ => rfl | (intro e; cases e; done) | fail) ?_))
          all_goals (conv => whnf)
          all_goals exact ⟨i + 2, by omega, by omega, [(904, .k 47)], ⟨by (try dsimp only); (repeat (refine LeT.cons rfl (by first | exact LeS.d (by first | exact LeD.u rfl | exact LeD.p rfl | exact LeD.ow rfl rfl | exact LeD.ow rfl (by simp [ht1, scJ, hA, hB]) | exact LeD.no rfl rfl | exact LeD.nl (by first | rfl | simp [ht1, scJ, hA, hB]) | exact LeD.u (by simp [ht1, scJ, hA, hB]; done) | exact LeD.u (by congr 1; omega) | exact LeD.q rfl | exact LeD.r rfl | exact LeD.r (by simp [ht1, scJ, hA, hB]; done) | exact LeD.re | exact LeD.ows rfl rfl rfl | exact LeD.u (by congr 1; congr 1; simp) | exact LeD.fn (by repeat (first | exact LeN.nil | refine LeN.cons rfl ?_))) | exact LeS.a (by repeat (first | exact LeL.nil | refine LeL.cons (by first | exact LeD.u rfl | exact LeD.p rfl | exact LeD.ow rfl rfl | exact LeD.ow rfl (by simp [ht1, scJ, hA, hB]) | exact LeD.no rfl rfl | exact LeD.nl (by first | rfl | simp [ht1, scJ, hA, hB]) | exact LeD.u (by simp [ht1, scJ, hA, hB]; done) | exact LeD.u (by congr 1; omega) | exact LeD.q rfl | exact LeD.r rfl | exact LeD.r (by simp [ht1, scJ, hA, hB]; done) | exact LeD.re | exact LeD.ows rfl rfl rfl | exact LeD.u (by congr 1; congr 1; simp) | exact LeD.fn (by repeat (first | exact LeN.nil | refine LeN.cons rfl ?_))) ?_))) ?_)); exact LeT.nil, by (try dsimp only); repeat (first | exact LeO.nil | refine LeO.bx rfl rfl (by repeat (first | exact LeL.nil | refine LeL.cons (by first | exact LeD.u rfl | exact LeD.p rfl | exact LeD.ow rfl rfl | exact LeD.ow rfl (by simp [ht1, scJ, hA, hB]) | exact LeD.no rfl rfl | exact LeD.nl (by first | rfl | simp [ht1, scJ, hA, hB]) | exact LeD.u (by simp [ht1, scJ, hA, hB]; done) | exact LeD.u (by congr 1; omega) | exact LeD.q rfl | exact LeD.r rfl | exact LeD.r (by simp [ht1, scJ, hA, hB]; done) | exact LeD.re | exact LeD.ows rfl rfl rfl | exact LeD.u (by congr 1; congr 1; simp) | exact LeD.fn (by repeat (first | exact LeN.nil | refine LeN.cons rfl ?_))) ?_)) ?_ | refine LeO.ar rfl rfl (by first | rfl | simp [ht1, scJ, hA, hB]) ?_ | refine LeO.fm rfl (by first | rfl | simp [ht1, scJ, hA, hB]) ?_ | refine LeO.no rfl rfl ?_)⟩⟩
      · obtain rfl : i = jobs.length := by omega
        clear hi h9
        obtain ⟨m, hm⟩ : ∃ m, jobs.length = m + 1 := ⟨jobs.length - 1, by omega⟩
        rw [hm]
        dsimp only
        have e : jobs.take (m + 1) = jobs := by rw [← hm]; exact List.take_length
        rw [e]
        have hsc := fun hJ' => simM_sc (k := k) (jobs := jobs) (by omega) hJ hJ'
        generalize jobs.map (scJ k) = more at *
        have hj2 := jobsFault_T more
        by_cases h2 : (simFault more).1 = 0
        · have hs2 := simulate_ok more h2
          rw [hsc (simFault_ok h2)] at hs2
          clear hsc
          generalize simFault more = c2 at hj2 h2
          obtain ⟨c2, p2⟩ := c2
          dsimp only at h2
          subst h2
          generalize simM jobs = L at *
          repeat' ((conv => whnf); first | refine Gs.go (i := 9) (Ghost.frzA 904 rfl (by repeat ((conv => whnf); first | exact trivial | refine Len.mk (by first | rfl | simp) ?_))) ?_ | refine Drw.ghost (i := 9) (Ghost.frzA 904 rfl (by repeat ((conv => whnf); first | exact trivial | refine Len.mk (by first | rfl | simp) ?_))) ?_ | refine Gs.id ?_ | with_reducible refine And.intro ?_ ?_ | with_reducible refine Brn.T rfl ?_ | with_reducible refine Brn.F rfl ?_ | refine Brn.T (by (try simp only [smT]); first | rfl | assumption | omega | (simp only [*]; done) | (simp [*]; done) | fail) ?_ | refine Brn.F (by (try simp only [smT]); first | rfl | assumption | omega | (simp only [*]; done) | (simp [*]; done) | fail) ?_ | (refine Brn.mk (fun hb => ?_) (fun hb => ?_) <;> (try simp only [smT] at hb) <;> (try (exact absurd trivial hb)) <;> (try (exfalso; omega))) | (refine Bnd.mk (fun hm => ?_); (try simp only [smT] at hm)) | refine Rng.mk (by (try simp only [smT]); omega) ?_ | refine Ix.map rfl (by (try simp only [smT]); omega) ?_ | refine Ix.map (m := 0) rfl (by (try simp only [smT]); omega) ?_ | refine Ix.lit (m := 0) rfl rfl ?_ | refine Ixo.mk ⟨_, rfl, (by (try simp only [smT]); omega), ?_⟩ | refine Rw.lit rfl ?_ | refine Rw.self (by (try simp only [smT]); omega) ?_ | refine Rw.map (by (try simp only [smT]); omega) ?_ | refine Len.mk (by first | rfl | (simp; done) | (simp only [smT]; assumption) | (simp only [smT]; omega)) ?_ | refine Eqv.mk (by kernel_rfl) ?_ | refine Apd.mk (by first | rfl | simp) (by first | rfl | simp) (by (try simp only [smT]); first | omega | (simp; omega)) (by unfold maxLen; first | (simp; done) | (simp; omega) | omega) ?_ | refine Raw.capNil (T := tt) rfl rfl rfl rfl ?_ | refine Raw.sliceNil (T := tt) rfl rfl (by first | rfl | omega | (simp; done)) rfl rfl rfl rfl ?_ | (refine Raw.appendR (T := tt) ?_; (conv => whnf); first | refine Gs.go (i := 9) (Ghost.frzA 904 rfl (by repeat ((conv => whnf); first | exact trivial | refine Len.mk (by first | rfl | simp) ?_))) ?_ | refine Drw.ghost (i := 9) (Ghost.frzA 904 rfl (by repeat ((conv => whnf); first | exact trivial | refine Len.mk (by first | rfl | simp) ?_))) ?_ | refine Rw.lit rfl ?_ | refine Rw.self (by (try simp only [smT]); omega) ?_ | refine Rw.map (by (try simp only [smT]); omega) ?_) | refine Raw.appendIn (T := tt) rfl rfl rfl rfl rfl rfl rfl rfl rfl rfl (by (try simp only [smT]); omega) (by (try simp only [smT]); omega) ?_ | refine Raw.clear (T := tt) rfl rfl rfl rfl rfl rfl rfl (by (try simp only [smT]); omega) ?_ | refine Slc.mk ⟨_, _, rfl, rfl, (by (try simp only [smT]); omega), (by (try simp only [smT]); omega), ?_⟩ | refine Slc.mk ⟨0, _, rfl, rfl, (by (try simp only [smT]); omega), (by (try simp only [smT]); omega), ?_⟩ | refine Slc.mk ⟨1, _, rfl, rfl, (by (try simp only [smT]); omega), (by (try simp only [smT]); omega), ?_⟩ | refine Slc3.mk ⟨_, _, _, rfl, rfl, rfl, (by (try simp only [smT]); omega), (by (try simp only [smT]); omega), (by (try simp only [smT]); omega)⟩ ?_ | refine Drw.ofP (T := tt) (i := 7) [6, 13, 14, 15, 16] [0, 1, 2, 3, 4, 5, 7, 8, 9, 10, 11, 12] [0, 1, 2, 3, 4, 5, 7, 8, 9, 10, 11, 12] (OT.alt 6 (OT.alt 13 (OT.alt 14 (OT.alt 15 (OT.alt 16 OT.nil OT.nil) OT.nil) (OT.alt 15 (OT.alt 14 (OT.alt 16 OT.nil OT.nil) OT.nil) OT.nil)) (OT.alt 15 (OT.alt 13 (OT.alt 14 (OT.alt 16 OT.nil OT.nil) OT.nil) OT.nil) OT.nil)) (OT.alt 15 (OT.alt 6 (OT.alt 13 (OT.alt 14 (OT.alt 16 OT.nil OT.nil) OT.nil) OT.nil) OT.nil) OT.nil)) (by kernel_rfl) ?_ | refine Drw.of (T := tt) (i := 19) [] [] [(0, true), (1, true), (2, true), (3, true), (4, true), (5, true), (6, true), (7, true), (8, true)] (by kernel_rfl) ?_ | (refine CL.mk (Or.inl ?_); (conv => whnf); first | refine Cl.is (hj2) rfl (by first | exact fun _ => rfl | (intro e; cases e; done) | fail) ?_ | refine Cl.is (hs2) rfl (by first | exact fun _ => rfl | (intro e; cases e; done) | fail) ?_ | refine Cl.is (simulated_T) rfl (by first | exact fun _ => rfl | (intro e; cases e; done) | fail) ?_) | (refine CL.mk (Or.inl ?_); (conv => whnf); refine ClO.mk (Or.inl ?_); (repeat ((conv => whnf); refine Len.mk (by first | rfl | (simp; done) | (simp only [smT]; assumption) | (simp only [smT]; omega)) ?_)); (conv => whnf); first | refine Cl.is (hj2) rfl (by first | exact fun _ => rfl | (intro e; cases e; done) | fail) ?_ | refine Cl.is (hs2) rfl (by first | exact fun _ => rfl | (intro e; cases e; done) | fail) ?_ | refine Cl.is (simulated_T) rfl (by first | exact fun _ => rfl | (intro e; cases e; done) | fail) ?_) | (refine CL.mk (Or.inl ?_); (conv => whnf); refine ClO.mk (Or.inr ?_); (repeat ((conv => whnf); refine Len.mk (by first | rfl | (simp; done) | (simp only [smT]; assumption) | (simp only [smT]; omega)) ?_)); (conv => whnf); first | refine Cl.is (hj2) rfl (by first | exact fun _ => rfl | (intro e; cases e; done) | fail) ?_ | refine Cl.is (hs2) rfl (by first | exact fun _ => rfl | (intro e; cases e; done) | fail) ?_ | refine Cl.is (simulated_T) rfl (by first | exact fun _ => rfl | (intro e; cases e; done) | fail) ?_) | (refine CL.mk (Or.inr (Raw.callI [] [905] rfl rfl rfl rfl rfl rfl rfl (hso) ?_)); rintro _ _ ⟨rfl, rfl⟩; refine Bk.mk rfl rfl ?_))
          all_goals (conv => whnf)
          refine ⟨⟨Nat, fun i => i ≤ L.length, fun i => L.length - i, fun i => ⟨[(1, di k), (8, .d (.ow 905 L.length)), (10, .d (.u (.sl 4 ((L.map (scR k)).map Rc.v)))), (12, di i)], [(905, .ar 55 4 ((mixR (scR k) L i).map Rc.v))]⟩, 0, Nat.zero_le _, ⟨[(905, .k 905)], ⟨by (try dsimp only); (repeat (refine LeT.cons rfl (by first | exact LeS.d (by first | exact LeD.u rfl | exact LeD.p rfl | exact LeD.ow rfl rfl | exact LeD.ow rfl (by simp [mixR]) | exact LeD.no rfl rfl | exact LeD.nl (by first | rfl | simp [mixR]) | exact LeD.u (by simp [mixR]; done) | exact LeD.u (by congr 1; omega) | exact LeD.q rfl | exact LeD.r rfl | exact LeD.r (by simp [mixR]; done) | exact LeD.re | exact LeD.ows rfl rfl rfl | exact LeD.u (by congr 1; congr 1; simp) | exact LeD.fn (by repeat (first | exact LeN.nil | refine LeN.cons rfl ?_))) | exact LeS.a (by repeat (first | exact LeL.nil | refine LeL.cons (by first | exact LeD.u rfl | exact LeD.p rfl | exact LeD.ow rfl rfl | exact LeD.ow rfl (by simp [mixR]) | exact LeD.no rfl rfl | exact LeD.nl (by first | rfl | simp [mixR]) | exact LeD.u (by simp [mixR]; done) | exact LeD.u (by congr 1; omega) | exact LeD.q rfl | exact LeD.r rfl | exact LeD.r (by simp [mixR]; done) | exact LeD.re | exact LeD.ows rfl rfl rfl | exact LeD.u (by congr 1; congr 1; simp) | exact LeD.fn (by repeat (first | exact LeN.nil | refine LeN.cons rfl ?_))) ?_))) ?_)); exact LeT.nil, by (try dsimp only); repeat (first | exact LeO.nil | refine LeO.bx rfl rfl (by repeat (first | exact LeL.nil | refine LeL.cons (by first | exact LeD.u rfl | exact LeD.p rfl | exact LeD.ow rfl rfl | exact LeD.ow rfl (by simp [mixR]) | exact LeD.no rfl rfl | exact LeD.nl (by first | rfl | simp [mixR]) | exact LeD.u (by simp [mixR]; done) | exact LeD.u (by congr 1; omega) | exact LeD.q rfl | exact LeD.r rfl | exact LeD.r (by simp [mixR]; done) | exact LeD.re | exact LeD.ows rfl rfl rfl | exact LeD.u (by congr 1; congr 1; simp) | exact LeD.fn (by repeat (first | exact LeN.nil | refine LeN.cons rfl ?_))) ?_)) ?_ | refine LeO.ar rfl rfl (by first | rfl | simp [mixR]) ?_ | refine LeO.fm rfl (by first | rfl | simp [mixR]) ?_ | refine LeO.no rfl rfl ?_)⟩⟩, fun i hi => ?_⟩⟩
          dsimp only at hi ⊢
          by_cases h9 : i < L.length
          · have hset := mixR_set (f := scR k) h9
            obtain ⟨t1, t2⟩ := htm i L[i] (List.getElem?_eq_getElem h9)
            have m1 : 0 ≤ (L[i]).time * k := Int.mul_nonneg t1 (by omega)
            have m2 : (L[i]).time * k ≤ 7201000000000 * 1000 := Int.mul_le_mul t2 k2 (by omega) (by omega)
            have hrow : ∀ {K : List V → Prop}, K (scR k L[i]).v → Ix ((L.map (scR k)).map Rc.v) (i : Int) K := fun q => Ix.map rfl (by simpa using h9) (by simpa using q)
            have hmix : ∀ {K : List V → Prop}, K (L[i]).v → Rw ((mixR (scR k) L i).map Rc.v) i K := fun q => Rw_mix h9 q
            have hll := mixR_length (scR k) L i hi
            generalize L[i] = r at hset t1 t2 m1 m2 hrow hmix
            obtain ⟨rt, rk, rkd, rn⟩ := r
            dsimp only [scR] at hset m1 m2 hrow
            clear t1 t2
            repeat' ((conv => whnf); first | refine hrow ?_ | refine Ixo.mk ⟨i, rfl, h9, ?_⟩ | refine hmix ?_ | refine Rw.self (by simp [hll, h9]) ?_ | refine Gs.id ?_ | with_reducible refine And.intro ?_ ?_ | with_reducible refine Brn.T rfl ?_ | with_reducible refine Brn.F rfl ?_ | refine Brn.T (by (try simp only [smT]); first | rfl | assumption | omega | (simp only [*]; done) | (simp [*]; done) | fail) ?_ | refine Brn.F (by (try simp only [smT]); first | rfl | assumption | omega | (simp only [*]; done) | (simp [*]; done) | fail) ?_ | (refine Brn.mk (fun hb => ?_) (fun hb => ?_) <;> (try simp only [smT] at hb) <;> (try (exact absurd trivial hb)) <;> (try (exfalso; omega))) | (refine Bnd.mk (fun hm => ?_); (try simp only [smT] at hm)) | refine Rng.mk (by (try simp only [smT]); omega) ?_ | refine Ix.map rfl (by (try simp only [smT]); omega) ?_ | refine Ix.map (m := 0) rfl (by (try simp only [smT]); omega) ?_ | refine Ix.lit (m := 0) rfl rfl ?_ | refine Ixo.mk ⟨_, rfl, (by (try simp only [smT]); omega), ?_⟩ | refine Rw.lit rfl ?_ | refine Rw.self (by (try simp only [smT]); omega) ?_ | refine Rw.map (by (try simp only [smT]); omega) ?_ | refine Len.mk (by first | rfl | (simp; done) | (simp only [smT]; assumption) | (simp only [smT]; omega)) ?_ | refine Eqv.mk (by kernel_rfl) ?_ | refine Apd.mk (by first | rfl | simp) (by first | rfl | simp) (by (try simp only [smT]); first | omega | (simp; omega)) (by unfold maxLen; first | (simp; done) | (simp; omega) | omega) ?_ | refine Raw.capNil (T := tt) rfl rfl rfl rfl ?_ | refine Raw.sliceNil (T := tt) rfl rfl (by first | rfl | omega | (simp; done)) rfl rfl rfl rfl ?_ | (refine Raw.appendR (T := tt) ?_; (conv => whnf); first | refine hrow ?_ | refine Ixo.mk ⟨i, rfl, h9, ?_⟩ | refine hmix ?_ | refine Rw.self (by simp [hll, h9]) ?_ | refine Rw.lit rfl ?_ | refine Rw.self (by (try simp only [smT]); omega) ?_ | refine Rw.map (by (try simp only [smT]); omega) ?_) | refine Raw.appendIn (T := tt) rfl rfl rfl rfl rfl rfl rfl rfl rfl rfl (by (try simp only [smT]); omega) (by (try simp only [smT]); omega) ?_ | refine Raw.clear (T := tt) rfl rfl rfl rfl rfl rfl rfl (by (try simp only [smT]); omega) ?_ | refine Slc.mk ⟨_, _, rfl, rfl, (by (try simp only [smT]); omega), (by (try simp only [smT]); omega), ?_⟩ | refine Slc.mk ⟨0, _, rfl, rfl, (by (try simp only [smT]); omega), (by (try simp only [smT]); omega), ?_⟩ | refine Slc.mk ⟨1, _, rfl, rfl, (by (try simp only [smT]); omega), (by (try simp only [smT]); omega), ?_⟩ | refine Slc3.mk ⟨_, _, _, rfl, rfl, rfl, (by (try simp only [smT]); omega), (by (try simp only [smT]); omega), (by (try simp only [smT]); omega)⟩ ?_ | refine Drw.ofP (T := tt) (i := 7) [6, 13, 14, 15, 16] [0, 1, 2, 3, 4, 5, 7, 8, 9, 10, 11, 12] [0, 1, 2, 3, 4, 5, 7, 8, 9, 10, 11, 12] (OT.alt 6 (OT.alt 13 (OT.alt 14 (OT.alt 15 (OT.alt 16 OT.nil OT.nil) OT.nil) (OT.alt 15 (OT.alt 14 (OT.alt 16 OT.nil OT.nil) OT.nil) OT.nil)) (OT.alt 15 (OT.alt 13 (OT.alt 14 (OT.alt 16 OT.nil OT.nil) OT.nil) OT.nil) OT.nil)) (OT.alt 15 (OT.alt 6 (OT.alt 13 (OT.alt 14 (OT.alt 16 OT.nil OT.nil) OT.nil) OT.nil) OT.nil) OT.nil)) (by kernel_rfl) ?_ | refine Drw.of (T := tt) (i := 19) [] [] [(0, true), (1, true), (2, true), (3, true), (4, true), (5, true), (6, true), (7, true), (8, true)] (by kernel_rfl) ?_ | (refine CL.mk (Or.inl ?_); (conv => whnf); first | refine Cl.is (simulated_T) rfl (by first | exact fun _ => rfl | (intro e; cases e; done) | fail) ?_) | (refine CL.mk (Or.inl ?_); (conv => whnf); refine ClO.mk (Or.inl ?_); (repeat ((conv => whnf); refine Len.mk (by first | rfl | (simp; done) | (simp only [smT]; assumption) | (simp only [smT]; omega)) ?_)); (conv => whnf); first | refine Cl.is (simulated_T) rfl (by first | exact fun _ => rfl | (intro e; cases e; done) | fail) ?_) | (refine CL.mk (Or.inl ?_); (conv => whnf); refine ClO.mk (Or.inr ?_); (repeat ((conv => whnf); refine Len.mk (by first | rfl | (simp; done) | (simp only [smT]; assumption) | (simp only [smT]; omega)) ?_)); (conv => whnf); first | refine Cl.is (simulated_T) rfl (by first | exact fun _ => rfl | (intro e; cases e; done) | fail) ?_))
            all_goals (conv => whnf)
            all_goals exact ⟨i + 1, by omega, by omega, [(905, .k 905)], ⟨by (try dsimp only); (repeat (refine LeT.cons rfl (by first | exact LeS.d (by first | exact LeD.u rfl | exact LeD.p rfl | exact LeD.ow rfl rfl | exact LeD.ow rfl (by simp [hset]) | exact LeD.no rfl rfl | exact LeD.nl (by first | rfl | simp [hset]) | exact LeD.u (by simp [hset]; done) | exact LeD.u (by congr 1; omega) | exact LeD.q rfl | exact LeD.r rfl | exact LeD.r (by simp [hset]; done) | exact LeD.re | exact LeD.ows rfl rfl rfl | exact LeD.u (by congr 1; congr 1; simp) | exact LeD.fn (by repeat (first | exact LeN.nil | refine LeN.cons rfl ?_))) | exact LeS.a (by repeat (first | exact LeL.nil | refine LeL.cons (by first | exact LeD.u rfl | exact LeD.p rfl | exact LeD.ow rfl rfl | exact LeD.ow rfl (by simp [hset]) | exact LeD.no rfl rfl | exact LeD.nl (by first | rfl | simp [hset]) | exact LeD.u (by simp [hset]; done) | exact LeD.u (by congr 1; omega) | exact LeD.q rfl | exact LeD.r rfl | exact LeD.r (by simp [hset]; done) | exact LeD.re | exact LeD.ows rfl rfl rfl | exact LeD.u (by congr 1; congr 1; simp) | exact LeD.fn (by repeat (first | exact LeN.nil | refine LeN.cons rfl ?_))) ?_))) ?_)); exact LeT.nil, by (try dsimp only); repeat (first | exact LeO.nil | refine LeO.bx rfl rfl (by repeat (first | exact LeL.nil | refine LeL.cons (by first | exact LeD.u rfl | exact LeD.p rfl | exact LeD.ow rfl rfl | exact LeD.ow rfl (by simp [hset]) | exact LeD.no rfl rfl | exact LeD.nl (by first | rfl | simp [hset]) | exact LeD.u (by simp [hset]; done) | exact LeD.u (by congr 1; omega) | exact LeD.q rfl | exact LeD.r rfl | exact LeD.r (by simp [hset]; done) | exact LeD.re | exact LeD.ows rfl rfl rfl | exact LeD.u (by congr 1; congr 1; simp) | exact LeD.fn (by repeat (first | exact LeN.nil | refine LeN.cons rfl ?_))) ?_)) ?_ | refine LeO.ar rfl rfl (by first | rfl | simp [hset]) ?_ | refine LeO.fm rfl (by first | rfl | simp [hset]) ?_ | refine LeO.no rfl rfl ?_)⟩⟩
          · obtain rfl : i = L.length := by omega
            repeat' ((conv => whnf); first | refine Gs.id ?_ | with_reducible refine And.intro ?_ ?_ | with_reducible refine Brn.T rfl ?_ | with_reducible refine Brn.F rfl ?_ | refine Brn.T (by (try simp only [smT]); first | rfl | assumption | omega | (simp only [*]; done) | (simp [*]; done) | fail) ?_ | refine Brn.F (by (try simp only [smT]); first | rfl | assumption | omega | (simp only [*]; done) | (simp [*]; done) | fail) ?_ | (refine Brn.mk (fun hb => ?_) (fun hb => ?_) <;> (try simp only [smT] at hb) <;> (try (exact absurd trivial hb)) <;> (try (exfalso; omega))) | (refine Bnd.mk (fun hm => ?_); (try simp only [smT] at hm)) | refine Rng.mk (by (try simp only [smT]); omega) ?_ | refine Ix.map rfl (by (try simp only [smT]); omega) ?_ | refine Ix.map (m := 0) rfl (by (try simp only [smT]); omega) ?_ | refine Ix.lit (m := 0) rfl rfl ?_ | refine Ixo.mk ⟨_, rfl, (by (try simp only [smT]); omega), ?_⟩ | refine Rw.lit rfl ?_ | refine Rw.self (by (try simp only [smT]); omega) ?_ | refine Rw.map (by (try simp only [smT]); omega) ?_ | refine Len.mk (by first | rfl | (simp; done) | (simp only [smT]; assumption) | (simp only [smT]; omega)) ?_ | refine Eqv.mk (by kernel_rfl) ?_ | refine Apd.mk (by first | rfl | simp) (by first | rfl | simp) (by (try simp only [smT]); first | omega | (simp; omega)) (by unfold maxLen; first | (simp; done) | (simp; omega) | omega) ?_ | refine Raw.capNil (T := tt) rfl rfl rfl rfl ?_ | refine Raw.sliceNil (T := tt) rfl rfl (by first | rfl | omega | (simp; done)) rfl rfl rfl rfl ?_ | (refine Raw.appendR (T := tt) ?_; (conv => whnf); first | refine Rw.lit rfl ?_ | refine Rw.self (by (try simp only [smT]); omega) ?_ | refine Rw.map (by (try simp only [smT]); omega) ?_) | refine Raw.appendIn (T := tt) rfl rfl rfl rfl rfl rfl rfl rfl rfl rfl (by (try simp only [smT]); omega) (by (try simp only [smT]); omega) ?_ | refine Raw.clear (T := tt) rfl rfl rfl rfl rfl rfl rfl (by (try simp only [smT]); omega) ?_ | refine Slc.mk ⟨_, _, rfl, rfl, (by (try simp only [smT]); omega), (by (try simp only [smT]); omega), ?_⟩ | refine Slc.mk ⟨0, _, rfl, rfl, (by (try simp only [smT]); omega), (by (try simp only [smT]); omega), ?_⟩ | refine Slc.mk ⟨1, _, rfl, rfl, (by (try simp only [smT]); omega), (by (try simp only [smT]); omega), ?_⟩ | refine Slc3.mk ⟨_, _, _, rfl, rfl, rfl, (by (try simp only [smT]); omega), (by (try simp only [smT]); omega), (by (try simp only [smT]); omega)⟩ ?_ | refine Drw.ofP (T := tt) (i := 7) [6, 13, 14, 15, 16] [0, 1, 2, 3, 4, 5, 7, 8, 9, 10, 11, 12] [0, 1, 2, 3, 4, 5, 7, 8, 9, 10, 11, 12] (OT.alt 6 (OT.alt 13 (OT.alt 14 (OT.alt 15 (OT.alt 16 OT.nil OT.nil) OT.nil) (OT.alt 15 (OT.alt 14 (OT.alt 16 OT.nil OT.nil) OT.nil) OT.nil)) (OT.alt 15 (OT.alt 13 (OT.alt 14 (OT.alt 16 OT.nil OT.nil) OT.nil) OT.nil) OT.nil)) (OT.alt 15 (OT.alt 6 (OT.alt 13 (OT.alt 14 (OT.alt 16 OT.nil OT.nil) OT.nil) OT.nil) OT.nil) OT.nil)) (by kernel_rfl) ?_ | refine Drw.of (T := tt) (i := 19) [] [] [(0, true), (1, true), (2, true), (3, true), (4, true), (5, true), (6, true), (7, true), (8, true)] (by kernel_rfl) ?_ | (refine CL.mk (Or.inl ?_); (conv => whnf); first | refine Cl.is (simulated_T) rfl (by first | exact fun _ => rfl | (intro e; cases e; done) | fail) ?_) | (refine CL.mk (Or.inl ?_); (conv => whnf); refine ClO.mk (Or.inl ?_); (repeat ((conv => whnf); refine Len.mk (by first | rfl | (simp; done) | (simp only [smT]; assumption) | (simp only [smT]; omega)) ?_)); (conv => whnf); first | refine Cl.is (simulated_T) rfl (by first | exact fun _ => rfl | (intro e; cases e; done) | fail) ?_) | (refine CL.mk (Or.inl ?_); (conv => whnf); refine ClO.mk (Or.inr ?_); (repeat ((conv => whnf); refine Len.mk (by first | rfl | (simp; done) | (simp only [smT]; assumption) | (simp only [smT]; omega)) ?_)); (conv => whnf); first | refine Cl.is (simulated_T) rfl (by first | exact fun _ => rfl | (intro e; cases e; done) | fail) ?_))
            all_goals (conv => whnf)
            all_goals exact Ret.is rfl
        · clear hsc hso
          generalize simFault more = c2 at hj2 h2
          obtain ⟨c2, p2⟩ := c2
          dsimp only at h2
          repeat' ((conv => whnf); first | refine Gs.go (i := 9) (Ghost.frzA 904 rfl (by repeat ((conv => whnf); first | exact trivial | refine Len.mk (by first | rfl | simp) ?_))) ?_ | refine Drw.ghost (i := 9) (Ghost.frzA 904 rfl (by repeat ((conv => whnf); first | exact trivial | refine Len.mk (by first | rfl | simp) ?_))) ?_ | refine Gs.id ?_ | with_reducible refine And.intro ?_ ?_ | with_reducible refine Brn.T rfl ?_ | with_reducible refine Brn.F rfl ?_ | refine Brn.T (by (try simp only [smT]); first | rfl | assumption | omega | (simp only [*]; done) | (simp [*]; done) | fail) ?_ | refine Brn.F (by (try simp only [smT]); first | rfl | assumption | omega | (simp only [*]; done) | (simp [*]; done) | fail) ?_ | (refine Brn.mk (fun hb => ?_) (fun hb => ?_) <;> (try simp only [smT] at hb) <;> (try (exact absurd trivial hb)) <;> (try (exfalso; omega))) | (refine Bnd.mk (fun hm => ?_); (try simp only [smT] at hm)) | refine Rng.mk (by (try simp only [smT]); omega) ?_ | refine Ix.map rfl (by (try simp only [smT]); omega) ?_ | refine Ix.map (m := 0) rfl (by (try simp only [smT]); omega) ?_ | refine Ix.lit (m := 0) rfl rfl ?_ | refine Ixo.mk ⟨_, rfl, (by (try simp only [smT]); omega), ?_⟩ | refine Rw.lit rfl ?_ | refine Rw.self (by (try simp only [smT]); omega) ?_ | refine Rw.map (by (try simp only [smT]); omega) ?_ | refine Len.mk (by first | rfl | (simp; done) | (simp only [smT]; assumption) | (simp only [smT]; omega)) ?_ | refine Eqv.mk (by kernel_rfl) ?_ | refine Apd.mk (by first | rfl | simp) (by first | rfl | simp) (by (try simp only [smT]); first | omega | (simp; omega)) (by unfold maxLen; first | (simp; done) | (simp; omega) | omega) ?_ | refine Raw.capNil (T := tt) rfl rfl rfl rfl ?_ | refine Raw.sliceNil (T := tt) rfl rfl (by first | rfl | omega | (simp; done)) rfl rfl rfl rfl ?_ | (refine Raw.appendR (T := tt) ?_; (conv => whnf); first | refine Gs.go (i := 9) (Ghost.frzA 904 rfl (by repeat ((conv => whnf); first | exact trivial | refine Len.mk (by first | rfl | simp) ?_))) ?_ | refine Drw.ghost (i := 9) (Ghost.frzA 904 rfl (by repeat ((conv => whnf); first | exact trivial | refine Len.mk (by first | rfl | simp) ?_))) ?_ | refine Rw.lit rfl ?_ | refine Rw.self (by (try simp only [smT]); omega) ?_ | refine Rw.map (by (try simp only [smT]); omega) ?_) | refine Raw.appendIn (T := tt) rfl rfl rfl rfl rfl rfl rfl rfl rfl rfl (by (try simp only [smT]); omega) (by (try simp only [smT]); omega) ?_ | refine Raw.clear (T := tt) rfl rfl rfl rfl rfl rfl rfl (by (try simp only [smT]); omega) ?_ | refine Slc.mk ⟨_, _, rfl, rfl, (by (try simp only [smT]); omega), (by (try simp only [smT]); omega), ?_⟩ | refine Slc.mk ⟨0, _, rfl, rfl, (by (try simp only [smT]); omega), (by (try simp only [smT]); omega), ?_⟩ | refine Slc.mk ⟨1, _, rfl, rfl, (by (try simp only [smT]); omega), (by (try simp only [smT]); omega), ?_⟩ | refine Slc3.mk ⟨_, _, _, rfl, rfl, rfl, (by (try simp only [smT]); omega), (by (try simp only [smT]); omega), (by (try simp only [smT]); omega)⟩ ?_ | refine Drw.ofP (T := tt) (i := 7) [6, 13, 14, 15, 16] [0, 1, 2, 3, 4, 5, 7, 8, 9, 10, 11, 12] [0, 1, 2, 3, 4, 5, 7, 8, 9, 10, 11, 12] (OT.alt 6 (OT.alt 13 (OT.alt 14 (OT.alt 15 (OT.alt 16 OT.nil OT.nil) OT.nil) (OT.alt 15 (OT.alt 14 (OT.alt 16 OT.nil OT.nil) OT.nil) OT.nil)) (OT.alt 15 (OT.alt 13 (OT.alt 14 (OT.alt 16 OT.nil OT.nil) OT.nil) OT.nil) OT.nil)) (OT.alt 15 (OT.alt 6 (OT.alt 13 (OT.alt 14 (OT.alt 16 OT.nil OT.nil) OT.nil) OT.nil) OT.nil) OT.nil)) (by kernel_rfl) ?_ | refine Drw.of (T := tt) (i := 19) [] [] [(0, true), (1, true), (2, true), (3, true), (4, true), (5, true), (6, true), (7, true), (8, true)] (by kernel_rfl) ?_ | (refine CL.mk (Or.inl ?_); (conv => whnf); first | refine Cl.is (hj2) rfl (by first | exact fun _ => rfl | (intro e; cases e; done) | fail) ?_ | refine Cl.is (simulated_T) rfl (by first | exact fun _ => rfl | (intro e; cases e; done) | fail) ?_) | (refine CL.mk (Or.inl ?_); (conv => whnf); refine ClO.mk (Or.inl ?_); (repeat ((conv => whnf); refine Len.mk (by first | rfl | (simp; done) | (simp only [smT]; assumption) | (simp only [smT]; omega)) ?_)); (conv => whnf); first | refine Cl.is (hj2) rfl (by first | exact fun _ => rfl | (intro e; cases e; done) | fail) ?_ | refine Cl.is (simulated_T) rfl (by first | exact fun _ => rfl | (intro e; cases e; done) | fail) ?_) | (refine CL.mk (Or.inl ?_); (conv => whnf); refine ClO.mk (Or.inr ?_); (repeat ((conv => whnf); refine Len.mk (by first | rfl | (simp; done) | (simp only [smT]; assumption) | (simp only [smT]; omega)) ?_)); (conv => whnf); first | refine Cl.is (hj2) rfl (by first | exact fun _ => rfl | (intro e; cases e; done) | fail) ?_ | refine Cl.is (simulated_T) rfl (by first | exact fun _ => rfl | (intro e; cases e; done) | fail) ?_))
          all_goals (conv => whnf)
          all_goals exact Ret.is rfl
    · have hin : inB k 1 1000 = false := by simp [inB]; omega
      generalize simFault jobs = c at hj h
      obtain ⟨c, p⟩ := c
      dsimp only at h
      subst h
      have hinT := in_T k 1 1000
      rw [hin] at hinT
      refine callsA_of_vc (T := tt) Try.func10 rfl rfl rfl rfl rfl ?_
      repeat' ((conv => whnf); first | refine Gs.id ?_ | with_reducible refine And.intro ?_ ?_ | with_reducible refine Brn.T rfl ?_ | with_reducible refine Brn.F rfl ?_ | refine Brn.T (by (try simp only [smT]); first | rfl | assumption | omega | (simp only [*]; done) | (simp [*]; done) | fail) ?_ | refine Brn.F (by (try simp only [smT]); first | rfl | assumption | omega | (simp only [*]; done) | (simp [*]; done) | fail) ?_ | (refine Brn.mk (fun hb => ?_) (fun hb => ?_) <;> (try simp only [smT] at hb) <;> (try (exact absurd trivial hb)) <;> (try (exfalso; omega))) | (refine Bnd.mk (fun hm => ?_); (try simp only [smT] at hm)) | refine Rng.mk (by (try simp only [smT]); omega) ?_ | refine Ix.map rfl (by (try simp only [smT]); omega) ?_ | refine Ix.map (m := 0) rfl (by (try simp only [smT]); omega) ?_ | refine Ix.lit (m := 0) rfl rfl ?_ | refine Ixo.mk ⟨_, rfl, (by (try simp only [smT]); omega), ?_⟩ | refine Rw.lit rfl ?_ | refine Rw.self (by (try simp only [smT]); omega) ?_ | refine Rw.map (by (try simp only [smT]); omega) ?_ | refine Len.mk (by first | rfl | (simp; done) | (simp only [smT]; assumption) | (simp only [smT]; omega)) ?_ | refine Eqv.mk (by kernel_rfl) ?_ | refine Apd.mk (by first | rfl | simp) (by first | rfl | simp) (by (try simp only [smT]); first | omega | (simp; omega)) (by unfold maxLen; first | (simp; done) | (simp; omega) | omega) ?_ | refine Raw.capNil (T := tt) rfl rfl rfl rfl ?_ | refine Raw.sliceNil (T := tt) rfl rfl (by first | rfl | omega | (simp; done)) rfl rfl rfl rfl ?_ | (refine Raw.appendR (T := tt) ?_; (conv => whnf); first | refine Rw.lit rfl ?_ | refine Rw.self (by (try simp only [smT]); omega) ?_ | refine Rw.map (by (try simp only [smT]); omega) ?_) | refine Raw.appendIn (T := tt) rfl rfl rfl rfl rfl rfl rfl rfl rfl rfl (by (try simp only [smT]); omega) (by (try simp only [smT]); omega) ?_ | refine Raw.clear (T := tt) rfl rfl rfl rfl rfl rfl rfl (by (try simp only [smT]); omega) ?_ | refine Slc.mk ⟨_, _, rfl, rfl, (by (try simp only [smT]); omega), (by (try simp only [smT]); omega), ?_⟩ | refine Slc.mk ⟨0, _, rfl, rfl, (by (try simp only [smT]); omega), (by (try simp only [smT]); omega), ?_⟩ | refine Slc.mk ⟨1, _, rfl, rfl, (by (try simp only [smT]); omega), (by (try simp only [smT]); omega), ?_⟩ | refine Slc3.mk ⟨_, _, _, rfl, rfl, rfl, (by (try simp only [smT]); omega), (by (try simp only [smT]); omega), (by (try simp only [smT]); omega)⟩ ?_ | refine Drw.ofP (T := tt) (i := 7) [6, 13, 14, 15, 16] [0, 1, 2, 3, 4, 5, 7, 8, 9, 10, 11, 12] [0, 1, 2, 3, 4, 5, 7, 8, 9, 10, 11, 12] (OT.alt 6 (OT.alt 13 (OT.alt 14 (OT.alt 15 (OT.alt 16 OT.nil OT.nil) OT.nil) (OT.alt 15 (OT.alt 14 (OT.alt 16 OT.nil OT.nil) OT.nil) OT.nil)) (OT.alt 15 (OT.alt 13 (OT.alt 14 (OT.alt 16 OT.nil OT.nil) OT.nil) OT.nil) OT.nil)) (OT.alt 15 (OT.alt 6 (OT.alt 13 (OT.alt 14 (OT.alt 16 OT.nil OT.nil) OT.nil) OT.nil) OT.nil) OT.nil)) (by kernel_rfl) ?_ | refine Drw.of (T := tt) (i := 19) [] [] [(0, true), (1, true), (2, true), (3, true), (4, true), (5, true), (6, true), (7, true), (8, true)] (by kernel_rfl) ?_ | (refine CL.mk (Or.inl ?_); (conv => whnf); first | refine Cl.is (hj) rfl (by first | exact fun _ => rfl | (intro e; cases e; done) | fail) ?_ | refine Cl.is (hinT) rfl (by first | exact fun _ => rfl | (intro e; cases e; done) | fail) ?_ | refine Cl.is (simulated_T) rfl (by first | exact fun _ => rfl | (intro e; cases e; done) | fail) ?_) | (refine CL.mk (Or.inl ?_); (conv => whnf); refine ClO.mk (Or.inl ?_); (repeat ((conv => whnf); refine Len.mk (by first | rfl | (simp; done) | (simp only [smT]; assumption) | (simp only [smT]; omega)) ?_)); (conv => whnf); first | refine Cl.is (hj) rfl (by first | exact fun _ => rfl | (intro e; cases e; done) | fail) ?_ | refine Cl.is (hinT) rfl (by first | exact fun _ => rfl | (intro e; cases e; done) | fail) ?_ | refine Cl.is (simulated_T) rfl (by first | exact fun _ => rfl | (intro e; cases e; done) | fail) ?_) | (refine CL.mk (Or.inl ?_); (conv => whnf); refine ClO.mk (Or.inr ?_); (repeat ((conv => whnf); refine Len.mk (by first | rfl | (simp; done) | (simp only [smT]; assumption) | (simp only [smT]; omega)) ?_)); (conv => whnf); first | refine Cl.is (hj) rfl (by first | exact fun _ => rfl | (intro e; cases e; done) | fail) ?_ | refine Cl.is (hinT) rfl (by first | exact fun _ => rfl | (intro e; cases e; done) | fail) ?_ | refine Cl.is (simulated_T) rfl (by first | exact fun _ => rfl | (intro e; cases e; done) | fail) ?_))
      all_goals (conv => whnf)
      all_goals exact Ret.is rfl
  · generalize simFault jobs = c at hj h
    obtain ⟨c, p⟩ := c
    dsimp only at h
    refine callsA_of_vc (T := tt) Try.func10 rfl rfl rfl rfl rfl ?_
    repeat' ((conv => whnf); first | refine Gs.id ?_ | with_reducible refine And.intro ?_ ?_ | with_reducible refine Brn.T rfl ?_ | with_reducible refine Brn.F rfl ?_ | refine Brn.T (by (try simp only [smT]); first | rfl | assumption | omega | (simp only [*]; done) | (simp [*]; done) | fail) ?_ | refine Brn.F (by (try simp only [smT]); first | rfl | assumption | omega | (simp only [*]; done) | (simp [*]; done) | fail) ?_ | (refine Brn.mk (fun hb => ?_) (fun hb => ?_) <;> (try simp only [smT] at hb) <;> (try (exact absurd trivial hb)) <;> (try (exfalso; omega))) | (refine Bnd.mk (fun hm => ?_); (try simp only [smT] at hm)) | refine Rng.mk (by (try simp only [smT]); omega) ?_ | refine Ix.map rfl (by (try simp only [smT]); omega) ?_ | refine Ix.map (m := 0) rfl (by (try simp only [smT]); omega) ?_ | refine Ix.lit (m := 0) rfl rfl ?_ | refine Ixo.mk ⟨_, rfl, (by (try simp only [smT]); omega), ?_⟩ | refine Rw.lit rfl ?_ | refine Rw.self (by (try simp only [smT]); omega) ?_ | refine Rw.map (by (try simp only [smT]); omega) ?_ | refine Len.mk (by first | rfl | (simp; done) | (simp only [smT]; assumption) | (simp only [smT]; omega)) ?_ | refine Eqv.mk (by kernel_rfl) ?_ | refine Apd.mk (by first | rfl | simp) (by first | rfl | simp) (by (try simp only [smT]); first | omega | (simp; omega)) (by unfold maxLen; first | (simp; done) | (simp; omega) | omega) ?_ | refine Raw.capNil (T := tt) rfl rfl rfl rfl ?_ | refine Raw.sliceNil (T := tt) rfl rfl (by first | rfl | omega | (simp; done)) rfl rfl rfl rfl ?_ | (refine Raw.appendR (T := tt) ?_; (conv => whnf); first | refine Rw.lit rfl ?_ | refine Rw.self (by (try simp only [smT]); omega) ?_ | refine Rw.map (by (try simp only [smT]); omega) ?_) | refine Raw.appendIn (T := tt) rfl rfl rfl rfl rfl rfl rfl rfl rfl rfl (by (try simp only [smT]); omega) (by (try simp only [smT]); omega) ?_ | refine Raw.clear (T := tt) rfl rfl rfl rfl rfl rfl rfl (by (try simp only [smT]); omega) ?_ | refine Slc.mk ⟨_, _, rfl, rfl, (by (try simp only [smT]); omega), (by (try simp only [smT]); omega), ?_⟩ | refine Slc.mk ⟨0, _, rfl, rfl, (by (try simp only [smT]); omega), (by (try simp only [smT]); omega), ?_⟩ | refine Slc.mk ⟨1, _, rfl, rfl, (by (try simp only [smT]); omega), (by (try simp only [smT]); omega), ?_⟩ | refine Slc3.mk ⟨_, _, _, rfl, rfl, rfl, (by (try simp only [smT]); omega), (by (try simp only [smT]); omega), (by (try simp only [smT]); omega)⟩ ?_ | refine Drw.ofP (T := tt) (i := 7) [6, 13, 14, 15, 16] [0, 1, 2, 3, 4, 5, 7, 8, 9, 10, 11, 12] [0, 1, 2, 3, 4, 5, 7, 8, 9, 10, 11, 12] (OT.alt 6 (OT.alt 13 (OT.alt 14 (OT.alt 15 (OT.alt 16 OT.nil OT.nil) OT.nil) (OT.alt 15 (OT.alt 14 (OT.alt 16 OT.nil OT.nil) OT.nil) OT.nil)) (OT.alt 15 (OT.alt 13 (OT.alt 14 (OT.alt 16 OT.nil OT.nil) OT.nil) OT.nil) OT.nil)) (OT.alt 15 (OT.alt 6 (OT.alt 13 (OT.alt 14 (OT.alt 16 OT.nil OT.nil) OT.nil) OT.nil) OT.nil) OT.nil)) (by kernel_rfl) ?_ | refine Drw.of (T := tt) (i := 19) [] [] [(0, true), (1, true), (2, true), (3, true), (4, true), (5, true), (6, true), (7, true), (8, true)] (by kernel_rfl) ?_ | (refine CL.mk (Or.inl ?_); (conv => whnf); first | refine Cl.is (hj) rfl (by first | exact fun _ => rfl | (intro e; cases e; done) | fail) ?_ | refine Cl.is (simulated_T) rfl (by first | exact fun _ => rfl | (intro e; cases e; done) | fail) ?_) | (refine CL.mk (Or.inl ?_); (conv => whnf); refine ClO.mk (Or.inl ?_); (repeat ((conv => whnf); refine Len.mk (by first | rfl | (simp; done) | (simp only [smT]; assumption) | (simp only [smT]; omega)) ?_)); (conv => whnf); first | refine Cl.is (hj) rfl (by first | exact fun _ => rfl | (intro e; cases e; done) | fail) ?_ | refine Cl.is (simulated_T) rfl (by first | exact fun _ => rfl | (intro e; cases e; done) | fail) ?_) | (refine CL.mk (Or.inl ?_); (conv => whnf); refine ClO.mk (Or.inr ?_); (repeat ((conv => whnf); refine Len.mk (by first | rfl | (simp; done) | (simp only [smT]; assumption) | (simp only [smT]; omega)) ?_)); (conv => whnf); first | refine Cl.is (hj) rfl (by first | exact fun _ => rfl | (intro e; cases e; done) | fail) ?_ | refine Cl.is (simulated_T) rfl (by first | exact fun _ => rfl | (intro e; cases e; done) | fail) ?_))
    all_goals (conv => whnf)
    all_goals exact Ret.is rfl
end Go.Proofs.Ytgiebofmfkacgaa
namespace Go.Proofs.Ytgiebofmfkacgaa
open Go.ChangeShapes Go.WideShapes Go.Deep

section
variable {H : Type} {enc : TypeId × Value → H} {P : Program} {w : World} {base : Nat} {spare : Nat → Bool} {held : Bool}

theorem cell_lt {p : Addr} {v : Value} (h : w.cell? p = some v) : p.block < w.heap.size := by
  by_cases hl : p.block < w.heap.size
  · exact hl
  · have : w.heap[p.block]? = none := by simp; omega
    simp [World.cell?, this] at h

end

section
variable {H : Type} {P : Program} {ts : List TypeId} {ds : List (DataW H)}
/-- What a field of a struct weighs is weighed. -/
theorem weights_field {t u : TypeId} {fs : Array Field} {parts : List (DataW H)} {j : Nat} {d : DataW H} (hu : P.underlying t = some (.struct fs)) (hf : (fs.toList.map (·.type))[j]? = some u) (hd : parts[j]? = some d) {n : Nat} (hn : n ∈ d.weights P u) : n ∈ (DataW.agg parts).weights P t := by
  simp only [DataW.weights, hu]
  exact DataW.weights_mem_each hf hd n hn
theorem weights_slice {t e : TypeId} {el sp : List (DataW H)} (hu : P.underlying t = some (.slice e)) : (el.length + sp.length) * P.bytesOf e ∈ (DataW.slice el sp).weights P t := by
  simp [DataW.weights, hu]
theorem weights_le (h : (DataW.weightsEach P ts ds).all (· ≤ reachBytes) = true) {j : Nat} {t : TypeId} {d : DataW H} (ht : ts[j]? = some t) (hd : ds[j]? = some d) {n : Nat} (hn : n ∈ d.weights P t) : n ≤ 140737488351232 := by
  have := List.all_eq_true.1 h _ (DataW.weights_mem_each ht hd n hn)
  have h2 := of_decide_eq_true this
  exact h2
end
end Go.Proofs.Ytgiebofmfkacgaa
namespace Go.Proofs.Ytgiebofmfkacgaa
open Go.ChangeShapes Go.WideShapes Go.Deep Go.RowKit
/-- What a cell of an argument is. -/
inductive Sh where
  | int (k : IntKind)
  | bool
  | str
  | sl (by_ : Nat) (e : List Sh)
abbrev bigB : Nat := 140737488351232
inductive HasSh : Sh → V → Prop
  | int {k : IntKind} {n : Int} (h : (Lit.int k n).wf = true) : HasSh (.int k) (.int k n)
  | bool {b : Bool} : HasSh .bool (.bool b)
  | str {s : ByteArray} (h : s.size ≤ bigB) : HasSh .str (.str s)
  | sl {by_ sz : Nat} {e : List Sh} {rs : List (List V)} (hl : rs.length * by_ ≤ bigB) (hm : rs.length ≤ maxLen) (hs : sz = e.length) (hr : ∀ r ∈ rs, r.length = sz) (h : ∀ r ∈ rs, ∀ (j : Nat) s x, e[j]? = some s → r[j]? = some x → HasSh s x) : HasSh (.sl by_ e) (.sl sz rs)
/-- Cells. -/
structure HasL (e : List Sh) (r : List V) : Prop where
  len : r.length = e.length
  has : ∀ (j : Nat) s x, e[j]? = some s → r[j]? = some x → HasSh s x
theorem HasL.nil : HasL [] [] := ⟨rfl, fun _ _ _ h => by simp at h⟩
theorem HasL.app {e f : List Sh} {r q : List V} (h : HasL e r) (k : HasL f q) : HasL (e ++ f) (r ++ q) := ⟨by simp [h.len, k.len], fun j s x h1 h2 => by
  by_cases hj : j < e.length
  · rw [List.getElem?_append_left hj] at h1
    rw [List.getElem?_append_left (by rw [h.len]; exact hj)] at h2
    exact h.has j s x h1 h2
  · rw [List.getElem?_append_right (by omega)] at h1
    rw [List.getElem?_append_right (by rw [h.len]; omega), h.len] at h2
    exact k.has _ s x h1 h2⟩
theorem HasL.one {s : Sh} {x : V} (h : HasSh s x) : HasL [s] [x] := ⟨rfl, fun j a b h1 h2 => by
  cases j with
  | zero => simp at h1 h2; subst h1 h2; exact h
  | succ j => simp at h1⟩
theorem HasL.cons_inv {s : Sh} {e : List Sh} {r : List V} (h : HasL (s :: e) r) : ∃ x q, r = x :: q ∧ HasSh s x ∧ HasL e q := by
  cases r with
  | nil => have := h.len; simp at this
  | cons x q => exact ⟨x, q, rfl, h.has 0 s x rfl rfl, by have := h.len; simpa using this, fun j a b h1 h2 => h.has (j + 1) a b (by simpa using h1) (by simpa using h2)⟩
theorem HasL.nil_inv {r : List V} (h : HasL [] r) : r = [] := List.eq_nil_of_length_eq_zero h.len
theorem rows_of {α β : Type} {f : α → β} : ∀ {rs : List β}, (∀ r ∈ rs, ∃ a, r = f a) → ∃ l : List α, rs = l.map f
  | [], _ => ⟨[], rfl⟩
  | r :: rs, h => by
    obtain ⟨a, rfl⟩ := h r (by simp)
    obtain ⟨l, rfl⟩ := rows_of (rs := rs) fun q hq => h q (by simp [hq])
    exact ⟨a :: l, rfl⟩
def shFs (g : Nat → Option (List Sh)) : List (Nat × TypeId) → Nat → Option (List Sh)
  | [], _ => some []
  | (off, t) :: r, o => bif Nat.beq off o then match g t with
      | none => none
      | some l => match shFs g r (o + l.length) with
        | none => none
        | some m => some (l ++ m)
    else none
/-- The shape of a type. -/
def shT (T : List (Nat × Ty)) : Nat → Nat → Option (List Sh)
  | 0, _ => none
  | f + 1, t => match lk t T with
    | none => none
    | some i => match i.k with
      | .in_ k => bif Nat.beq i.size 1 then some [.int k] else none
      | .bo => bif Nat.beq i.size 1 then some [.bool] else none
      | .sr => bif Nat.beq i.size 1 then some [.str] else none
      | .sl e => match lk e T with
        | none => none
        | some j => match shT T f e with
          | none => none
          | some l => bif Nat.beq l.length j.size && (Nat.blt 0 j.size && Nat.beq i.size 1) then some [.sl j.bytes l] else none
      | .st fs => match shFs (shT T f) fs 0 with
        | none => none
        | some l => bif Nat.beq l.length i.size then some l else none
      | _ => none
section
variable {H : Type} {enc : TypeId × Value → H} {P : Program} {T : List (Nat × Ty)} [hT : Tys P T] {w : World} {base : Nat} {spare : Nat → Bool} {held : Bool}
abbrev zW (w : World) : Fz := ⟨⟨fun b => b < w.heap.size, fun _ => [], fun _ => True⟩, w⟩
omit hT in
theorem weightsAll_mem {e : TypeId} : ∀ {ds : List (DataW H)} {d : DataW H}, d ∈ ds → ∀ m ∈ d.weights P e, m ∈ DataW.weightsAll P e ds
  | x :: r, d, h, m, hm => by
    simp only [DataW.weightsAll, List.mem_append]
    rcases List.mem_cons.1 h with rfl | h
    · exact .inl hm
    · exact .inr (weightsAll_mem h m hm)
/-- What a cell reader of type t tells. -/
def Opn (enc : TypeId × Value → H) (P : Program) (w : World) (base : Nat) (spare : Nat → Bool) (held : Bool) (t : TypeId) (sh : List Sh) : Prop :=
  ∀ (n : Nat) (cs : List Value) (y : DataW H × List MemPlace), DataW.trod enc P w base spare held n t cs = some y → (∀ m ∈ y.1.weights P t, m ≤ bigB) → ∃ xs : List V, HasL sh xs ∧ DenVL (zW w) xs cs
theorem opn_slice {t e : TypeId} {l : List Sh} {i j : Ty} (ht : lk t T = some i) (hi : i.k = .sl e) (hj : lk e T = some j) (hl : l.length = j.size) (hp : 0 < j.size) (ih : Opn enc P w base spare held e l) : Opn enc P w base spare held t [.sl j.bytes l] := by
  intro n cs y h hw
  have ku := (hT.ok t i ht).kind
  rw [hi] at ku
  have ku : P.underlying t = some (.slice e) := ku
  obtain ⟨f, z, q1, q2, q3, _⟩ := (hT.ok e j hj).info
  have hC : P.cellsOf e = j.size := by simp [Program.cellsOf, q1, q2]
  have hBy : P.bytesOf e = j.bytes := by simp [Program.bytesOf, q1, q3]
  rcases open_slice ku h with ⟨rfl, rfl⟩ | ⟨a, len, cap, k, n', D, Pl, rfl, hb, hlc, hmx, hk, hx, hcell⟩
  · exact ⟨[.sl j.size []], .one (.sl (by simp) (by simp) (by rw [hl]) (by simp) (by simp)), ⟨rfl, rfl, fun m d u e1 e2 => by
      cases m with
      | zero => simp at e1 e2; subst e1 e2; exact .sl (b := 0) (o := 0) [] rfl (Nat.le_refl _) (Nat.zero_le _) (by simp) (fun h => absurd rfl h) rfl (by simp) rfl (by simp)
      | succ m => simp at e1⟩⟩
  · have hlk : len ≤ k := by rw [hk]; split <;> omega
    have hwt : (((List.range len).map D).length + ((List.range (k - len)).map fun j => D (len + j)).length) * P.bytesOf e ≤ bigB := hw _ (by rw [hx]; exact weights_slice ku)
    have hwe : ∀ i, i < len → ∀ m ∈ (D i).weights P e, m ≤ bigB := fun i hi m hm => hw m (by
      rw [hx]
      simp only [DataW.weights, ku, List.mem_cons, List.mem_append]
      exact .inr (.inl (weightsAll_mem (List.mem_map.2 ⟨i, List.mem_range.2 hi, rfl⟩) m hm)))
    have hE : ∀ i, i < len → ∃ (xs : List V) (cs : List Value), HasL l xs ∧ DenVL (zW w) xs cs ∧ ∀ m, m < j.size → w.cell? (a.add (i * j.size + m)) = cs[m]? := by
      intro i hil
      obtain ⟨cs', hc, ht'⟩ := hcell i (by omega)
      obtain ⟨xs, h1, h2⟩ := ih _ _ _ ht' (hwe i hil)
      rw [hC] at hc
      obtain ⟨_, hcl, hat⟩ := World.cells?_some hc
      exact ⟨xs, cs', h1, h2, fun m hm => by rw [← add_of_add]; exact hat m hm⟩
    have hL : ∀ k, k ≤ len → ∃ (rs : List (List V)) (us : List Value), rs.length = k ∧ (∀ r ∈ rs, HasL l r) ∧ DenVL (zW w) rs.flatten us ∧ us.length = k * j.size ∧ ∀ m u, us[m]? = some u → w.cell? (a.add m) = some u := by
      intro k
      induction k with
      | zero => intro _; exact ⟨[], [], rfl, by simp, .nil, by simp, by simp⟩
      | succ k ihk =>
        intro hk
        obtain ⟨rs, us, h1, h2, h3, h4, h5⟩ := ihk (by omega)
        obtain ⟨xs, cs, g1, g2, g3⟩ := hE k (by omega)
        have gl : cs.length = j.size := by rw [g2.len, g1.len, hl]
        refine ⟨rs ++ [xs], us ++ cs, by simp [h1], fun r hr => ?_, by rw [List.flatten_append]; simpa using h3.app g2, by rw [List.length_append, h4, gl, Nat.add_mul, Nat.one_mul], fun m u hu => ?_⟩
        · rcases List.mem_append.1 hr with hr | hr
          · exact h2 r hr
          · rw [List.mem_singleton.1 hr]; exact g1
        · by_cases hm : m < k * j.size
          · rw [List.getElem?_append_left (by omega)] at hu
            exact h5 m u hu
          · rw [List.getElem?_append_right (by omega), h4] at hu
            have hlt : m - k * j.size < j.size := by have := (List.getElem?_eq_some_iff.1 hu).1; omega
            have := g3 _ hlt
            rw [show k * j.size + (m - k * j.size) = m by omega] at this
            rw [this, hu]
    obtain ⟨rs, us, h1, h2, h3, h4, h5⟩ := hL len (Nat.le_refl _)
    have hlen : len * j.bytes ≤ bigB := by
      simp only [List.length_map, List.length_range, hBy] at hwt
      exact Nat.le_trans (Nat.mul_le_mul_right _ (Nat.le_add_right _ _)) hwt
    have hr : ∀ r ∈ rs, r.length = j.size := fun r hr => by rw [(h2 r hr).len, hl]
    refine ⟨[.sl j.size rs], .one (.sl (by rw [h1]; exact hlen) (by omega) hl.symm hr (fun r hr => (h2 r hr).has)), ⟨rfl, rfl, fun m d u e1 e2 => ?_⟩⟩
    cases m with
    | succ m => simp at e1
    | zero =>
      simp at e1 e2
      subst e1 e2
      by_cases hrs : rs = []
      · subst hrs
        have : len = 0 := by simpa using h1.symm
        subst this
        exact .sl (b := 0) (o := 0) [] rfl (Nat.zero_le _) (Nat.zero_le _) hr (fun h => absurd rfl h) rfl (by simp) rfl (by simp)
      · have hus : 0 < us.length := by
          rw [h4]
          have : 0 < len := by rw [← h1]; exact List.length_pos_iff.2 hrs
          exact Nat.mul_pos this hp
        obtain ⟨b, off, spot⟩ := a
        have hc0 := h5 0 _ (List.getElem?_eq_getElem hus)
        have hspot : spot = none := by simpa [Addr.add] using World.cell?_spot hc0
        subst hspot
        have hlt := cell_lt hc0
        refine .sl (b := b) (o := off) us h1 hlc (by omega) hr (fun _ => ⟨rfl, by simpa [block_of_add] using hlt⟩) h3.len (fun m u hu => ?_) h3.one h3.den
        have := h5 m u hu
        rwa [add_plain] at this
theorem opn_struct {t : TypeId} {g : Nat → Option (List Sh)} {fs : List (Nat × TypeId)} {sh : List Sh} {i : Ty} (ht : lk t T = some i) (hi : i.k = .st fs) (hs : shFs g fs 0 = some sh) (hl : sh.length = i.size) (ih : ∀ u l, g u = some l → Opn enc P w base spare held u l) (hg : ∀ u l, g u = some l → P.cellsOf u = l.length) : Opn enc P w base spare held t sh := by
  intro n cs y h hw
  have ku := (hT.ok t i ht).kind
  rw [hi] at ku
  obtain ⟨fields, k1, k2⟩ := ku
  obtain ⟨f, z, q1, q2, _⟩ := (hT.ok t i ht).info
  have hC : P.cellsOf t = i.size := by simp [Program.cellsOf, q1, q2]
  obtain ⟨xs, n', _, rfl, hcl, hxl, hf⟩ := DataW.trod_struct k1 h
  rw [hC] at hcl
  have hwf : ∀ (m : Nat) (fd : Field) (x : DataW H × List MemPlace), fields[m]? = some fd → xs[m]? = some x → ∀ q ∈ x.1.weights P fd.type, q ≤ bigB := fun m fd x e1 e2 q hq => hw q (weights_field (j := m) k1 (by rw [List.getElem?_map, Array.getElem?_toList, e1]; rfl) (by rw [List.getElem?_map, e2]; rfl) hq)
  have key : ∀ (l : List (Nat × TypeId)) (m o : Nat) (sh : List Sh), (∀ (q : Nat) p, l[q]? = some p → fs[m + q]? = some p) → shFs g l o = some sh → ∃ vs : List V, HasL sh vs ∧ ((o + sh.length ≤ cs.length) → DenVL (zW w) vs ((cs.drop o).take sh.length)) := by
    intro l
    induction l with
    | nil => intro m o sh _ hs; simp [shFs] at hs; subst hs; exact ⟨[], .nil, fun _ => by simpa using DenVL.nil⟩
    | cons p r ihl =>
      intro m o sh hp hs
      obtain ⟨off, u⟩ := p
      simp only [shFs] at hs
      cases hb : Nat.beq off o <;> rw [hb] at hs
      · cases hs
      · simp only [cond_true] at hs
        have := Nat.eq_of_beq_eq_true hb
        subst this
        cases hgu : g u with
        | none => simp only [hgu] at hs; cases hs
        | some l1 =>
          simp only [hgu] at hs
          cases hr : shFs g r (off + l1.length) with
          | none => simp only [hr] at hs; cases hs
          | some l2 =>
            simp only [hr] at hs
            injection hs with hs
            subst hs
            obtain ⟨vs, v1, v2⟩ := ihl (m + 1) _ l2 (fun q p hq => by have := hp (q + 1) p (by simpa using hq); rwa [show m + (q + 1) = m + 1 + q by omega] at this) hr
            have hfs := hp 0 (off, u) rfl
            rw [Nat.add_zero, ← k2, List.getElem?_map] at hfs
            cases hfd : fields.toList[m]? with
            | none => rw [hfd] at hfs; cases hfs
            | some fd =>
              rw [hfd] at hfs
              simp only [Option.map_some, Option.some.injEq, Prod.mk.injEq] at hfs
              obtain ⟨e1, e2⟩ := hfs
              rw [Array.getElem?_toList] at hfd
              have hrd := hf m fd hfd
              rw [e1, e2, hg u l1 hgu] at hrd
              have hmx : m < xs.length := by rw [hxl]; exact (Array.getElem?_eq_some_iff.1 hfd).1
              have hxm := List.getElem?_eq_getElem hmx
              rw [hxm] at hrd
              have hww := hwf m fd _ hfd hxm
              rw [e2] at hww
              obtain ⟨ws, w1, w2⟩ := ih u l1 hgu _ _ _ hrd hww
              refine ⟨ws ++ vs, w1.app v1, fun ho => ?_⟩
              simp only [List.length_append] at ho
              have h2 := v2 (by omega)
              have hsp : (cs.drop off).take (l1 ++ l2).length = (cs.drop off).take l1.length ++ (cs.drop (off + l1.length)).take l2.length := by
                rw [List.length_append, List.take_add, List.drop_drop]
              rw [hsp]
              exact w2.app h2
  obtain ⟨vs, v1, v2⟩ := key fs 0 0 sh (fun q p h => by rwa [Nat.zero_add]) hs
  refine ⟨vs, v1, ?_⟩
  have := v2 (by omega)
  rwa [List.drop_zero, List.take_of_length_le (by omega)] at this
omit hT in
theorem den_one {x : V} {v : Value} (h : DenV (zW w) x v) : DenVL (zW w) [x] [v] := ⟨rfl, by simp [h.one], fun m d u e1 e2 => by
  cases m with
  | zero => simp at e1 e2; subst e1 e2; exact h
  | succ m => simp at e1⟩
theorem shT_cells : ∀ {f t : Nat} {sh : List Sh}, shT T f t = some sh → P.cellsOf t = sh.length
  | 0, t, sh, h => by cases h
  | f + 1, t, sh, h => by
    simp only [shT] at h
    cases ht : lk t T with
    | none => rw [ht] at h; cases h
    | some i =>
      rw [ht] at h
      simp only at h
      obtain ⟨q, z, q1, q2, _⟩ := (hT.ok t i ht).info
      have hC : P.cellsOf t = i.size := by simp [Program.cellsOf, q1, q2]
      rw [hC]
      split at h
      · cases hb : Nat.beq i.size 1 <;> rw [hb] at h
        · cases h
        · injection h with h; subst h; exact Nat.eq_of_beq_eq_true hb
      · cases hb : Nat.beq i.size 1 <;> rw [hb] at h
        · cases h
        · injection h with h; subst h; exact Nat.eq_of_beq_eq_true hb
      · cases hb : Nat.beq i.size 1 <;> rw [hb] at h
        · cases h
        · injection h with h; subst h; exact Nat.eq_of_beq_eq_true hb
      · rename_i e hk
        split at h
        · cases h
        · rename_i j hj
          split at h
          · cases h
          · rename_i l hl
            cases hb : (Nat.beq l.length j.size && (Nat.blt 0 j.size && Nat.beq i.size 1)) <;> rw [hb] at h
            · cases h
            · injection h with h; subst h
              simp only [Bool.and_eq_true] at hb
              exact Nat.eq_of_beq_eq_true hb.2.2
      · split at h
        · cases h
        · rename_i l hl
          cases hb : Nat.beq l.length i.size <;> rw [hb] at h
          · cases h
          · injection h with h; subst h; exact (Nat.eq_of_beq_eq_true hb).symm
      · cases h
/-- An argument of a readable type is a tree of its shape. -/
theorem opn : ∀ {f t : Nat} {sh : List Sh}, shT T f t = some sh → Opn enc P w base spare held t sh
  | 0, t, sh, h => by cases h
  | f + 1, t, sh, h => by
    simp only [shT] at h
    cases ht : lk t T with
    | none => rw [ht] at h; cases h
    | some i =>
      rw [ht] at h
      simp only at h
      split at h
      · rename_i k hk
        cases hb : Nat.beq i.size 1 <;> rw [hb] at h
        · cases h
        · injection h with h; subst h
          have ku := (hT.ok t i ht).kind
          rw [hk] at ku
          have ku : P.underlying t = some (.int k) := ku
          intro n cs y hy _
          obtain ⟨z, rfl, _, hz⟩ := DataW.trod_int ku hy
          exact ⟨[.int k z], .one (.int hz), den_one (.int _ _)⟩
      · rename_i hk
        cases hb : Nat.beq i.size 1 <;> rw [hb] at h
        · cases h
        · injection h with h; subst h
          have ku := (hT.ok t i ht).kind
          rw [hk] at ku
          have ku : P.underlying t = some .bool := ku
          intro n cs y hy _
          obtain ⟨z, rfl, _⟩ := DataW.trod_bool ku hy
          exact ⟨[.bool z], .one .bool, den_one (.bool _)⟩
      · rename_i hk
        cases hb : Nat.beq i.size 1 <;> rw [hb] at h
        · cases h
        · injection h with h; subst h
          have ku := (hT.ok t i ht).kind
          rw [hk] at ku
          have ku : P.underlying t = some .string := ku
          intro n cs y hy hw
          obtain ⟨z, rfl, rfl, hz⟩ := DataW.trod_string ku hy
          have := hw z.data.toList.length (show _ ∈ [z.data.toList.length] from List.mem_singleton.2 rfl)
          have e : z.data.toList.length = z.size := Array.length_toList
          rw [e] at this
          exact ⟨[.str z], .one (.str this), den_one (.str _ hz)⟩
      · rename_i e hk
        split at h
        · cases h
        · rename_i j hj
          split at h
          · cases h
          · rename_i l hl
            cases hb : (Nat.beq l.length j.size && (Nat.blt 0 j.size && Nat.beq i.size 1)) <;> rw [hb] at h
            · cases h
            · injection h with h; subst h
              simp only [Bool.and_eq_true] at hb
              exact opn_slice ht hk hj (Nat.eq_of_beq_eq_true hb.1) (by simpa [Nat.blt_eq] using hb.2.1) (opn hl)
      · rename_i fs hk
        split at h
        · cases h
        · rename_i l hl
          cases hb : Nat.beq l.length i.size <;> rw [hb] at h
          · cases h
          · injection h with h; subst h
            exact opn_struct ht hk hl (Nat.eq_of_beq_eq_true hb) (fun u l hu => opn hu) (fun u l hu => shT_cells hu)
      · cases h
/-- An argument of one cell. -/
theorem arg_open {f t : Nat} {s : Sh} {v : Value} {d : DataW H} {p : List MemPlace} (hs : shT T f t = some [s]) (h : DataW.Trod enc P w base spare held t v d p) (hz : ∀ n ∈ d.weights P t, n ≤ bigB) (hv : v.cells = #[v]) : ∃ x, HasSh s x ∧ ∀ ρ, DenS ρ (zW w) (.d (.u x)) v := by
  obtain ⟨n, hn⟩ := h
  rw [hv] at hn
  obtain ⟨xs, h1, h2⟩ := opn hs n _ _ hn hz
  obtain ⟨x, q, rfl, h3, h4⟩ := h1.cons_inv
  have := h4.nil_inv
  subst this
  exact ⟨x, h3, fun ρ => .d (.u (h2.den 0 x v rfl rfl))⟩
end
end Go.Proofs.Ytgiebofmfkacgaa
namespace Go.Proofs.Ytgiebofmfkacgaa
open Go.ChangeShapes Go.WideShapes Go.ChangeAt Go.RowKit

section
variable {H : Type} {enc : TypeId × Value → H} {P : Program}

theorem trodAll_stays (hl : laidOutB P = true) {W W' : World} {sp' : Nat → Bool} : ∀ {ts : List TypeId} {vs : List Value} {ds : List (DataW H)} {ps : List MemPlace}, (∀ t ∈ ts, P.readableRec t = true ∧ t < P.types.size) →
    DataW.TrodAll enc P W 0 (fun _ => true) true ts vs ds ps → (∀ p ∈ ps, W.sameAt W' p) → (∀ p ∈ ps, sp' p.block = true) → DataW.TrodAll enc P W' 0 sp' true ts vs ds ps
  | [], [], [], _, _, h, _, _ => h
  | _ :: _, _ :: _, _ :: _, _, hT, ⟨p, q, h1, h2, e⟩, hm, hs =>
    ⟨p, q, WideElems.Trod_stays hl (hT _ (List.mem_cons.2 (Or.inl rfl))).1 (hT _ (List.mem_cons.2 (Or.inl rfl))).2 h1 (fun x hx => hm x (by rw [e]; exact List.mem_append_left _ hx)) (fun x hx => hs x (by rw [e]; exact List.mem_append_left _ hx)),
      trodAll_stays hl (fun t ht => hT t (List.mem_cons.2 (Or.inr ht))) h2 (fun x hx => hm x (by rw [e]; exact List.mem_append_right _ hx)) (fun x hx => hs x (by rw [e]; exact List.mem_append_right _ hx)), e⟩
  | [], [], _ :: _, _, _, h, _, _ => h.elim
  | [], _ :: _, _, _, _, h, _, _ => h.elim
  | _ :: _, [], _, _, _, h, _, _ => h.elim
  | _ :: _, _ :: _, [], _, _, h, _, _ => h.elim

/-- One closed fact: each parameter's type can be read and is a row of the table. -/
def paramsRead (P : Program) (fn : Func) : Bool := fn.params.toList.all fun t => P.readableRec t && decide (t < P.types.size)

theorem post_of_below {f : Func} {s : ChangeSpec} {apart fresh handsOn again : Bool} {W W' : World} {args : Array Value} {ds : List (DataW H)} {before : List MemPlace} {tb : TypeId}
    (hl : laidOutB P = true) (hT : paramsRead P f = true) (hres : f.resultTypes = #[tb]) (htb : P.underlying tb = some .bool) (hvars : s.vars = [])
    (hsp : s.fn H ds = { results := [.lit (.bool true)], args := ds })
    (hW : DataW.Whole enc P f.params.toList s.vars apart W args.toList ds [] before) (hb : Below W.heap.size W W') :
    s.post enc P f apart fresh handsOn again W args (.bool true) W' := by
  have hT' : ∀ t ∈ f.params.toList, P.readableRec t = true ∧ t < P.types.size := fun t ht => by
    have := List.all_eq_true.1 hT t ht
    simpa using this
  have hlt := hW.lt
  have hW' := hW
  obtain ⟨p, q, hA, hV, he, hz, hn⟩ := hW
  have hq : q = [] := by
    rw [hvars] at hV
    exact (trodVars_none hV).2
  subst hq
  rw [List.append_nil] at he
  subst he
  have hR : ∀ (b : Nat) (sp : Nat → Bool) (hd : Bool), DataW.TrodAll enc P W' b sp hd f.resultTypes.toList ((Value.bool true).resultList f.resultTypes.size) (s.fn H (ds ++ [])).results [] := by
    intro b sp hd
    rw [List.append_nil, hsp, hres]
    exact trodAll_mk1 (shut_bool htb _)
  have hG : ∀ sp : Nat → Bool, (∀ p' ∈ before, sp p'.block = true) → DataW.TrodAll enc P W' 0 sp true f.params.toList args.toList (s.fn H (ds ++ [])).args before := by
    intro sp h
    rw [List.append_nil, hsp]
    exact trodAll_stays hl hT' hA (fun x hx => hb.same (hlt x hx)) h
  have hU : ∀ sp : Nat → Bool, DataW.TrodVars enc P W' sp s.vars (s.fn H (ds ++ [])).vars [] := by
    intro sp
    rw [hvars, List.append_nil, hsp]
    rfl
  refine ⟨ds, [], before, [], before, [], hW', hR _ _ _, hG _ (fun x hx => by simpa using hlt x hx), hU _, hb.frame _, fun _ => ?_⟩
  refine ⟨ok_one hres rfl (okWide_bool_mk htb _), _, _, ([] ++ before) ++ [], ⟨[] ++ before, [], trodAll_append (hG _ (fun _ _ => rfl)) (hR _ _ _), hU _, rfl, ?_, ?_⟩, ?_⟩
  · intro b off hp
    have hp' := by simpa using hp
    rw [hb.frozen (hlt _ hp')]
    exact hz b off hp'
  · intro ha
    simpa using hn ha
  · intro x hx _
    simpa using hx
end

theorem law_lifted {C : Checked} {os : Os} {f : FuncId} {fn : Func} {s : ChangeSpec} {tb : TypeId} {apart fresh : Bool} {conds : List PathCond} (started : os.Started) (H : Type) (enc : TypeId × Value → H)
    (own : ownKnob C.prog.godebug = none) (noInit : C.prog.inits.idxOf? f = none) (hfn : C.prog.funcs[f]? = some fn)
    (witness : ∃ (w : World) (tape : Tape) (i : Input), w.os = os ∧ (w.forCall tape i).Shaped C.prog ∧ i.vars = [] ∧ Input.okWide C.prog (w.forCall tape i) .any w.heap.size f i ∧
      s.pre6 enc C.prog fn conds apart (w.forCall tape i).memory i.args ∧ ({} : Assume).holds C.prog (lone (Frame.enter C.prog f i.args .normal) [] (w.forCall tape i)))
    (hl : laidOutB C.prog = true) (hT : paramsRead C.prog fn = true) (hres : fn.resultTypes = #[tb]) (htb : C.prog.underlying tb = some .bool) (hvars : s.vars = [])
    (hsp : ∀ ds : List (DataW H), ds.length = fn.params.size → s.fn H ds = { results := [.lit (.bool true)], args := ds })
    (walk : ∀ (W : World) (base : Nat) (args : Array Value) (ds : List (DataW H)) (p : List MemPlace),
      (∀ (j : Nat) t v, fn.params[j]? = some t → args[j]? = some v → Value.okWide C.prog W .any base t v) →
      DataW.TrodAll enc C.prog W 0 (fun _ => true) true fn.params.toList args.toList ds p → (∀ x ∈ p, x.block < W.heap.size) →
      (DataW.weightsEach C.prog fn.params.toList ds).all (· ≤ reachBytes) = true →
      Calls C.prog f args W fun e W' => e = .returned (.bool true) ∧ Below W.heap.size W W') :
    ReturnsInHanded {} C os f .any (s.pre6 enc C.prog fn conds apart) (s.post enc C.prog fn apart fresh false false) := by
  refine returnsInHanded_of_change_sized own started noInit hfn witness ?_
  intro W base args ds gs before hval hW _ hz _
  have hgs : gs = [] := by
    obtain ⟨p, q, hA, hV, he, _, _⟩ := hW
    rw [hvars] at hV
    exact (trodVars_none hV).1
  subst hgs
  have hlen : ds.length = fn.params.size := by
    obtain ⟨p, q, hA, _⟩ := hW
    have hlt : ∀ {ts : List TypeId} {vs : List Value} {ds : List (DataW H)} {ps : List MemPlace}, DataW.TrodAll enc C.prog W 0 (fun _ => true) true ts vs ds ps → ds.length = ts.length := by
      intro ts
      induction ts with
      | nil => intro vs ds ps h; cases vs <;> cases ds <;> first | rfl | exact h.elim
      | cons t ts ih =>
        intro vs ds ps h
        cases vs with
        | nil => exact h.elim
        | cons v vs =>
          cases ds with
          | nil => exact h.elim
          | cons d ds =>
            obtain ⟨p, q, _, h2, _⟩ := h
            simp [ih h2]
    simpa using hlt hA
  have hvt : s.plain.varTypes C.prog = [] := by
    simp [ChangeSpec.plain, hvars, DataSpec.varTypes]
  rw [hvt, List.append_nil, List.append_nil] at hz
  have hlt := hW.lt
  have hp : ∃ p, DataW.TrodAll enc C.prog W 0 (fun _ => true) true fn.params.toList args.toList ds p ∧ ∀ x ∈ p, x.block < W.heap.size := by
    obtain ⟨p, q, hA, hV, he, _, _⟩ := hW
    exact ⟨p, hA, fun x hx => hlt x (by rw [he]; exact List.mem_append_left _ hx)⟩
  obtain ⟨p, hA, hpl⟩ := hp
  refine (walk W base args ds p hval hA hpl hz).mono fun e W' ⟨he, hb⟩ => ?_
  exact ⟨_, he, post_of_below hl hT hres htb hvars (hsp ds hlen) hW hb⟩
end Go.Proofs.Ytgiebofmfkacgaa
namespace Go.Proofs.Ytgiebofmfkacgaa
open Go.ChangeShapes Go.WideShapes Go.Deep Go.Joins

theorem laid_out : laidOutB Try.prog = true := by kernel_rfl
theorem own_knob : ownKnob Try.prog.godebug = none := by kernel_rfl

section
variable {H : Type} {enc : TypeId × Value → H} {w : World} {base : Nat} {spare : Nat → Bool} {held : Bool}

end
end Go.Proofs.Ytgiebofmfkacgaa
namespace Go.Proofs.Ytgiebofmfkacgaa
open Go.ChangeShapes Go.WideShapes Go.Deep Go.RowKit
abbrev shAcs : Sh := .sl 16 [.int .i64, .int .i64]
abbrev shJobs : Sh := .sl 48 [shAcs, shAcs]
theorem shJobs_eq : shT tt 6 48 = some [shJobs] := by rfl
theorem acs_of {x : V} (h : HasSh shAcs x) : ∃ l : List Ac, x = avs l := by
  cases h with | sl hl hm hs hr h =>
  rename_i rs
  subst hs
  have : ∀ r ∈ rs, ∃ a : Ac, r = a.v := fun r hr' => by
    obtain ⟨x0, q, rfl, h0, hq⟩ := HasL.cons_inv ⟨hr r hr', h r hr'⟩
    obtain ⟨x1, q, rfl, h1, hq⟩ := hq.cons_inv
    have := hq.nil_inv
    subst this
    cases h0 with | int =>
    cases h1 with | int =>
    exact ⟨⟨_, _⟩, rfl⟩
  obtain ⟨l, rfl⟩ := rows_of this
  exact ⟨l, rfl⟩
theorem jobs_of {x : V} (h : HasSh shJobs x) : ∃ l : List Jb, x = jvs l := by
  cases h with | sl hl hm hs hr h =>
  rename_i rs
  subst hs
  have : ∀ r ∈ rs, ∃ a : Jb, r = a.v := fun r hr' => by
    obtain ⟨x0, q, rfl, h0, hq⟩ := HasL.cons_inv ⟨hr r hr', h r hr'⟩
    obtain ⟨x1, q, rfl, h1, hq⟩ := hq.cons_inv
    have := hq.nil_inv
    subst this
    obtain ⟨a, rfl⟩ := acs_of h0
    obtain ⟨b, rfl⟩ := acs_of h1
    exact ⟨⟨a, b⟩, rfl⟩
  obtain ⟨l, rfl⟩ := rows_of this
  exact ⟨l, rfl⟩
end Go.Proofs.Ytgiebofmfkacgaa
namespace Go.Proofs.Ytgiebofmfkacgaa
open Go.ChangeShapes Go.WideShapes Go.ChangeAt Go.RowKit

set_option maxRecDepth 100000 in
theorem scale_lifted (os : Os) (started : os.Started) (H : Type) (enc : TypeId × Value → H) :
    ReturnsInHanded {} Try.checked os 10 .any (Rows.eventloopDelaysScaleSpec.pre6 enc Try.prog Try.f10 Rows.eventloopDelaysScaleRow.domain false) (Rows.eventloopDelaysScaleSpec.post enc Try.prog Try.f10 false true false false) := by
  refine law_lifted (C := Try.checked) (s := Rows.eventloopDelaysScaleSpec) (tb := 4) started H enc own_knob (by kernel_rfl) Try.func10
    (ChangeSpec.witness6 (enc := enc) (C := Try.checked) false ⟨#[], #[.slice none 0 0, .int .i64 0], []⟩ 8 (by kernel_rfl) (by kernel_rfl) (by kernel_rfl) (by kernel_rfl))
    laid_out (by kernel_rfl) (by kernel_rfl) Try.underlying4 rfl ?_ ?_
  · intro ds hl
    match ds, hl with
    | [d, d'], _ => rfl
  · intro W base args ds p hval hA hp hz
    have hval' : ∀ (j : Nat) t v, Try.f10.params[j]? = some t → args[j]? = some v → Value.okWide Try.prog W .any base t v := hval
    have hA' : DataW.TrodAll enc Try.prog W 0 (fun _ => true) true Try.f10.params.toList args.toList ds p := hA
    rw [Try.params10] at hA' hval'
    obtain ⟨v0, v1, d0, d1, p0, p1, rfl, rfl, rfl, h0, h1⟩ := trodAll_two hA'
    obtain ⟨A0, l0, c0, rfl⟩ := okWide_slice Try.underlying48 (hval' 0 _ v0 rfl rfl)
    obtain ⟨n1, rfl⟩ := okWide_int Try.underlying3 (hval' 1 3 v1 rfl rfl)
    obtain ⟨x, q1, q2⟩ := arg_open (T := tt) shJobs_eq h0 (fun n hn => weights_le (j := 0) hz rfl rfl hn) rfl
    obtain ⟨jobs, rfl⟩ := jobs_of q1
    refine calls_of_A (vs := [.slice A0 l0 c0, .int .i64 n1]) (law_scale_T jobs n1) ⟨rfl, fun j s v e1 e2 => ?_, fun _ h => h⟩
    match j with
    | 0 => simp at e1 e2; subst e1 e2; exact q2 rho0
    | 1 => simp at e1 e2; subst e1 e2; exact .d (.u (.int _ _))
    | j + 2 => simp at e1

theorem scale_holds : Rows.EventloopDelaysScaleSaid :=
  OpenClaim.holds_of_wide 10 Try.f10 rfl rfl rfl rfl rfl rfl rfl ⟨rfl, rfl, rfl, rfl, rfl⟩ rfl rfl rfl rfl rfl (by kernel_rfl) Try.func10 (by kernel_rfl)
    (of_decide_eq_true (by kernel_rfl)) (by unfold Func.isWrapper; first | (rw [if_pos (by decide +kernel)]; kernel_rfl) | (rw [if_neg (by decide +kernel)]; exact ⟨rfl, rfl⟩))
    (fun os started H enc _ => scale_lifted os started H enc)
#print axioms scale_holds
end Go.Proofs.Ytgiebofmfkacgaa
