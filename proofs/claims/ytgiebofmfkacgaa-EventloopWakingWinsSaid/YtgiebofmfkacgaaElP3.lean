/-
  Plain laws on clocks: what Next gives of a valid clock.
-/
import Derived.Test.YtgiebofmfkacgaaElP2
namespace Go.Proofs.Ytgiebofmfkacgaa

theorem fireF_spec (now : Int) : ∀ (ts : List Tm) (f : Nat) (rs : List Int), ts.length ≤ f → fireF f now rs ts = (rs ++ (ts.takeWhile (·.at_ == now)).map (·.task), ts.dropWhile (·.at_ == now))
  | [], 0, rs, _ => by simp [fireF]
  | [], f + 1, rs, _ => by simp [fireF]
  | t :: ts, 0, rs, h => by simp at h
  | t :: ts, f + 1, rs, h => by
    simp only [fireF]
    cases hx : (t.at_ == now)
    · simp [hx]
    · simp only [if_true]
      rw [fireF_spec now ts f _ (by simp at h; omega)]
      simp [hx]
/-- The tasks of a clock, each with its time. -/
def due (c : Ck) : List (Int × Int) := c.rs.map (fun r => (r, c.now)) ++ c.ts.map (fun t => (t.task, t.at_))
theorem fire_cons (now ser : Int) (t : Tm) (l : List Tm) : fire ⟨now, ser, [], t :: l⟩ = ⟨t.at_, ser, ((t :: l).takeWhile (·.at_ == t.at_)).map (·.task), (t :: l).dropWhile (·.at_ == t.at_)⟩ := by
  simp only [fire]
  rw [fireF_spec t.at_ (t :: l) (t :: l).length [] (Nat.le_refl _)]
  rfl
theorem fire_rs (c : Ck) (h : c.rs ≠ []) : fire c = c := by
  obtain ⟨now, ser, rs, ts⟩ := c
  cases rs with
  | nil => exact absurd rfl h
  | cons n l => simp [fire]
theorem takeWhile_at (a : Int) : ∀ l : List Tm, (l.takeWhile (·.at_ == a)).map (fun t => (t.task, a)) = (l.takeWhile (·.at_ == a)).map (fun t => (t.task, t.at_))
  | [] => rfl
  | x :: l => by
    cases hx : (x.at_ == a)
    · simp [hx]
    · have e : x.at_ = a := by simpa using hx
      have ih := takeWhile_at a l
      simp [e]
      simpa using ih
theorem due_fire (c : Ck) : due (fire c) = due c := by
  obtain ⟨now, ser, rs, ts⟩ := c
  cases rs with
  | cons n l => rw [fire_rs _ (by simp)]
  | nil =>
    cases ts with
    | nil => rfl
    | cons t l =>
      rw [fire_cons]
      simp only [due, List.map_map, List.map_nil, List.nil_append]
      have h := takeWhile_at t.at_ (t :: l)
      have : (List.map ((fun r => (r, t.at_)) ∘ fun x => x.task) ((t :: l).takeWhile (·.at_ == t.at_))) = ((t :: l).takeWhile (·.at_ == t.at_)).map (fun t => (t.task, t.at_)) := h
      rw [this, ← List.map_append, List.takeWhile_append_dropWhile]
theorem tasks_fire (c : Ck) : (fire c).rs ++ (fire c).ts.map (·.task) = c.rs ++ c.ts.map (·.task) := by
  obtain ⟨now, ser, rs, ts⟩ := c
  cases rs with
  | cons n l => rw [fire_rs _ (by simp)]
  | nil =>
    cases ts with
    | nil => rfl
    | cons t l => rw [fire_cons]; simp only [List.nil_append]; rw [← List.map_append, List.takeWhile_append_dropWhile]
theorem dropWhile_gt (a : Int) : ∀ l : List Tm, l.Pairwise Later → (∀ x ∈ l, a ≤ x.at_) → ∀ u ∈ l.dropWhile (·.at_ == a), a < u.at_
  | [], _, _, u, hu => by simp at hu
  | x :: l, hp, ha, u, hu => by
    rw [List.pairwise_cons] at hp
    cases hx : (x.at_ == a)
    · have hne : ¬ x.at_ = a := by simpa using hx
      have h1 := ha x (by simp)
      simp only [List.dropWhile_cons, hx, Bool.false_eq_true, if_false, List.mem_cons] at hu
      rcases hu with rfl | hu
      · omega
      · have := (later_iff x u).1 (hp.1 u hu); omega
    · simp only [List.dropWhile_cons, hx, if_true] at hu
      exact dropWhile_gt a l hp.2 (fun y hy => ha y (by simp [hy])) u hu
theorem okT_iff (now ser : Int) (t : Tm) : okT now ser t = true ↔ now < t.at_ ∧ timeB t.at_ = true ∧ 0 ≤ t.ser ∧ t.ser < ser := by simp [okT]
theorem fire_valid {c : Ck} (h : Valid c) : Valid (fire c) := by
  obtain ⟨now, ser, rs, ts⟩ := c
  cases rs with
  | cons n l => rw [fire_rs _ (by simp)]; exact h
  | nil =>
    cases ts with
    | nil => exact h
    | cons t l =>
      have ht := tasks_fire ⟨now, ser, [], t :: l⟩
      rw [fire_cons] at ht ⊢
      have hsort := h.sorted
      have hge : ∀ x ∈ t :: l, t.at_ ≤ x.at_ := by
        intro x hx
        rcases List.mem_cons.1 hx with rfl | hx
        · exact Int.le_refl _
        · have := (later_iff t x).1 ((List.pairwise_cons.1 hsort).1 x hx); omega
      refine ⟨((okT_iff _ _ _).1 (h.times t (by simp))).2.1, h.ser, ?_, ?_, ?_, ?_, ?_⟩
      · have h1 := congrArg List.length ht
        have h2 := h.len
        simp only [List.length_append, List.length_map] at h1 h2 ⊢
        simp at h1 h2 ⊢
        omega
      · rw [ht]; exact h.tasks
      · rw [ht]; exact h.nodup
      · intro u hu
        dsimp only at hu
        have hm : u ∈ t :: l := (List.dropWhile_sublist _).subset hu
        have h1 := (okT_iff _ _ _).1 (h.times u hm)
        exact (okT_iff _ _ _).2 ⟨dropWhile_gt t.at_ (t :: l) hsort hge u hu, h1.2⟩
      · exact hsort.sublist (List.dropWhile_sublist _)
theorem fire_now {c : Ck} (h : Valid c) : c.now ≤ (fire c).now := by
  obtain ⟨now, ser, rs, ts⟩ := c
  cases rs with
  | cons n l => rw [fire_rs _ (by simp)]; exact Int.le_refl _
  | nil =>
    cases ts with
    | nil => exact Int.le_refl _
    | cons t l =>
      rw [fire_cons]
      have := ((okT_iff _ _ _).1 (h.times t (by simp))).1
      dsimp only at this ⊢; omega
theorem fire_empty {c : Ck} (h : (fire c).rs = []) : c.rs = [] ∧ c.ts = [] := by
  obtain ⟨now, ser, rs, ts⟩ := c
  cases rs with
  | cons n l => rw [fire_rs _ (by simp)] at h; cases h
  | nil =>
    cases ts with
    | nil => exact ⟨rfl, rfl⟩
    | cons t l => rw [fire_cons] at h; simp at h
theorem pop_valid {now ser n : Int} {l : List Int} {ts : List Tm} (h : Valid ⟨now, ser, n :: l, ts⟩) : Valid ⟨now, ser, l, ts⟩ := by
  refine ⟨h.now, h.ser, ?_, ?_, ?_, h.times, h.sorted⟩
  · have := h.len; simp at this ⊢; omega
  · intro x hx; exact h.tasks x (by simp at hx ⊢; rcases hx with h | h <;> simp [h])
  · have := h.nodup
    simp only [List.cons_append, List.nodup_cons] at this
    exact this.2
/-- What Next gives of a valid clock. -/
theorem next_spec {c : Ck} (h : Valid c) : (due c = [] ∧ nextM c = (⟨0, 0, [], []⟩, (0, (10, -1)))) ∨
    ∃ n a rest c', due c = (n, a) :: rest ∧ nextM c = (c', (n, (0, 0))) ∧ c'.now = a ∧ due c' = rest ∧ Valid c' ∧ c.now ≤ a := by
  have hn : nextM c = popM (fire c) := by unfold nextM; rw [if_pos ((valid_iff c).2 h)]
  have hf := fire_valid h
  have hd := due_fire c
  have hw := fire_now h
  cases hr : (fire c).rs with
  | nil =>
    obtain ⟨h1, h2⟩ := fire_empty hr
    left
    exact ⟨by simp [due, h1, h2], by rw [hn]; simp [popM, hr]⟩
  | cons n l =>
    right
    generalize fire c = d at *
    obtain ⟨now, ser, rs, ts⟩ := d
    dsimp only at hr hw
    subst hr
    exact ⟨n, now, due ⟨now, ser, l, ts⟩, ⟨now, ser, l, ts⟩, by rw [← hd]; rfl, by rw [hn]; rfl, rfl, rfl, pop_valid hf, hw⟩
end Go.Proofs.Ytgiebofmfkacgaa
