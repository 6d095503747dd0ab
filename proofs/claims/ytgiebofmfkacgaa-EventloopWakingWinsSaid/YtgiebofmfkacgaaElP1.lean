/-
  Plain laws on clocks: the reference's fault is the program's; what a valid clock is.
-/
import Derived.Test.YtgiebofmfkacgaaEl14
namespace Go.Proofs.Ytgiebofmfkacgaa

theorem has_append (xs ys : List Int) (x : Int) : has (xs ++ ys) x = (has xs x || has ys x) := by simp [has]
theorem has_tasks (ts : List Tm) (x : Int) : has (ts.map (·.task)) x = busyT ts x := by simp [has, busyT, List.any_map]; rfl
theorem busy_seen (rs : List Int) (ts : List Tm) (k : Nat) (x : Int) : busy rs (ts.take k) x = has (seenT rs ts k) x := by
  unfold busy seenT; rw [has_append, has_tasks, Bool.or_comm]
theorem orderI_lt (p t : Tm) : (0 ≤ orderI p t) ↔ laterB t p = false := by
  obtain ⟨p1, p2, p3⟩ := p
  obtain ⟨t1, t2, t3⟩ := t
  simp only [orderI, orI, cmpI, laterB]
  by_cases h1 : p1 < t1
  · simp [h1]
  · by_cases h2 : t1 < p1
    · have : ¬ t1 = p1 := by omega
      simp [h1, h2, this]
    · have e : t1 = p1 := by omega
      subst e
      by_cases h3 : p2 < t2
      · simp [h3]
      · by_cases h4 : t2 < p2 <;> simp [h3, h4] <;> omega
theorem code_eq (now ser : Int) (rs : List Int) (ts : List Tm) (k : Nat) (t : Tm) (hn : 0 ≤ now) :
    cfCode now ser rs (ts.take k) (prevT ts k) t = codeT now ser (prevT ts k) t (seenT rs ts k) := by
  unfold cfCode codeT
  rw [busy_seen]
  have e1 : inB t.at_ (now + 1) 1000000000000000 = (decide (now < t.at_) && timeB t.at_) := by
    unfold inB timeB
    by_cases a : now + 1 ≤ t.at_
    · have b : now < t.at_ := by omega
      have c : 0 ≤ t.at_ := by omega
      simp [a, b, c]
    · have b : ¬ now < t.at_ := by omega
      simp [a, b]
  have e2 : inB t.ser 0 (ser - 1) = (decide (0 ≤ t.ser) && decide (t.ser < ser)) := by
    unfold inB
    by_cases a : t.ser ≤ ser - 1
    · have b : t.ser < ser := by omega
      simp [a, b]
    · have b : ¬ t.ser < ser := by omega
      simp [a, b]
  have e3 : inB t.task 0 1000000000000000 = timeB t.task := rfl
  have e4 : cfOk now ser t = (timeB t.task && okT now ser t) := by
    unfold cfOk okT; rw [e1, e2, e3]; simp [Bool.and_assoc]
  rw [e4]
  have e5 : freshC t.task (seenT rs ts k) = if timeB t.task then (if has (seenT rs ts k) t.task then 8 else 0) else 4 := rfl
  rw [e5]
  cases okT now ser t <;> cases timeB t.task <;> cases has (seenT rs ts k) t.task <;> simp
  cases prevT ts k with
  | none => rfl
  | some p =>
    have := orderI_lt p t
    cases hl : laterB t p <;> simp [hl] at this ⊢ <;> omega
theorem cfT_eq (now ser : Int) (rs : List Int) (ts : List Tm) (hn : 0 ≤ now) : ∀ (d k : Nat), k + d = ts.length → cfT now ser rs ts (ts.drop k) k = valT now ser (prevT ts k) (ts.drop k) k (seenT rs ts k)
  | 0, k, h => by rw [List.drop_eq_nil_of_le (by omega)]; rfl
  | d + 1, k, h => by
    rw [cfT_step now ser ts rs k (by omega), valT_step now ser ts rs k (by omega), code_eq now ser rs ts k _ hn, cfT_eq now ser rs ts hn d (k + 1) (by omega)]
theorem cfR_eq (now ser : Int) (rs : List Int) (ts : List Tm) (hn : 0 ≤ now) : ∀ (d k : Nat), k + d = rs.length → cfR now ser ts rs (rs.drop k) k = valR now ser ts (rs.drop k) k (rs.take k)
  | 0, k, h => by
    have h1 := cfT_eq now ser rs ts hn ts.length 0 (by omega)
    rw [List.drop_eq_nil_of_le (by omega), List.take_of_length_le (by omega)]
    simp only [cfR, valR]
    simpa [prevT, seenT] using h1
  | d + 1, k, h => by
    rw [cfR_step now ser ts rs k (by omega), valR_step now ser ts rs k (by omega), cfR_eq now ser rs ts hn d (k + 1) (by omega)]; rfl
theorem fault_eq (c : Ck) : clockFault c = validate c := by
  unfold clockFault validate
  have e1 : inB c.now 0 1000000000000000 = timeB c.now := rfl
  have e2 : inB c.ser 0 1000000000000000 = timeB c.ser := rfl
  rw [e1, e2]
  split
  · rename_i h
    split
    · rfl
    · have hn : 0 ≤ c.now := by
        simp at h
        exact (timeB_le h.1).1
      simpa using cfR_eq c.now c.ser c.rs c.ts hn c.rs.length 0 (by omega)
  · rfl

/-! What a valid clock is -/
structure Valid (c : Ck) : Prop where
  now : timeB c.now = true
  ser : timeB c.ser = true
  len : c.rs.length + c.ts.length ≤ 1000
  tasks : ∀ x ∈ c.rs ++ c.ts.map (·.task), timeB x = true
  nodup : (c.rs ++ c.ts.map (·.task)).Nodup
  times : ∀ t ∈ c.ts, okT c.now c.ser t = true
  sorted : c.ts.Pairwise (fun p t => laterB t p = true)
end Go.Proofs.Ytgiebofmfkacgaa
