/-
  Plain laws on clocks: Validate says no fault exactly of valid clocks; Next keeps them valid.
-/
import Derived.Test.YtgiebofmfkacgaaElP1
namespace Go.Proofs.Ytgiebofmfkacgaa

def Fresh (l seen : List Int) : Prop := l.Nodup ∧ (∀ x ∈ l, x ∉ seen) ∧ ∀ x ∈ l, timeB x = true
theorem has_iff (l : List Int) (x : Int) : has l x = true ↔ x ∈ l := by simp [has]
theorem has_false_iff (l : List Int) (x : Int) : has l x = false ↔ x ∉ l := by rw [← has_iff]; simp
theorem freshC_iff (n : Int) (seen : List Int) : freshC n seen = 0 ↔ timeB n = true ∧ n ∉ seen := by
  unfold freshC
  rw [← has_false_iff]
  cases timeB n <;> cases has seen n <;> simp
theorem fresh_cons (n : Int) (l seen : List Int) : Fresh (n :: l) seen ↔ (timeB n = true ∧ n ∉ seen) ∧ Fresh l (seen ++ [n]) := by
  unfold Fresh
  simp only [List.nodup_cons, List.mem_cons, List.mem_append, List.not_mem_nil, or_false, not_or, forall_eq_or_imp]
  constructor
  · rintro ⟨⟨h1, h2⟩, ⟨h3, h4⟩, h5, h6⟩
    exact ⟨⟨h5, h3⟩, h2, fun x hx => ⟨h4 x hx, fun e => h1 (e ▸ hx)⟩, h6⟩
  · rintro ⟨⟨h5, h3⟩, h2, h4, h6⟩
    exact ⟨⟨fun h => (h4 n h).2 rfl, h2⟩, ⟨h3, fun x hx => (h4 x hx).1⟩, h5, h6⟩
def Later (p t : Tm) : Prop := laterB t p = true
theorem later_iff (p t : Tm) : Later p t ↔ p.at_ < t.at_ ∨ (t.at_ = p.at_ ∧ p.ser < t.ser) := by simp [Later, laterB]
theorem later_trans {a b c : Tm} (h : Later a b) (k : Later b c) : Later a c := by
  rw [later_iff] at *; omega
theorem codeT_iff (now ser : Int) (prev : Option Tm) (t : Tm) (seen : List Int) :
    codeT now ser prev t seen = 0 ↔ okT now ser t = true ∧ (timeB t.task = true ∧ t.task ∉ seen) ∧ ∀ p, prev = some p → Later p t := by
  unfold codeT
  rw [← freshC_iff]
  cases h1 : okT now ser t
  · simp
  · by_cases h2 : freshC t.task seen = 0
    · simp only [h2, if_true, true_and]
      cases prev with
      | none => simp
      | some p =>
        have := orderI_lt p t
        simp only [Option.some.injEq, forall_eq']
        unfold Later
        cases hl : laterB t p <;> simp [hl] at this ⊢ <;> omega
    · simp [h2]
theorem valT_ok (now ser : Int) : ∀ (l : List Tm) (prev : Option Tm) (k : Nat) (seen : List Int),
    (valT now ser prev l k seen).1 = 0 ↔ (∀ t ∈ l, okT now ser t = true) ∧ Fresh (l.map (·.task)) seen ∧ (∀ p, prev = some p → ∀ t ∈ l, Later p t) ∧ l.Pairwise Later
  | [], prev, k, seen => by simp [valT, Fresh]
  | t :: l, prev, k, seen => by
    simp only [valT]
    by_cases h : codeT now ser prev t seen = 0
    · rw [if_pos h, valT_ok now ser l (some t) (k + 1) (seen ++ [t.task])]
      rw [codeT_iff] at h
      obtain ⟨a1, a2, a3⟩ := h
      simp only [List.mem_cons, forall_eq_or_imp, List.map_cons, fresh_cons, List.pairwise_cons, Option.some.injEq, forall_eq']
      constructor
      · rintro ⟨b1, b2, b3, b4⟩
        exact ⟨⟨a1, b1⟩, ⟨a2, b2⟩, fun p hp => ⟨a3 p hp, fun x hx => later_trans (a3 p hp) (b3 x hx)⟩, b3, b4⟩
      · rintro ⟨⟨_, b1⟩, ⟨_, b2⟩, _, b3, b4⟩
        exact ⟨b1, b2, b3, b4⟩
    · rw [if_neg h]
      simp only [h, false_iff]
      rintro ⟨b1, b2, b3, b4⟩
      apply h
      rw [codeT_iff]
      simp only [List.map_cons, fresh_cons] at b2
      exact ⟨b1 t (by simp), b2.1, fun p hp => b3 p hp t (by simp)⟩
theorem valR_ok (now ser : Int) (ts : List Tm) : ∀ (l : List Int) (k : Nat) (seen : List Int),
    (valR now ser ts l k seen).1 = 0 ↔ Fresh l seen ∧ (valT now ser none ts 0 (seen ++ l)).1 = 0
  | [], k, seen => by simp [valR, Fresh]
  | n :: l, k, seen => by
    simp only [valR]
    by_cases h : freshC n seen = 0
    · rw [if_pos h, valR_ok now ser ts l (k + 1) (seen ++ [n]), fresh_cons]
      rw [freshC_iff] at h
      simp only [h, true_and, List.append_assoc, List.cons_append, List.nil_append, not_false_eq_true, and_self]
    · rw [if_neg h]
      simp only [h, false_iff, fresh_cons]
      rintro ⟨⟨b1, _⟩, _⟩
      exact h ((freshC_iff n seen).2 b1)
theorem valid_iff (c : Ck) : (validate c).1 = 0 ↔ Valid c := by
  unfold validate
  cases h1 : timeB c.now
  · simp; intro hv; have := hv.now; rw [h1] at this; cases this
  cases h2 : timeB c.ser
  · simp; intro hv; have := hv.ser; rw [h2] at this; cases this
  simp only [Bool.and_self, if_true]
  by_cases h3 : 1000 < c.rs.length + c.ts.length
  · simp [h3]; intro hv; have := hv.len; omega
  rw [if_neg h3, valR_ok, valT_ok]
  simp only [List.nil_append]
  constructor
  · rintro ⟨⟨a1, a2, a3⟩, b1, ⟨b2, b3, b4⟩, _, b5⟩
    refine ⟨h1, h2, by omega, ?_, ?_, b1, b5⟩
    · intro x hx
      rcases List.mem_append.1 hx with h | h
      · exact a3 x h
      · exact b4 x h
    · rw [List.nodup_append]
      exact ⟨a1, b2, fun x hx y hy e => b3 y hy (e ▸ hx)⟩
  · intro hv
    have hn := hv.nodup
    rw [List.nodup_append] at hn
    exact ⟨⟨hn.1, by simp, fun x hx => hv.tasks x (List.mem_append.2 (.inl hx))⟩, hv.times, ⟨hn.2.1, fun x hx h => hn.2.2 x h x hx rfl, fun x hx => hv.tasks x (List.mem_append.2 (.inr hx))⟩, by simp, hv.sorted⟩
theorem validate_zero {c : Ck} (h : (validate c).1 = 0) : validate c = (0, 0) := by
  have hT : ∀ (now ser : Int) (l : List Tm) (prev : Option Tm) (k : Nat) (seen : List Int), (valT now ser prev l k seen).1 = 0 → valT now ser prev l k seen = (0, 0) := by
    intro now ser l
    induction l with
    | nil => intros; rfl
    | cons t l ih =>
      intro prev k seen h
      simp only [valT] at h ⊢
      split at h
      · rename_i h0; rw [if_pos h0]; exact ih _ _ _ h
      · rename_i h0; exact absurd h h0
  have hR : ∀ (now ser : Int) (ts : List Tm) (l : List Int) (k : Nat) (seen : List Int), (valR now ser ts l k seen).1 = 0 → valR now ser ts l k seen = (0, 0) := by
    intro now ser ts l
    induction l with
    | nil => intro k seen h; exact hT _ _ _ _ _ _ h
    | cons n l ih =>
      intro k seen h
      simp only [valR] at h ⊢
      split at h
      · rename_i h0; rw [if_pos h0]; exact ih _ _ h
      · rename_i h0; exact absurd h h0
  unfold validate at h ⊢
  split at h
  · rename_i h0
    rw [if_pos h0]
    split at h
    · simp at h
    · rename_i h1; rw [if_neg h1]; exact hR _ _ _ _ _ _ h
  · simp at h
end Go.Proofs.Ytgiebofmfkacgaa
