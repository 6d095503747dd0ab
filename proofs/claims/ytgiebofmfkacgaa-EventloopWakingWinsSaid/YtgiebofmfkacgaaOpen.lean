/-
  An argument opened: a slice whose elements are rows of cells reads as those rows.
-/
import Derived.Test.YtgiebofmfkacgaaBase
import Derived.Deep.Slices
import Derived.Deep.Fields
import Derived.ChangeSame
import Derived.Lib.SmallJoins
namespace Go.Proofs.Ytgiebofmfkacgaa
open Go.ChangeShapes Go.WideShapes Go.Deep

section
variable {H : Type} {enc : TypeId × Value → H} {P : Program} {w : World} {base : Nat} {spare : Nat → Bool} {held : Bool}

theorem cell_lt {p : Addr} {v : Value} (h : w.cell? p = some v) : p.block < w.heap.size := by
  by_cases hl : p.block < w.heap.size
  · exact hl
  · have : w.heap[p.block]? = none := by simp; omega
    simp [World.cell?, this] at h

/-- A slice of elements that are rows of m cells each. 'good' is what is told of each element. -/
theorem open_rows {α : Type} {f : α → List Value} {good : α → Prop} {m : Nat} {t e : TypeId} {fuel : Nat} {v : Value} {x : DataW H × List MemPlace} (ht : P.underlying t = some (.slice e)) (hC : P.cellsOf e = m)
    (hf : ∀ x, (f x).length = m) (helem : ∀ n cs y, DataW.trod enc P w base spare held n e cs = some y → ∃ x, cs = f x ∧ good x)
    (h : DataW.trod enc P w base spare held fuel t [v] = some x) :
    ∃ (A : Option Addr) (cap : Nat) (xs : List α), v = .slice A xs.length cap ∧ xs.length ≤ cap ∧ cap ≤ maxLen ∧ Rd w A (rows f xs) ∧ (∀ y ∈ xs, good y) ∧ (xs = [] ∨ ∃ el sp, x.1 = .slice el sp ∧ el.length = xs.length) := by
  rcases open_slice ht h with ⟨h0, _⟩ | ⟨a, len, cap, k, n, D, Pl, hcs, hb, hl, hmx, hk, hx, hi⟩
  · injection h0 with h0
    exact ⟨none, 0, [], h0, Nat.le_refl _, by simp [maxLen], Rd.nil, by simp, .inl rfl⟩
  · injection hcs with hcs
    have hlk : len ≤ k := by rw [hk]; split <;> omega
    have hE : ∀ i, i < len → ∃ x : α, good x ∧ ∀ j, j < m → w.cell? (a.add (i * m + j)) = (f x)[j]? := by
      intro i hil
      obtain ⟨cs', hc, ht'⟩ := hi i (by omega)
      obtain ⟨y, rfl, hg⟩ := helem _ _ _ ht'
      rw [hC] at hc
      obtain ⟨_, hcl, hat⟩ := World.cells?_some hc
      exact ⟨y, hg, fun j hj => by rw [← add_of_add]; exact hat j hj⟩
    have hL : ∀ k, k ≤ len → ∃ xs : List α, xs.length = k ∧ (∀ y ∈ xs, good y) ∧ ∀ j u, (rows f xs)[j]? = some u → w.cell? (a.add j) = some u := by
      intro k
      induction k with
      | zero => intro _; exact ⟨[], rfl, by simp, fun j u hu => by simp [rows] at hu⟩
      | succ k ih =>
        intro hk
        obtain ⟨xs, h1, h2, h3⟩ := ih (by omega)
        obtain ⟨y, hg, hy⟩ := hE k (by omega)
        refine ⟨xs ++ [y], by simp [h1], ?_, ?_⟩
        · intro z hz
          rcases List.mem_append.1 hz with hz | hz
          · exact h2 z hz
          · rw [List.mem_singleton.1 hz]; exact hg
        · intro j u hu
          rw [rows_append, rows_one] at hu
          have hrl : (rows f xs).length = k * m := by rw [rows_length hf, h1]
          by_cases hj : j < k * m
          · rw [List.getElem?_append_left (by omega)] at hu
            exact h3 j u hu
          · rw [List.getElem?_append_right (by omega), hrl] at hu
            have hjm : j - k * m < m := by
              have := (List.getElem?_eq_some_iff.1 hu).1
              rw [hf] at this; exact this
            have := hy (j - k * m) hjm
            rw [show k * m + (j - k * m) = j by omega] at this
            rw [this, hu]
    obtain ⟨xs, h1, h2, h3⟩ := hL len (Nat.le_refl _)
    refine ⟨some a, cap, xs, by rw [h1]; exact hcs, by omega, hmx, ?_, h2, .inr ⟨_, _, by rw [hx], by simp [h1]⟩⟩
    intro hn
    obtain ⟨b, off, spot⟩ := a
    have hc0 := h3 0 _ (List.getElem?_eq_getElem hn)
    have hspot : spot = none := by simpa [Addr.add] using World.cell?_spot hc0
    subst hspot
    have hlt := cell_lt hc0
    refine ⟨b, off, rfl, by simpa [block_of_add] using hlt, fun j u hu => ?_⟩
    have := h3 j u hu
    rwa [add_plain] at this
end

section
variable {H : Type} {P : Program} {ts : List TypeId} {ds : List (DataW H)}
/-- What a field of a struct weighs is weighed. -/
theorem weights_field {t u : TypeId} {fs : Array Field} {parts : List (DataW H)} {j : Nat} {d : DataW H} (hu : P.underlying t = some (.struct fs)) (hf : (fs.toList.map (·.type))[j]? = some u) (hd : parts[j]? = some d) {n : Nat} (hn : n ∈ d.weights P u) : n ∈ (DataW.agg parts).weights P t := by
  simp only [DataW.weights, hu]
  exact DataW.weights_mem_each hf hd n hn
theorem weights_slice {t e : TypeId} {el sp : List (DataW H)} (hu : P.underlying t = some (.slice e)) : (el.length + sp.length) * P.bytesOf e ∈ (DataW.slice el sp).weights P t := by
  simp [DataW.weights, hu]
theorem weights_le (h : (DataW.weightsEach P ts ds).all (· ≤ reachBytes) = true) {j : Nat} {t : TypeId} {d : DataW H} (ht : ts[j]? = some t) (hd : ds[j]? = some d) {n : Nat} (hn : n ∈ d.weights P t) : n ≤ 140737488351232 := by
  have := List.all_eq_true.1 h _ (DataW.weights_mem_each ht hd n hn)
  have h2 := of_decide_eq_true this
  exact h2
end
end Go.Proofs.Ytgiebofmfkacgaa
