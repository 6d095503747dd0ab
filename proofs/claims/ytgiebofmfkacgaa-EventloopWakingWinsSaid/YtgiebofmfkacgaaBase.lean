/-
  Words for memory, of no program: a slice that reads as a list of cells; lists of integers and of timers as cells.
-/
import Derived.WalkKit
import Derived.WalkSpells
import Derived.WalkLawsBesides
import Derived.Deep.QuietTactic
import Derived.BigQuiet
import Derived.Lib.Hide
import Derived.Deep.AppendLies
import Derived.Deep.Draws
import Derived.Laws.OwnMore
import Derived.Maps.AppendAt
import Derived.RegionTactic
import Derived.OwnWalk
namespace Go.Proofs.Ytgiebofmfkacgaa
open Go.RowKit

theorem block_of_add (a : Addr) (n : Nat) : (a.add n).block = a.block := by unfold Addr.add; split <;> rfl
theorem add_of_add (a : Addr) (i j : Nat) : (a.add i).add j = a.add (i + j) := by
  unfold Addr.add
  by_cases hi : i = 0 <;> by_cases hj : j = 0 <;> simp [hi, hj, Nat.add_assoc]

/-- The cells xs lie from A on, in a block of w. -/
def Rd (w : World) (A : Option Addr) (xs : List Value) : Prop :=
  0 < xs.length → ∃ b o, A = some ⟨b, o, none⟩ ∧ b < w.heap.size ∧ ∀ j u, xs[j]? = some u → w.cell? ⟨b, o + j, none⟩ = some u

section
variable {w w' : World} {A : Option Addr} {xs : List Value}
theorem Rd.nil : Rd w A [] := fun h => absurd h (by simp)
theorem Rd.keep (h : Rd w A xs) (hs : w.heap.size ≤ w'.heap.size) (hk : ∀ p : Addr, p.block < w.heap.size → w'.cell? p = w.cell? p) : Rd w' A xs := fun hn => by
  obtain ⟨b, o, e, hb, hc⟩ := h hn
  exact ⟨b, o, e, by omega, fun j u hu => (hk _ hb).trans (hc j u hu)⟩
theorem Rd.below (h : Rd w A xs) (hb : Below w.heap.size w w') : Rd w' A xs := h.keep hb.size fun _ hp => hb.cell hp
theorem Rd.drew (h : Rd w A xs) : Rd w.drew A xs := h
theorem Rd.drewN (h : Rd w A xs) (n : Nat) : Rd (w.drewN n) A xs := h
theorem Rd.alloc (h : Rd w A xs) (o : Obj) : Rd (w.alloc o) A xs := h.keep (by simp) fun p hp => World.cell?_alloc_lt w o p hp
/-- A cut 's[k:]' of a row of size-cell elements. -/
theorem Rd.cut {size n k cap : Nat} (h : Rd w A xs) (hl : xs.length = n * size) (hk : k ≤ n) (hc : n ≤ cap) :
    Rd w (if cap = k then A else A.map (·.add (k * size))) (xs.drop (k * size)) := by
  intro hn
  rw [List.length_drop, hl, ← Nat.sub_mul] at hn
  have h1 : 0 < n - k := Nat.pos_of_mul_pos_right hn
  have h2 : 0 < xs.length := by rw [hl]; exact Nat.lt_of_lt_of_le hn (Nat.mul_le_mul_right _ (by omega))
  obtain ⟨b, o, rfl, hb, hcell⟩ := h h2
  rw [if_neg (by omega)]
  refine ⟨b, o + k * size, ?_, hb, fun j u hu => ?_⟩
  · simp only [Option.map_some, Addr.add]; split
    · rename_i h0; rw [h0]; rfl
    · rfl
  · rw [Nat.add_assoc]; exact hcell _ u (by rw [← hu, List.getElem?_drop])
theorem Rd.take (h : Rd w A xs) (k : Nat) : Rd w A (xs.take k) := fun hn => by
  rw [List.length_take] at hn
  obtain ⟨b, o, e, hb, hc⟩ := h (by omega)
  refine ⟨b, o, e, hb, fun j u hu => hc j u ?_⟩
  rw [List.getElem?_take] at hu
  split at hu
  · exact hu
  · cases hu
theorem Rd.of_own {base size n c : Nat} {e : TypeId} (h : w.ownsRow base e size (.slice A n c) n xs) : Rd w A xs := fun hn => by
  have hn' : 0 < n := by
    rcases Nat.eq_zero_or_pos n with h0 | h0
    · subst h0; have := h.1; omega
    · exact h0
  obtain ⟨g, cap, hv, _, hlt⟩ := h.form hn'
  have hA : A = some ⟨g, 0, none⟩ := by injection hv
  subst hA
  refine ⟨g, 0, rfl, hlt, fun j u hu => ?_⟩
  have := h.cells (g := g) rfl j u hu
  rw [Nat.zero_add]
  unfold Addr.add at this
  split at this
  · rename_i h0; subst h0; exact this
  · simpa using this
end

/-- The cells xs lie from A on, in a block that is let. -/
def RdIn (w : World) (ok : Nat → Prop) (A : Option Addr) (xs : List Value) : Prop :=
  0 < xs.length → ∃ b o, A = some ⟨b, o, none⟩ ∧ ok b ∧ b < w.heap.size ∧ ∀ j u, xs[j]? = some u → w.cell? ⟨b, o + j, none⟩ = some u
section
variable {w w' : World} {ok ok' : Nat → Prop} {A : Option Addr} {xs : List Value}
theorem RdIn.rd (h : RdIn w ok A xs) : Rd w A xs := fun hn => by
  obtain ⟨b, o, e, _, hb, hc⟩ := h hn
  exact ⟨b, o, e, hb, hc⟩
theorem RdIn.nil : RdIn w ok A [] := fun h => absurd h (by simp)
theorem RdIn.weaken (h : RdIn w ok A xs) (hk : ∀ b, ok b → ok' b) : RdIn w ok' A xs := fun hn => by
  obtain ⟨b, o, e, h1, hb, hc⟩ := h hn
  exact ⟨b, o, e, hk b h1, hb, hc⟩
theorem RdIn.below (h : RdIn w ok A xs) (hb : Below w.heap.size w w') : RdIn w' ok A xs := fun hn => by
  obtain ⟨b, o, e, h1, hlt, hc⟩ := h hn
  exact ⟨b, o, e, h1, Nat.lt_of_lt_of_le hlt hb.size, fun j u hu => (hb.cell (p := ⟨b, o + j, none⟩) hlt).trans (hc j u hu)⟩
theorem RdIn.setCell (h : RdIn w ok A xs) {p : Addr} (hp : ¬ ok p.block) (u : Value) : RdIn (w.setCell p u) ok A xs := fun hn => by
  obtain ⟨b, o, e, h1, hlt, hc⟩ := h hn
  refine ⟨b, o, e, h1, by simpa [World.setCell] using hlt, fun j v hv => ?_⟩
  rw [World.cell?_setCell_other w p _ u (fun he => hp (by rw [he]; exact h1))]
  exact hc j v hv
theorem RdIn.cut {size n k cap : Nat} (h : RdIn w ok A xs) (hl : xs.length = n * size) (hk : k ≤ n) (hc : n ≤ cap) :
    RdIn w ok (if cap = k then A else A.map (·.add (k * size))) (xs.drop (k * size)) := by
  intro hn
  rw [List.length_drop, hl, ← Nat.sub_mul] at hn
  have h1 : 0 < n - k := Nat.pos_of_mul_pos_right hn
  have h2 : 0 < xs.length := by rw [hl]; exact Nat.lt_of_lt_of_le hn (Nat.mul_le_mul_right _ (by omega))
  obtain ⟨b, o, rfl, hok, hb, hcell⟩ := h h2
  rw [if_neg (by omega)]
  refine ⟨b, o + k * size, ?_, hok, hb, fun j u hu => ?_⟩
  · simp only [Option.map_some, Addr.add]; split
    · rename_i h0; rw [h0]; rfl
    · rfl
  · rw [Nat.add_assoc]; exact hcell _ u (by rw [← hu, List.getElem?_drop])
theorem Rd.within (h : Rd w A xs) {n : Nat} (hn : w.heap.size ≤ n) : RdIn w (· < n) A xs := fun hp => by
  obtain ⟨b, o, e, hb, hc⟩ := h hp
  exact ⟨b, o, e, by omega, hb, hc⟩
theorem RdIn.of_own {base size n c : Nat} {e : TypeId} (h : w.ownsRow base e size (.slice A n c) n xs) : RdIn w (base ≤ ·) A xs := fun hn => by
  have hn' : 0 < n := by
    rcases Nat.eq_zero_or_pos n with h0 | h0
    · subst h0; have := h.1; omega
    · exact h0
  obtain ⟨g, cap, hv, hbg, hlt⟩ := h.form hn'
  have hA : A = some ⟨g, 0, none⟩ := by injection hv
  subst hA
  obtain ⟨b, o, e', hb, hc⟩ := Rd.of_own h hn
  refine ⟨b, o, e', ?_, hb, hc⟩
  simp at e'
  rw [← e'.1]; exact hbg
end

/-- All old cells and marks read as before. -/
theorem bcell {W w1 : World} (hb : Below W.heap.size W w1) : (∀ b o, b < W.heap.size → w1.cell? ⟨b, o, none⟩ = W.cell? ⟨b, o, none⟩) ∧ (∀ b o, b < W.heap.size → w1.frozen? ⟨b, o, none⟩ = W.frozen? ⟨b, o, none⟩) :=
  ⟨fun b o h => hb.cell (p := ⟨b, o, none⟩) h, fun b o h => hb.frozen (p := ⟨b, o, none⟩) h⟩

/-! Blocks known whole -/
def Blk (w : World) (g : Nat) (t : TypeId) (cs : Array Value) : Prop := w.heap[g]? = some (.cells cs t (0, 0))
section
variable {w w' : World} {g : Nat} {t : TypeId} {cs : Array Value}
theorem Blk.lt (h : Blk w g t cs) : g < w.heap.size := by
  rcases Nat.lt_or_ge g w.heap.size with hlt | hge
  · exact hlt
  · unfold Blk at h; rw [Array.getElem?_eq_none hge] at h; cases h
theorem Blk.cell (h : Blk w g t cs) (i : Nat) : w.cell? ⟨g, i, none⟩ = cs[i]? := by
  unfold Blk at h; simp [World.cell?, h]
theorem Blk.frozen (h : Blk w g t cs) (i : Nat) : w.frozen? ⟨g, i, none⟩ = false := by
  unfold Blk at h; simp [World.frozen?, h]
theorem Blk.new (w : World) (t : TypeId) (cs : Array Value) : Blk (w.alloc (.cells cs t)) w.heap.size t cs := heap_alloc_new w _
theorem Blk.alloc (h : Blk w g t cs) (o : Obj) : Blk (w.alloc o) g t cs := (Below.heap_alloc w o g h.lt).trans h
theorem Blk.below {B : Nat} (h : Blk w g t cs) (hb : Below B w w') (hg : g < B) : Blk w' g t cs := (hb.block g hg).trans h
theorem Blk.below' (h : Blk w g t cs) (hb : Below w.heap.size w w') : Blk w' g t cs := h.below hb h.lt
theorem Blk.set (h : Blk w g t cs) (i : Nat) (u : Value) : Blk (w.setCell ⟨g, i, none⟩ u) g t (cs.setIfInBounds i u) := by
  unfold Blk at h ⊢; simp [World.setCell, Array.getElem?_modify, h]
theorem Blk.far (h : Blk w g t cs) {p : Addr} (hp : g ≠ p.block) (u : Value) : Blk (w.setCell p u) g t cs := (Below.heap_setCell w p u g hp).trans h
theorem Blk.two {c0 c1 : Value} (h : Blk w g t #[c0, c1]) : w.cell? ⟨g, 0, none⟩ = some c0 ∧ w.cell? ⟨g, 1, none⟩ = some c1 ∧ w.frozen? ⟨g, 0, none⟩ = false ∧ w.frozen? ⟨g, 1, none⟩ = false :=
  ⟨h.cell 0, h.cell 1, h.frozen 0, h.frozen 1⟩
theorem Blk.three {c0 c1 c2 : Value} (h : Blk w g t #[c0, c1, c2]) : w.cell? ⟨g, 0, none⟩ = some c0 ∧ w.cell? ⟨g, 1, none⟩ = some c1 ∧ w.cell? ⟨g, 2, none⟩ = some c2 ∧ w.frozen? ⟨g, 0, none⟩ = false ∧ w.frozen? ⟨g, 1, none⟩ = false ∧ w.frozen? ⟨g, 2, none⟩ = false :=
  ⟨h.cell 0, h.cell 1, h.cell 2, h.frozen 0, h.frozen 1, h.frozen 2⟩
theorem Blk.four {c0 c1 c2 c3 : Value} (h : Blk w g t #[c0, c1, c2, c3]) : w.cell? ⟨g, 0, none⟩ = some c0 ∧ w.cell? ⟨g, 1, none⟩ = some c1 ∧ w.cell? ⟨g, 2, none⟩ = some c2 ∧ w.cell? ⟨g, 3, none⟩ = some c3 ∧
    w.frozen? ⟨g, 0, none⟩ = false ∧ w.frozen? ⟨g, 1, none⟩ = false ∧ w.frozen? ⟨g, 2, none⟩ = false ∧ w.frozen? ⟨g, 3, none⟩ = false :=
  ⟨h.cell 0, h.cell 1, h.cell 2, h.cell 3, h.frozen 0, h.frozen 1, h.frozen 2, h.frozen 3⟩
end
theorem Blk.set4 {w : World} {g : Nat} {t : TypeId} {c0 c1 c2 c3 : Value} (h : Blk w g t #[c0, c1, c2, c3]) (x0 x1 x2 x3 : Value) : Blk ((((w.setCell ⟨g, 0, none⟩ x0).setCell ⟨g, 1, none⟩ x1).setCell ⟨g, 2, none⟩ x2).setCell ⟨g, 3, none⟩ x3) g t #[x0, x1, x2, x3] := by
  have := (((h.set 0 x0).set 1 x1).set 2 x2).set 3 x3
  simpa using this
theorem Blk.far4 {w : World} {g g' : Nat} {t : TypeId} {cs : Array Value} (h : Blk w g t cs) (hne : g ≠ g') (x0 x1 x2 x3 : Value) : Blk ((((w.setCell ⟨g', 0, none⟩ x0).setCell ⟨g', 1, none⟩ x1).setCell ⟨g', 2, none⟩ x2).setCell ⟨g', 3, none⟩ x3) g t cs :=
  (((h.far (p := ⟨g', 0, none⟩) hne x0).far (p := ⟨g', 1, none⟩) hne x1).far (p := ⟨g', 2, none⟩) hne x2).far (p := ⟨g', 3, none⟩) hne x3
/-- The boxes that a function laid first, behind a call. -/
theorem box1 {w W w' : World} {B : Nat} {o1 : Obj} (hb : Below B W w') (hW : W.heap = (w.alloc o1).heap) (hB : w.heap.size + 1 ≤ B) : w'.heap[w.heap.size]? = some o1 ∧ w.heap.size < w'.heap.size := by
  refine ⟨(hb.block _ (by omega)).trans ?_, ?_⟩
  · rw [hW]; exact heap_alloc_new w _
  · have := hb.size; rw [hW] at this; simp at this; omega
theorem box2 {w W w' : World} {B : Nat} {o1 o2 : Obj} (hb : Below B W w') (hW : W.heap = ((w.alloc o1).alloc o2).heap) (hB : w.heap.size + 2 ≤ B) : w'.heap[w.heap.size]? = some o1 ∧ w'.heap[w.heap.size + 1]? = some o2 ∧ w.heap.size + 1 < w'.heap.size := by
  refine ⟨(hb.block _ (by omega)).trans ?_, (hb.block _ (by omega)).trans ?_, ?_⟩
  · rw [hW]; exact (Below.heap_alloc _ _ _ (by simp)).trans (heap_alloc_new w _)
  · rw [hW]; have := heap_alloc_new (w.alloc o1) o2; simpa using this
  · have := hb.size; rw [hW] at this; simp at this; omega
theorem box3 {w W w' : World} {B : Nat} {o1 o2 o3 : Obj} (hb : Below B W w') (hW : W.heap = (((w.alloc o1).alloc o2).alloc o3).heap) (hB : w.heap.size + 3 ≤ B) : w'.heap[w.heap.size]? = some o1 ∧ w'.heap[w.heap.size + 1]? = some o2 ∧ w'.heap[w.heap.size + 2]? = some o3 ∧ w.heap.size + 2 < w'.heap.size := by
  refine ⟨(hb.block _ (by omega)).trans ?_, (hb.block _ (by omega)).trans ?_, (hb.block _ (by omega)).trans ?_, ?_⟩
  · rw [hW]; exact (Below.heap_alloc _ _ _ (by simp; omega)).trans ((Below.heap_alloc _ _ _ (by simp)).trans (heap_alloc_new w _))
  · rw [hW]; refine (Below.heap_alloc _ _ _ (by simp)).trans ?_; have := heap_alloc_new (w.alloc o1) o2; simpa using this
  · rw [hW]; have := heap_alloc_new ((w.alloc o1).alloc o2) o3; simpa using this
  · have := hb.size; rw [hW] at this; simp at this; omega

theorem ret_bool {a b : Bool} (h : a = b) : Ending.returned (.bool a) = .returned (.bool b) := by rw [h]
theorem ret_int {k : IntKind} {a b : Int} (h : a = b) : Ending.returned (.int k a) = .returned (.int k b) := by rw [h]

def ints (zs : List Int) : List Value := zs.map (Value.int .i64)
theorem ints_length (zs : List Int) : (ints zs).length = zs.length := by simp [ints]
theorem ints_drop (zs : List Int) (k : Nat) : ints (zs.drop k) = (ints zs).drop k := by simp [ints, List.map_drop]
theorem ints_take (zs : List Int) (k : Nat) : ints (zs.take k) = (ints zs).take k := by simp [ints, List.map_take]
theorem ints_get {zs : List Int} {k : Nat} (h : k < zs.length) : (ints zs)[k]? = some (.int .i64 zs[k]) := by simp [ints, h]
theorem Rd.int {w : World} {A : Option Addr} {zs : List Int} {k : Nat} (h : Rd w A (ints zs)) (hk : k < zs.length) :
    ∃ b o, A = some ⟨b, o, none⟩ ∧ b < w.heap.size ∧ w.cell? ⟨b, o + k, none⟩ = some (.int .i64 zs[k]) := by
  obtain ⟨b, o, e, hb, hc⟩ := h (by rw [ints_length]; omega)
  exact ⟨b, o, e, hb, hc k _ (ints_get hk)⟩

/-! Rows of records of m cells each -/
def rows {α : Type} (f : α → List Value) (xs : List α) : List Value := xs.flatMap f
section
variable {α : Type} {f : α → List Value} {m : Nat}
theorem rows_nil : rows f [] = [] := rfl
theorem rows_cons (x : α) (xs : List α) : rows f (x :: xs) = f x ++ rows f xs := by simp [rows]
theorem rows_append (xs ys : List α) : rows f (xs ++ ys) = rows f xs ++ rows f ys := by simp [rows]
theorem rows_one (x : α) : rows f [x] = f x := by simp [rows]
theorem rows_length (hf : ∀ x, (f x).length = m) : ∀ xs : List α, (rows f xs).length = xs.length * m
  | [] => by simp [rows]
  | x :: xs => by rw [rows_cons, List.length_append, hf, rows_length hf xs, List.length_cons, Nat.succ_mul]; omega
theorem rows_drop (hf : ∀ x, (f x).length = m) : ∀ (xs : List α) (k : Nat), rows f (xs.drop k) = (rows f xs).drop (k * m)
  | xs, 0 => by simp
  | [], k + 1 => by simp [rows]
  | x :: xs, k + 1 => by
    have h1 : (k + 1) * m - m = k * m := by rw [Nat.succ_mul]; omega
    have h2 : (f x).drop ((k + 1) * m) = [] := List.drop_eq_nil_of_le (by rw [hf, Nat.succ_mul]; omega)
    rw [List.drop_succ_cons, rows_drop hf xs k, rows_cons, List.drop_append, hf, h1, h2, List.nil_append]
theorem rows_take (hf : ∀ x, (f x).length = m) : ∀ (xs : List α) (k : Nat), rows f (xs.take k) = (rows f xs).take (k * m)
  | xs, 0 => by simp [rows]
  | [], k + 1 => by simp [rows]
  | x :: xs, k + 1 => by
    have h1 : (k + 1) * m - m = k * m := by rw [Nat.succ_mul]; omega
    have h2 : (f x).take ((k + 1) * m) = f x := List.take_of_length_le (by rw [hf, Nat.succ_mul]; omega)
    rw [List.take_succ_cons, rows_cons, rows_take hf xs k, rows_cons, List.take_append, hf, h1, h2]
theorem rows_get (hf : ∀ x, (f x).length = m) {xs : List α} {k : Nat} (hk : k < xs.length) (j : Nat) (hj : j < m) : (rows f xs)[k * m + j]? = (f xs[k])[j]? := by
  rw [← List.getElem?_drop, ← rows_drop hf, List.drop_eq_getElem_cons hk, rows_cons, List.getElem?_append_left (by rw [hf]; exact hj)]
theorem Rd.row {w : World} {A : Option Addr} {xs : List α} {k : Nat} (h : Rd w A (rows f xs)) (hf : ∀ x, (f x).length = m) (hk : k < xs.length) (hm : 0 < m) :
    ∃ b o, A = some ⟨b, o, none⟩ ∧ b < w.heap.size ∧ ∀ j u, (f xs[k])[j]? = some u → w.cell? ⟨b, o + (k * m + j), none⟩ = some u := by
  obtain ⟨b, o, e, hb, hc⟩ := h (by rw [rows_length hf]; exact Nat.mul_pos (by omega) hm)
  refine ⟨b, o, e, hb, fun j u hu => hc _ u ?_⟩
  have hj : j < m := by
    rcases Nat.lt_or_ge j m with h1 | h1
    · exact h1
    · rw [List.getElem?_eq_none (by rw [hf]; exact h1)] at hu; cases hu
  rw [rows_get hf hk j hj, hu]
end

end Go.Proofs.Ytgiebofmfkacgaa
